/-
  A logical run of Go code: the operations, one by one.
-/
import Derived.Test.YtgnefbngkhjfcaaDoorLgS
import Derived.Laws.BytesString
set_option linter.unusedSimpArgs false
set_option linter.unusedVariables false
namespace Go.Lg
open Go.Tg Go.RowKit

/-- a call: what it hands back, and what becomes of memory -/
def CallOk (P : Program) (f : FuncId) (args : List Value) (H : LH) (v : Value) (H' : LH) : Prop :=
  ∀ (ι : Ren) (w : World) (args' : Array Value), Rel P H ι w → args.length = args'.size → (∀ (i : Nat) (x y : Value), args[i]? = some x → args'[i]? = some y → VR H.D ι x y) →
    Calls P f args' w (fun e w' => ∃ ι' v', e = .returned v' ∧ Out P H ι w H' ι' w' ∧ VR H'.D ι' v v')
def Entered (P : Program) (f : FuncId) : Prop := ∃ fn, P.funcs[f]? = some fn ∧ fn.body.isSome = true ∧ fn.name ≠ "runtime.NumGoroutine"
def TOk (P : Program) (T : Callee) : Prop := ∀ f args H v H', T f args H = some (v, H') → Entered P f ∧ CallOk P f args H v H'

section
variable {P : Program} {T : Callee} {H H' : LH} {ι : Ren} {o : Oper} {a : Act} {w : World} {v v' : Value} {N : Nat} {fr : Fr}

theorem vr_bool {n : Nat → Prop} {b : Bool} (h : VR n ι (.bool b) v') : v' = .bool b := flat_eq h rfl
theorem vr_int {n : Nat → Prop} {k : IntKind} {i : Int} (h : VR n ι (.int k i) v') : v' = .int k i := flat_eq h rfl
theorem vr_isNone {n : Nat → Prop} {b : Option Addr} (h : VR n ι (.pointer b) v') : ∃ b', v' = .pointer b' ∧ b'.isNone = b.isNone := by
  cases h with
  | flat _ hv => exact ⟨b, rfl, rfl⟩
  | ptr _ _ hl => exact ⟨_, rfl, rfl⟩
theorem vr_slice {n : Nat → Prop} {b : Option Addr} {k c : Nat} (h : VR n ι (.slice b k c) v') : ∃ b' c', v' = .slice b' k c' ∧ b'.isNone = b.isNone := by
  cases h with
  | flat _ hv => exact ⟨b, _, rfl, rfl⟩
  | slice _ _ _ _ hl _ => exact ⟨_, _, rfl, rfl⟩
  | slice0 _ _ _ hl => exact ⟨_, _, rfl, rfl⟩

/-- an operation that asks nothing of memory -/
def PureOk (P : Program) (n : Nat → Prop) (ι : Ren) (o : Oper) (a : Act) (v : Value) : Prop := ∃ v', VR n ι v v' ∧ ∀ w : World, (execOp a.eval o).run P w = .ok (.value v') w
/-- an operation that only reads -/
def ReadOk (P : Program) (n : Nat → Prop) (ι : Ren) (o : Oper) (a : Act) (w : World) (v : Value) : Prop := ∃ v', VR n ι v v' ∧ ∀ w' : World, Change (fun _ => False) w w' → (execOp a.eval o).run P w' = .ok (.value v') w'
theorem pureok {n : Nat → Prop} (hrun : ∀ w : World, (execOp a.eval o).run P w = .ok (.value v') w) (hv : VR n ι v v') : PureOk P n ι o a v := ⟨v', hv, hrun⟩
theorem PureOk.read {n : Nat → Prop} (h : PureOk P n ι o a v) : ReadOk P n ι o a w v := let ⟨v', hv, hr⟩ := h; ⟨v', hv, fun w' _ => hr w'⟩
theorem ReadOk.opok (h : ReadOk P H.D ι o a w v) (hrel : Rel P H ι w) : OpOk P H ι o a w v H := let ⟨v', hv, hr⟩ := h; opok_value (hr w (Change.refl _ w)) hrel hv
theorem PureOk.opok (h : PureOk P H.D ι o a v) (hrel : Rel P H ι w) : OpOk P H ι o a w v H := h.read.opok hrel
theorem rel_lt (h : Rel P H ι w) {l : Nat} {b : LB} (hb : H.get l = some b) : (ι l).blk < w.heap.size := by
  obtain ⟨arr', t, f, hw, _⟩ := h.blk l b hb
  exact lt_of_block hw
theorem move_ok (hfr : FrR H.D ι N fr a.tmps) {x : Operand} (ho : o.op = .move x ∨ o.op = .assign x) : PureOk P H.D ι o a (ev fr x) := by
  refine pureok (v' := a.eval x) (fun w => ?_) (hfr.ev x)
  rcases ho with ho | ho <;> (unfold execOp; simp only [ho]; rfl)
theorem pick_ok (hfr : FrR H.D ι N fr a.tmps) {c x y : Operand} {t : Bool} (ho : o.op = .pick c x y) (hc : ev fr c = .bool t) : PureOk P H.D ι o a (if t then ev fr x else ev fr y) := by
  have h1 := hfr.ev c
  rw [hc] at h1
  have h2 := vr_bool h1
  refine pureok (v' := if t then a.eval x else a.eval y) (fun w => ?_) ?_
  · unfold execOp; simp only [ho, h2, asBool, Sem.run_bind, Sem.run_pure, Result.andThen_ok]
  · cases t
    · exact hfr.ev y
    · exact hfr.ev x
theorem load_ok (hrel : Rel P H ι w) (hfr : FrR H.D ι N fr a.tmps) {t : TypeId} {x : Operand} {l off : Nat} (ho : o.op = .load t x) (hx : ev fr x = .pointer (some ⟨l, off, none⟩)) (hl : lload P t l off H = some v) :
    ReadOk P H.D ι o a w v := by
  have h1 := hfr.ev x
  rw [hx] at h1
  obtain ⟨_, h2⟩ := vr_ptr h1
  obtain ⟨v', hr, hv⟩ := load_sound hrel hl
  have hlt : (ι l).blk < w.heap.size := by
    unfold lload at hl
    split at hl
    · exact rel_lt hrel ‹_›
    · cases hl
  refine ⟨v', hv, fun w' hw' => ?_⟩
  unfold execOp; simp only [ho, h2, Instr.loadAt, Instr.sureAddr, Sem.run_bind, Sem.run_pure, Result.andThen_ok, hr w' (hw'.block _ hlt (fun h => h))]
theorem store_ok (hrel : Rel P H ι w) (hfr : FrR H.D ι N fr a.tmps) {t : TypeId} {x y : Operand} {l off : Nat} (ho : o.op = .store t x y) (hx : ev fr x = .pointer (some ⟨l, off, none⟩)) (hl : lstore P t l off (ev fr y) H = some H') :
    OpOk P H ι o a w undef H' := by
  have h1 := hfr.ev x
  rw [hx] at h1
  obtain ⟨_, h2⟩ := vr_ptr h1
  obtain ⟨w', hr, hout⟩ := store_sound hrel (hfr.ev y) hl
  refine opok_skip (w' := w') ?_ hout
  unfold execOp; simp only [ho, h2, Instr.storeAt, Instr.sureAddr, Sem.run_bind, Sem.run_pure, Result.andThen_ok, hr]
theorem box_ok (hrel : Rel P H ι w) (hfr : FrR H.D ι N fr a.tmps) {e : TypeId} {x : Operand} (ho : o.op = .box e x) (hk : knownB (ev fr x) = true) (hs : sz P e = some (ev fr x).cells.size) :
    OpOk P H ι o a w (.pointer (some ⟨H.n, 0, none⟩)) (H.new ⟨(ev fr x).cells.toList, e, true⟩) := by
  obtain ⟨k1, k2⟩ := vr_cells (hfr.ev x) hk
  have hout := rel_new (slack := 0) (arr := (a.eval x).cells) (b := ⟨(ev fr x).cells.toList, e, true⟩) hrel rfl hs (by simp [k1])
    (fun n h0 h1 => by
      have h1' : (ev fr x).cells.size = n * (ev fr x).cells.size := by simpa using h1
      have : n = 1 := by
        rcases Nat.eq_zero_or_pos n with h | h
        · subst h; omega
        · rcases Nat.lt_or_ge 1 n with h2 | h2
          · have := Nat.mul_le_mul_right (ev fr x).cells.size h2
            omega
          · omega
      subst this; simp [maxLen])
    (fun i y hy => by
      have hy' : (ev fr x).cells[i]? = some y := by simpa using hy
      have hlt : i < (a.eval x).cells.size := by rw [← k1]; exact (Array.getElem?_eq_some_iff.1 hy').1
      exact ⟨_, Array.getElem?_eq_getElem hlt, k2 i _ _ hy' (Array.getElem?_eq_getElem hlt)⟩)
  refine opok_world (v' := .pointer (some ⟨w.heap.size, 0, none⟩)) ?_ hout ?_
  · unfold execOp; simp only [ho, Instr.box, newVar, newRow, newObj, Sem.run_bind, Sem.run_pure, Result.andThen_ok]; rfl
  · have := VR.ptr (n := (H.new ⟨(ev fr x).cells.toList, e, true⟩).D) (ι := ι.add H.n ⟨w.heap.size, 0, 0⟩) H.n 0 ((D_new hrel H.n).2 (.inr rfl))
    simpa [Ren.add] using this
theorem flat_cells {z : Value} (hz : flatB z = true) (n : Nat → Prop) (ι : Ren) (hk : knownB z = true) {i : Nat} {x : Value} (hx : z.cells[i]? = some x) : VR n ι x x :=
  (vr_cells (n := n) (ι := ι) (.flat z hz) hk).2 i x x hx hx
theorem flat_known {z : Value} (hz : flatB z = true) : knownB z = true := by
  cases z <;> first | rfl | (simp [flatB, flat1B, atomB] at hz)
theorem alloc_ok (hrel : Rel P H ι w) {e : TypeId} {z : Value} (ho : o.op = .alloc e) (hz : zr P e = some z) (hf : flatB z = true) (hs : sz P e = some z.cells.size) :
    OpOk P H ι o a w (.pointer (some ⟨H.n, 0, none⟩)) (H.new ⟨z.cells.toList, e, true⟩) := by
  have hout := rel_new (slack := 0) (arr := z.cells) (b := ⟨z.cells.toList, e, true⟩) hrel rfl hs (by simp)
    (fun n h0 h1 => by
      have h1' : z.cells.size = n * z.cells.size := by simpa using h1
      have : n = 1 := by
        rcases Nat.eq_zero_or_pos n with h | h
        · subst h; omega
        · rcases Nat.lt_or_ge 1 n with h2 | h2
          · have := Nat.mul_le_mul_right z.cells.size h2
            omega
          · omega
      subst this; simp [maxLen])
    (fun i y hy => by
      have hy' : z.cells[i]? = some y := by simpa using hy
      exact ⟨y, hy', flat_cells hf _ _ (flat_known hf) hy'⟩)
  refine opok_world (v' := .pointer (some ⟨w.heap.size, 0, none⟩)) ?_ hout ?_
  · unfold execOp; simp only [ho, Instr.alloc, Sem.run_bind, run_zero hz, newVar, newRow, newObj, Sem.run_pure, Result.andThen_ok]; rfl
  · have := VR.ptr (n := (H.new ⟨z.cells.toList, e, true⟩).D) (ι := ι.add H.n ⟨w.heap.size, 0, 0⟩) H.n 0 ((D_new hrel H.n).2 (.inr rfl))
    simpa [Ren.add] using this
theorem nilCheck_ok (hfr : FrR H.D ι N fr a.tmps) {x : Operand} {ad : Addr} (ho : o.op = .nilCheck x) (hx : ev fr x = .pointer (some ad)) : PureOk P H.D ι o a (.pointer (some ad)) := by
  have h1 := hfr.ev x
  rw [hx] at h1
  refine pureok (v' := a.eval x) (fun w => ?_) h1
  unfold execOp; simp only [ho]
  generalize a.eval x = y at *
  cases h1 with
  | flat _ hv => simp [flatB, flat1B, atomB] at hv
  | ptr l off hl => rfl
theorem nilCheckF_ok (hfr : FrR H.D ι N fr a.tmps) {x : Operand} {g : FuncId} {c d : Array Value} (ho : o.op = .nilCheck x) (hx : ev fr x = .func (.func g) c d) : PureOk P H.D ι o a (.func (.func g) c d) := by
  have h1 := hfr.ev x
  rw [hx] at h1
  refine pureok (v' := a.eval x) (fun w => ?_) h1
  unfold execOp; simp only [ho]
  generalize a.eval x = y at *
  cases h1 with
  | flat _ hv => rfl
  | func fn _ b _ d h1 h2 h3 h4 => rfl
theorem fieldAddr_ok (hfr : FrR H.D ι N fr a.tmps) {s : TypeId} {x : Operand} {f l off m : Nat} {fs : Array Field} {fd : Field} (ho : o.op = .fieldAddr s x f) (hx : ev fr x = .pointer (some ⟨l, off, none⟩))
    (hu : P.underlying s = some (.struct fs)) (hf : fs[f]? = some fd) (hs : sz P fd.type = some m) (hm : m ≠ 0) : PureOk P H.D ι o a (.pointer (some ⟨l, off + fd.offset, none⟩)) := by
  have h1 := hfr.ev x
  rw [hx] at h1
  obtain ⟨hl, h2⟩ := vr_ptr h1
  refine pureok (v' := .pointer (some ⟨(ι l).blk, (ι l).off + (off + fd.offset), none⟩)) (fun w => ?_) (.ptr l _ hl)
  unfold execOp; simp only [ho, h2, Instr.fieldAt, Instr.sureAddr, Sem.run_bind, run_underlying hu, Sem.run_pure, Result.andThen_ok, hf, fieldPlace, run_sizeOf' hs, if_neg hm, addr_add, Nat.add_assoc]
theorem indexAddr_ok (hfr : FrR H.D ι N fr a.tmps) {t e : TypeId} {x i : Operand} {l off n c m : Nat} {kd : IntKind} {k : Int} (ho : o.op = .indexAddr t x i) (hx : ev fr x = .slice (some ⟨l, off, none⟩) n c)
    (hi : ev fr i = .int kd k) (hu : P.underlying t = some (.slice e)) (hs : sz P e = some m) (hk : 0 ≤ k ∧ k < n) : PureOk P H.D ι o a (.pointer (some ⟨l, off + k.toNat * m, none⟩)) := by
  have h1 := hfr.ev x
  rw [hx] at h1
  have h2 := hfr.ev i
  rw [hi] at h2
  have h3 := vr_int h2
  generalize hy : a.eval x = y at *
  cases h1 with
  | flat _ hv => simp [flatB, flat1B, atomB] at hv
  | slice0 => omega
  | slice _ _ _ _ hl hc =>
    refine pureok (v' := .pointer (some ⟨(ι l).blk, (ι l).off + (off + k.toNat * m), none⟩)) (fun w => ?_) (.ptr l _ hl)
    unfold execOp; simp only [ho, hy, h3, Instr.indexAt, asIntOf, Sem.run_bind, run_underlying hu, Sem.run_pure, Result.andThen_ok, run_sizeOf' hs, if_pos hk, addr_add, Nat.add_assoc]
theorem extract_ok (hfr : FrR H.D ι N fr a.tmps) {x : Operand} {i : Nat} {vs : Array Value} (ho : o.op = .extract x i) (hx : ev fr x = .tuple vs) (hv : vs[i]? = some v) : PureOk P H.D ι o a v := by
  have h1 := hfr.ev x
  rw [hx] at h1
  obtain ⟨ds, h2, h3, h4⟩ := vr_tuple h1
  have hlt : i < ds.size := by rw [← h3]; exact (Array.getElem?_eq_some_iff.1 hv).1
  have h5 := Array.getElem?_eq_getElem hlt
  refine pureok (v' := ds[i]) (fun w => ?_) (h4 i _ _ hv h5)
  unfold execOp; simp only [ho, h2, Instr.extract, Sem.run_bind, h5, Sem.run_pure, Result.andThen_ok]
theorem field_ok (hfr : FrR H.D ι N fr a.tmps) {t : TypeId} {x : Operand} {f : Nat} {cs : Array Value} {fs : Array Field} {fd : Field} (ho : o.op = .field t x f) (hx : ev fr x = .agg cs)
    (hu : P.underlying t = some (.struct fs)) (hf : fs[f]? = some fd)
    (hr : (∃ s, aggB P fd.type = some true ∧ sz P fd.type = some s ∧ v = .agg (cs.extract fd.offset (fd.offset + s))) ∨ (aggB P fd.type = some false ∧ cs[fd.offset]? = some v)) : PureOk P H.D ι o a v := by
  have h1 := hfr.ev x
  rw [hx] at h1
  obtain ⟨ds, h2, h3, h4⟩ := vr_agg h1
  rcases hr with ⟨s, ha, hs, rfl⟩ | ⟨ha, hv⟩
  · refine pureok (v' := .agg (ds.extract fd.offset (fd.offset + s))) (fun w => ?_) (.agg _ _ (by simp [h3]) (fun i p q hp hq => ?_))
    · unfold execOp; simp only [ho, h2, Instr.field, asAgg, Sem.run_bind, run_underlying hu, hf, Sem.run_pure, Result.andThen_ok, part, run_isAgg ha, if_true, run_sizeOf' hs]
    · rw [Array.getElem?_extract] at hp hq
      split at hp
      · rename_i c1
        split at hq
        · exact h4 _ _ _ hp hq
        · cases hq
      · cases hp
  · have hlt : fd.offset < ds.size := by rw [← h3]; exact (Array.getElem?_eq_some_iff.1 hv).1
    have h5 := Array.getElem?_eq_getElem hlt
    refine pureok (v' := ds[fd.offset]) (fun w => ?_) (h4 _ _ _ hv h5)
    unfold execOp; simp only [ho, h2, Instr.field, asAgg, Sem.run_bind, run_underlying hu, hf, Sem.run_pure, Result.andThen_ok, part, run_isAgg ha, if_false, Bool.false_eq_true, h5]
theorem makeFunc_ok (hfr : FrR H.D ι N fr a.tmps) {g : FuncId} {c d : Array Operand} (ho : o.op = .makeFunc (.func g) c d) (hc : c.size = 0) : PureOk P H.D ι o a (.func (.func g) #[] (d.map (ev fr))) := by
  have e : c = #[] := Array.eq_empty_of_size_eq_zero hc
  subst e
  refine pureok (v' := .func (.func g) #[] (d.map a.eval)) (fun w => ?_) (.func _ _ _ _ _ rfl (by simp) (by simp) (fun i p q hp hq => ?_))
  · unfold execOp; simp only [ho, Instr.makeFunc]; simp [Sem.run_bind, Sem.run_pure, Result.andThen_ok]
  · rw [Array.getElem?_map] at hp hq
    cases hd : d[i]? with
    | none => simp [hd] at hp
    | some y =>
      simp only [hd, Option.map_some, Option.some.injEq] at hp hq
      rw [← hp, ← hq]; exact hfr.ev y
theorem flatEv (hfr : FrR H.D ι N fr a.tmps) {x : Operand} (hx : flatB (ev fr x) = true) : a.eval x = ev fr x := flat_eq (hfr.ev x) hx
theorem pureFlat_spec {s : Sem Value} (h : pureFlat P s = some v) : pureVal P s = some v ∧ flatB v = true := by
  unfold pureFlat at h
  split at h
  · split at h
    · injection h with h; subst h; exact ⟨‹_›, ‹_›⟩
    · cases h
  · cases h
theorem unOp_ok (hfr : FrR H.D ι N fr a.tmps) {op : UnOp} {t : TypeId} {x : Operand} (ho : o.op = .unOp op t x) (hx : flatB (ev fr x) = true) (hv : pureFlat P (Op.unary op (ev fr x)) = some v) : PureOk P H.D ι o a v := by
  obtain ⟨hv, hf⟩ := pureFlat_spec hv
  refine pureok (v' := v) (fun w => ?_) (.flat _ hf)
  unfold execOp; simp only [ho, flatEv hfr hx, Sem.run_bind, pureVal_run hv, Sem.run_pure, Result.andThen_ok]
theorem convert_ok (hfr : FrR H.D ι N fr a.tmps) {s d : TypeId} {x : Operand} (ho : o.op = .convert s d x) (hx : flatB (ev fr x) = true) (hv : pureFlat P (convert s d (ev fr x)) = some v) : PureOk P H.D ι o a v := by
  obtain ⟨hv, hf⟩ := pureFlat_spec hv
  refine pureok (v' := v) (fun w => ?_) (.flat _ hf)
  unfold execOp; simp only [ho, flatEv hfr hx, Sem.run_bind, pureVal_run hv, Sem.run_pure, Result.andThen_ok]
theorem bytes_nums : ∀ (cs : List Value) (bs : List UInt8), cs.mapM lbyte = some bs → ∃ ns : List Int, cs = ns.map (Value.int .u8) ∧ bs = ns.map fun n => UInt8.ofNat n.toNat
  | [], bs, h => by
    simp only [List.mapM_nil, Option.pure_def, Option.some.injEq] at h
    exact ⟨[], rfl, h.symm⟩
  | u :: us, bs, h => by
    simp only [List.mapM_cons, Option.bind_eq_bind, Option.pure_def] at h
    cases hu : lbyte u with
    | none => simp [hu] at h
    | some x =>
      simp only [hu, Option.bind_some] at h
      cases hus : us.mapM lbyte with
      | none => simp [hus] at h
      | some xs =>
        simp only [hus, Option.bind_some, Option.some.injEq] at h
        subst h
        obtain ⟨ns, rfl, rfl⟩ := bytes_nums us xs hus
        unfold lbyte at hu
        split at hu
        · rename_i n
          injection hu with hu
          subst hu
          exact ⟨n :: ns, rfl, rfl⟩
        · cases hu
theorem push_fold : ∀ (ns : List Int) (s : ByteArray), ns.foldl (fun r n => r.push (UInt8.ofNat n.toNat)) s = ⟨s.data ++ (ns.map fun n => UInt8.ofNat n.toNat).toArray⟩
  | [], s => by cases s; simp
  | n :: ns, s => by
    rw [List.foldl_cons, push_fold ns]
    cases s; simp [ByteArray.push]
theorem bstr_ok (hrel : Rel P H ι w) (hfr : FrR H.D ι N fr a.tmps) {s d : TypeId} {x : Operand} (ho : o.op = .convert s d x) (hv : lbstr P s d (ev fr x) H = some v) : ReadOk P H.D ι o a w v := by
  have hx := hfr.ev x
  unfold lbstr at hv
  split at hv
  · rename_i e l off n c hs hd e1
    rw [e1] at hx
    split at hv
    · rename_i he
      split at hv
      · rename_i b hb
        split at hv
        · rename_i cs hcs
          obtain ⟨bs, hbs, rfl⟩ := Option.map_eq_some_iff.1 hv
          obtain ⟨ns, rfl, rfl⟩ := bytes_nums cs bs hbs
          simp only [lcells] at hcs
          split at hcs
          · rename_i hle
            simp only [Option.some.injEq] at hcs
            have hlen : ns.length = n := by
              have := congrArg List.length hcs
              simp at this; omega
            have conv : ∀ (ad : Addr) (cp : Nat), (∀ w' : World, Change (fun _ => False) w w' → (loadCells ad n).run P w' = .ok (ns.map (Value.int .u8)).toArray w') → a.eval x = .slice (some ad) n cp → ReadOk P H.D ι o a w (.string ⟨(ns.map fun n => UInt8.ofNat n.toNat).toArray⟩) := by
              intro ad cp hl hy
              refine ⟨_, .flat _ rfl, fun w' hw' => ?_⟩
              have hr := run_bytesToString (P := P) w' ad n cp ns (hl w' hw')
              rw [push_fold] at hr
              unfold execOp; simp only [ho, hy, convert, Sem.run_bind, run_underlying hs, run_underlying hd, run_underlying he, Result.andThen_ok, hr, Sem.run_pure]
              simp
            generalize hy : a.eval x = y at hx
            cases hx with
            | flat _ hf => simp [flatB, flat1B, atomB] at hf
            | slice0 _ _ ad hl =>
              have h0 : ns = [] := List.eq_nil_of_length_eq_zero hlen
              subst h0
              exact conv ad 0 (fun w' _ => rfl) hy
            | slice _ _ _ _ hl hc =>
              refine conv _ _ (fun w' hw' => ?_) hy
              have := run_loadCells_list (P := P) w' ⟨(ι l).blk, (ι l).off + off, none⟩ (ns.map (Value.int .u8)) (fun j u hj => by
                have hj2 : b.cells[off + j]? = some u := by
                  rw [← hcs, List.getElem?_take] at hj
                  split at hj
                  · rw [List.getElem?_drop] at hj; exact hj
                  · cases hj
                obtain ⟨y, hy, hv⟩ := (hrel.cell hb hj2)
                have hu : y = u := by
                  rw [List.getElem?_map] at hj
                  cases hn : ns[j]? with
                  | none => simp [hn] at hj
                  | some k =>
                    simp only [hn, Option.map_some, Option.some.injEq] at hj
                    rw [← hj] at hv ⊢
                    exact flat_eq hv rfl
                rw [addr_add, World.cell?_of_block (w := w) (hw'.block _ (rel_lt hrel hb) (fun h => h)), Nat.add_assoc, hy, hu])
              rw [List.length_map, hlen] at this
              exact this
          · cases hcs
        · cases hv
      · cases hv
    · cases hv
  · cases hv
theorem index_ok (hfr : FrR H.D ι N fr a.tmps) {t : TypeId} {x i : Operand} (ho : o.op = .index t x i) (hx : flatB (ev fr x) = true) (hi : flatB (ev fr i) = true) (hv : pureFlat P (Instr.index t (ev fr x) (ev fr i)) = some v) : PureOk P H.D ι o a v := by
  obtain ⟨hv, hf⟩ := pureFlat_spec hv
  refine pureok (v' := v) (fun w => ?_) (.flat _ hf)
  unfold execOp; simp only [ho, flatEv hfr hx, flatEv hfr hi, Sem.run_bind, pureVal_run hv, Sem.run_pure, Result.andThen_ok]
theorem eqGuard_pure {op : BinOp} {t : TypeId} {x y : Value} (X Y : Operand) (hx : x ≠ .nilIface) : eqGuard op t X Y x y = eqGuard op t (.tmp 0) (.tmp 0) x y := by
  unfold eqGuard
  cases x <;> first | exact absurd rfl hx | (cases y <;> rfl)
theorem eqGuard_ptr {op : BinOp} {t : TypeId} {x y : Value} (X Y : Operand) (hx : x ≠ .nilIface) (hx2 : ∀ cs, x ≠ .agg cs) (w : World) : (eqGuard op t X Y x y).run P w = .ok () w := by
  unfold eqGuard
  cases x <;> first | exact absurd rfl hx | exact absurd rfl (hx2 _) | (cases op <;> rfl)
theorem binOp_run (w : World) {op : BinOp} {t yt : TypeId} {x y : Operand} (ho : o.op = .binOp op t x y yt) {r : Value} (h : (do eqGuard op t x y (a.eval x) (a.eval y); binOp op t (a.eval x) (a.eval y) : Sem Value).run P w = .ok r w) : (execOp a.eval o).run P w = .ok (.value r) w := by
  unfold execOp; simp only [ho, Sem.run_bind, Sem.run_pure, Result.andThen_ok] at h ⊢
  rw [h]; rfl
theorem nil_ok {n : Nat → Prop} {op : BinOp} {t yt : TypeId} {x y : Operand} {q : Bool} (ho : o.op = .binOp op t x y yt) {X Y : Value} (hx : a.eval x = X) (hy : a.eval y = Y) (h1 : X ≠ .nilIface) (h2 : ∀ cs, X ≠ .agg cs)
    (hop : op = .eql ∨ op = .neq) (hq : ∀ w : World, (Op.equal t X Y).run P w = .ok q w) (b1 : binOp .eql t X Y = (do pure (.bool (← Op.equal t X Y)))) (b2 : binOp .neq t X Y = (do pure (.bool (!(← Op.equal t X Y))))) :
    PureOk P n ι o a (.bool (if op = .eql then q else !q)) := by
  refine pureok (v' := .bool (if op = .eql then q else !q)) (fun w => binOp_run w ho ?_) (.flat _ rfl)
  rw [hx, hy, Sem.run_bind, eqGuard_ptr _ _ h1 h2 w]
  rcases hop with rfl | rfl
  · simp only [Result.andThen_ok, b1, Sem.run_bind, hq w, Sem.run_pure, if_true]
  · simp only [Result.andThen_ok, b2, Sem.run_bind, hq w, Sem.run_pure]; rfl
theorem equal_ptr_l {t e : TypeId} {b : Option Addr} (h : P.underlying t = some (.pointer e)) (w : World) : (Op.equal t (.pointer none) (.pointer b)).run P w = .ok b.isNone w := by
  show (Op.equalIn (9999 + 1) t _ _).run P w = _
  rw [Op.equalIn, Sem.run_bind, run_underlying h]
  cases b <;> rfl
theorem equal_ptr_r {t e : TypeId} {b : Option Addr} (h : P.underlying t = some (.pointer e)) (w : World) : (Op.equal t (.pointer b) (.pointer none)).run P w = .ok b.isNone w := by
  show (Op.equalIn (9999 + 1) t _ _).run P w = _
  rw [Op.equalIn, Sem.run_bind, run_underlying h]
  cases b <;> rfl
theorem equal_sl_l {t e : TypeId} {b : Option Addr} {k c k' c' : Nat} (h : P.underlying t = some (.slice e)) (w : World) : (Op.equal t (.slice none k c) (.slice b k' c')).run P w = .ok b.isNone w := by
  show (Op.equalIn (9999 + 1) t _ _).run P w = _
  rw [Op.equalIn, Sem.run_bind, run_underlying h]
  cases b <;> rfl
theorem equal_sl_r {t e : TypeId} {b : Option Addr} {k c k' c' : Nat} (h : P.underlying t = some (.slice e)) (w : World) : (Op.equal t (.slice b k c) (.slice none k' c')).run P w = .ok b.isNone w := by
  show (Op.equalIn (9999 + 1) t _ _).run P w = _
  rw [Op.equalIn, Sem.run_bind, run_underlying h]
  cases b <;> rfl
theorem binOp_ok (hfr : FrR H.D ι N fr a.tmps) {op : BinOp} {t yt : TypeId} {x y : Operand} (ho : o.op = .binOp op t x y yt) (hv : lbin P op t (ev fr x) (ev fr y) = some v) : PureOk P H.D ι o a v := by
  have hx := hfr.ev x
  have hy := hfr.ev y
  unfold lbin at hv
  split at hv
  · rename_i b e1 e2
    rw [e1] at hx
    rw [e2] at hy
    have hx' := flat_eq hx rfl
    obtain ⟨b', hy', hn⟩ := vr_isNone hy
    split at hv
    · rename_i e hu
      injection hv with hv
      subst hv
      have := nil_ok (q := b'.isNone) (n := H.D) (ι := ι) ho hx' hy' (by simp) (by simp) (.inl rfl) (fun w => equal_ptr_l hu w) (by cases b' <;> rfl) (by cases b' <;> rfl)
      rw [hn] at this; exact this
    · rename_i e hu
      injection hv with hv
      subst hv
      have := nil_ok (q := b'.isNone) (n := H.D) (ι := ι) ho hx' hy' (by simp) (by simp) (.inr rfl) (fun w => equal_ptr_l hu w) (by cases b' <;> rfl) (by cases b' <;> rfl)
      rw [hn] at this; exact this
    · cases hv
  · rename_i e1 e2
    rw [e1] at hx
    rw [e2] at hy
    have hy' := flat_eq hy rfl
    obtain ⟨b', hx', hn⟩ := vr_isNone hx
    split at hv
    · rename_i e hu
      injection hv with hv
      subst hv
      have := nil_ok (q := b'.isNone) (n := H.D) (ι := ι) ho hx' hy' (by simp) (by simp) (.inl rfl) (fun w => equal_ptr_r hu w) (by cases b' <;> rfl) (by cases b' <;> rfl)
      rw [hn] at this; exact this
    · rename_i e hu
      injection hv with hv
      subst hv
      have := nil_ok (q := b'.isNone) (n := H.D) (ι := ι) ho hx' hy' (by simp) (by simp) (.inr rfl) (fun w => equal_ptr_r hu w) (by cases b' <;> rfl) (by cases b' <;> rfl)
      rw [hn] at this; exact this
    · cases hv
  · rename_i b k c e1 e2
    rw [e1] at hx
    rw [e2] at hy
    obtain ⟨x', cx, hx', hnx⟩ := vr_slice hx
    obtain ⟨b', cy, hy', hn⟩ := vr_slice hy
    have : x' = none := by cases x' with | none => rfl | some => simp at hnx
    subst this
    split at hv
    · rename_i e hu
      injection hv with hv
      subst hv
      have := nil_ok (q := b'.isNone) (n := H.D) (ι := ι) ho hx' hy' (by simp) (by simp) (.inl rfl) (fun w => equal_sl_l hu w) (by cases b' <;> rfl) (by cases b' <;> rfl)
      rw [hn] at this; exact this
    · rename_i e hu
      injection hv with hv
      subst hv
      have := nil_ok (q := b'.isNone) (n := H.D) (ι := ι) ho hx' hy' (by simp) (by simp) (.inr rfl) (fun w => equal_sl_l hu w) (by cases b' <;> rfl) (by cases b' <;> rfl)
      rw [hn] at this; exact this
    · cases hv
  · rename_i e1 e2
    rw [e1] at hx
    rw [e2] at hy
    obtain ⟨b', cx, hx', hn⟩ := vr_slice hx
    obtain ⟨y', cy, hy', hny⟩ := vr_slice hy
    have : y' = none := by cases y' with | none => rfl | some => simp at hny
    subst this
    split at hv
    · rename_i e hu
      injection hv with hv
      subst hv
      have := nil_ok (q := b'.isNone) (n := H.D) (ι := ι) ho hx' hy' (by simp) (by simp) (.inl rfl) (fun w => equal_sl_r hu w) (by cases b' <;> rfl) (by cases b' <;> rfl)
      rw [hn] at this; exact this
    · rename_i e hu
      injection hv with hv
      subst hv
      have := nil_ok (q := b'.isNone) (n := H.D) (ι := ι) ho hx' hy' (by simp) (by simp) (.inr rfl) (fun w => equal_sl_r hu w) (by cases b' <;> rfl) (by cases b' <;> rfl)
      rw [hn] at this; exact this
    · cases hv
  · cases hv
  · rename_i h1 h2 h3 h4 h5
    split at hv
    · rename_i hf
      rw [Bool.and_eq_true] at hf
      obtain ⟨hv1, hv2⟩ := pureFlat_spec hv
      have ex := flat_eq hx hf.1
      have ey := flat_eq hy hf.2
      refine pureok (v' := v) (fun w => binOp_run w ho ?_) (.flat _ hv2)
      rw [ex, ey, eqGuard_pure x y (fun e => h1 e)]
      exact pureVal_run hv1 w
    · cases hv
end
end Go.Lg
