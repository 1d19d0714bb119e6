/- The proof kit 'E', part 3: operations that only read: what each makes. -/
import Derived.Test.YtgpebcfeeagoaaaE2
import Derived.IntWalk
namespace Go.E
open Go Go.RowKit
section
variable {P : Program} {fr : Fr P} {ds : List Deferred} {ρ : Env} {L : List HP} {k : List It} {ty : TypeId}

theorem exec_v {op : Op} {v : Value} (hdf : ∀ c, op ≠ .defer c) (h : ∀ a w, Env.ok fr.n ds ρ a → Sat fr.base fr.M L w → ∀ dst pos af g, (execOp a.eval ⟨dst, op, ty, pos, af, g⟩).run P w = .ok (.value v) w) : Yd fr ds ρ L op ty v := by
  refine ⟨hdf, fun a w ha hw o ho ht => ?_⟩
  obtain ⟨dst, op', ty', pos, af, g⟩ := o
  simp only at ho ht
  subst ho; subst ht
  exact h a w ha hw dst pos af g

theorem y_move {x : Operand} {v : Value} (hx : ρ.ev x = some v) : Yd fr ds ρ L (.move x) ty v :=
  exec_v (fun c e => by cases e) fun a w ha _ _ _ _ _ => by simp [execOp, ha.ev hx]
theorem y_assign {x : Operand} {v : Value} (hx : ρ.ev x = some v) : Yd fr ds ρ L (.assign x) ty v :=
  exec_v (fun c e => by cases e) fun a w ha _ _ _ _ _ => by simp [execOp, ha.ev hx]
theorem y_pickT {c x y : Operand} {v : Value} (hc : ρ.ev c = some (.bool true)) (hx : ρ.ev x = some v) : Yd fr ds ρ L (.pick c x y) ty v :=
  exec_v (fun c e => by cases e) fun a w ha _ _ _ _ _ => by simp [execOp, ha.ev hx, ha.ev hc, asBool]
theorem y_pickF {c x y : Operand} {v : Value} (hc : ρ.ev c = some (.bool false)) (hx : ρ.ev y = some v) : Yd fr ds ρ L (.pick c x y) ty v :=
  exec_v (fun c e => by cases e) fun a w ha _ _ _ _ _ => by simp [execOp, ha.ev hx, ha.ev hc, asBool]
theorem y_nilCheck {x : Operand} {ad : Addr} (hx : ρ.ev x = some (.pointer (some ad))) : Yd fr ds ρ L (.nilCheck x) ty (.pointer (some ad)) :=
  exec_v (fun c e => by cases e) fun a w ha _ _ _ _ _ => by simp [execOp, ha.ev hx]

/-! ### Numbers -/
theorem binOp_run {op : BinOp} {t t' : TypeId} {x y : Operand} {va vb v : Value} (hx : ρ.ev x = some va) (hy : ρ.ev y = some vb)
    (h : ∀ w, (do eqGuard op t x y va vb; Go.binOp op t va vb : Sem Value).run P w = .ok v w) : Yd fr ds ρ L (.binOp op t x y t') ty v :=
  exec_v (fun c e => by cases e) fun a w ha _ _ _ _ _ => by
    have := h w
    simp only [execOp, ha.ev hx, ha.ev hy, Sem.run_bind] at this ⊢
    rw [this]; rfl
section ints
variable {t t' : TypeId} {x y : Operand} {kd : IntKind} {m n : Int}
theorem y_addw (hx : ρ.ev x = some (.int kd m)) (hy : ρ.ev y = some (.int kd n)) : Yd fr ds ρ L (.binOp .add t x y t') ty (.int kd (kd.wrap (m + n))) :=
  binOp_run hx hy fun w => by simp [eqGuard, Go.binOp, Op.intArith]
theorem y_subw (hx : ρ.ev x = some (.int kd m)) (hy : ρ.ev y = some (.int kd n)) : Yd fr ds ρ L (.binOp .sub t x y t') ty (.int kd (kd.wrap (m - n))) :=
  binOp_run hx hy fun w => by simp [eqGuard, Go.binOp, Op.intArith]
theorem y_mulw (hx : ρ.ev x = some (.int kd m)) (hy : ρ.ev y = some (.int kd n)) : Yd fr ds ρ L (.binOp .mul t x y t') ty (.int kd (kd.wrap (m * n))) :=
  binOp_run hx hy fun w => by simp [eqGuard, Go.binOp, Op.intArith]
theorem y_add (hx : ρ.ev x = some (.int .i64 m)) (hy : ρ.ev y = some (.int .i64 n)) (h : -9223372036854775808 ≤ m + n ∧ m + n ≤ 9223372036854775807) : Yd fr ds ρ L (.binOp .add t x y t') ty (.int .i64 (m + n)) := by
  have := y_addw (fr := fr) (ds := ds) (L := L) (ty := ty) (t := t) (t' := t') hx hy
  rwa [IntWalk.i64_in _ h] at this
theorem y_sub (hx : ρ.ev x = some (.int .i64 m)) (hy : ρ.ev y = some (.int .i64 n)) (h : -9223372036854775808 ≤ m - n ∧ m - n ≤ 9223372036854775807) : Yd fr ds ρ L (.binOp .sub t x y t') ty (.int .i64 (m - n)) := by
  have := y_subw (fr := fr) (ds := ds) (L := L) (ty := ty) (t := t) (t' := t') hx hy
  rwa [IntWalk.i64_in _ h] at this
theorem y_mul (hx : ρ.ev x = some (.int .i64 m)) (hy : ρ.ev y = some (.int .i64 n)) (h : -9223372036854775808 ≤ m * n ∧ m * n ≤ 9223372036854775807) : Yd fr ds ρ L (.binOp .mul t x y t') ty (.int .i64 (m * n)) := by
  have := y_mulw (fr := fr) (ds := ds) (L := L) (ty := ty) (t := t) (t' := t') hx hy
  rwa [IntWalk.i64_in _ h] at this
theorem y_quow (hx : ρ.ev x = some (.int kd m)) (hy : ρ.ev y = some (.int kd n)) (h : n ≠ 0) : Yd fr ds ρ L (.binOp .quo t x y t') ty (.int kd (kd.wrap (m.tdiv n))) :=
  binOp_run hx hy fun w => by simp [eqGuard, Go.binOp, Op.intDiv, h]
theorem y_remw (hx : ρ.ev x = some (.int kd m)) (hy : ρ.ev y = some (.int kd n)) (h : n ≠ 0) : Yd fr ds ρ L (.binOp .rem t x y t') ty (.int kd (m.tmod n)) :=
  binOp_run hx hy fun w => by simp [eqGuard, Go.binOp, Op.intDiv, h]
theorem y_quo (hx : ρ.ev x = some (.int .i64 m)) (hy : ρ.ev y = some (.int .i64 n)) (h : 0 < n) (hm : 0 ≤ m) (hm' : m ≤ 9223372036854775807) : Yd fr ds ρ L (.binOp .quo t x y t') ty (.int .i64 (m / n)) := by
  have := y_quow (fr := fr) (ds := ds) (L := L) (ty := ty) (t := t) (t' := t') hx hy (by omega)
  rw [Int.tdiv_eq_ediv_of_nonneg hm, IntWalk.i64_in _ ⟨by have := Int.ediv_nonneg hm (Int.le_of_lt h); omega, by have := Int.ediv_le_self n hm; omega⟩] at this
  exact this
theorem y_rem (hx : ρ.ev x = some (.int kd m)) (hy : ρ.ev y = some (.int kd n)) (h : 0 < n) (hm : 0 ≤ m) : Yd fr ds ρ L (.binOp .rem t x y t') ty (.int kd (m % n)) := by
  have := y_remw (fr := fr) (ds := ds) (L := L) (ty := ty) (t := t) (t' := t') hx hy (by omega)
  rw [Int.tmod_eq_emod_of_nonneg hm] at this
  exact this
theorem y_lss (hx : ρ.ev x = some (.int kd m)) (hy : ρ.ev y = some (.int kd n)) : Yd fr ds ρ L (.binOp .lss t x y t') ty (.bool (decide (m < n))) :=
  binOp_run hx hy fun w => by simp [eqGuard, Go.binOp, Op.intCmp]
theorem y_leq (hx : ρ.ev x = some (.int kd m)) (hy : ρ.ev y = some (.int kd n)) : Yd fr ds ρ L (.binOp .leq t x y t') ty (.bool (decide (m ≤ n))) :=
  binOp_run hx hy fun w => by simp [eqGuard, Go.binOp, Op.intCmp]
theorem y_gtr (hx : ρ.ev x = some (.int kd m)) (hy : ρ.ev y = some (.int kd n)) : Yd fr ds ρ L (.binOp .gtr t x y t') ty (.bool (decide (n < m))) :=
  binOp_run hx hy fun w => by simp [eqGuard, Go.binOp, Op.intCmp]
theorem y_geq (hx : ρ.ev x = some (.int kd m)) (hy : ρ.ev y = some (.int kd n)) : Yd fr ds ρ L (.binOp .geq t x y t') ty (.bool (decide (n ≤ m))) :=
  binOp_run hx hy fun w => by simp [eqGuard, Go.binOp, Op.intCmp]
theorem y_eql (hx : ρ.ev x = some (.int kd m)) (hy : ρ.ev y = some (.int kd n)) : Yd fr ds ρ L (.binOp .eql t x y t') ty (.bool (decide (m = n))) :=
  binOp_run hx hy fun w => by simp [eqGuard, Go.binOp, Op.intCmp]; rfl
theorem y_neq (hx : ρ.ev x = some (.int kd m)) (hy : ρ.ev y = some (.int kd n)) : Yd fr ds ρ L (.binOp .neq t x y t') ty (.bool (decide (m ≠ n))) :=
  binOp_run hx hy fun w => by simp [eqGuard, Go.binOp, Op.intCmp, bne]; rfl
theorem y_neg (hx : ρ.ev x = some (.int .i64 m)) (h : -9223372036854775808 ≤ -m ∧ -m ≤ 9223372036854775807) : Yd fr ds ρ L (.unOp .neg t x) ty (.int .i64 (-m)) :=
  exec_v (fun c e => by cases e) fun a w ha _ _ _ _ _ => by simp [execOp, ha.ev hx, Op.unary, Op.intArith, IntWalk.i64_in _ h]
theorem y_notp {p : Prop} [Decidable p] (hx : ρ.ev x = some (.bool (decide p))) : Yd fr ds ρ L (.unOp .not t x) ty (.bool (decide (¬ p))) :=
  exec_v (fun c e => by cases e) fun a w ha _ _ _ _ _ => by simp [execOp, ha.ev hx, Op.unary]
theorem y_notT (hx : ρ.ev x = some (.bool true)) : Yd fr ds ρ L (.unOp .not t x) ty (.bool false) :=
  exec_v (fun c e => by cases e) fun a w ha _ _ _ _ _ => by simp [execOp, ha.ev hx, Op.unary]
theorem y_notF (hx : ρ.ev x = some (.bool false)) : Yd fr ds ρ L (.unOp .not t x) ty (.bool true) :=
  exec_v (fun c e => by cases e) fun a w ha _ _ _ _ _ => by simp [execOp, ha.ev hx, Op.unary]
theorem y_notb {b : Bool} (hx : ρ.ev x = some (.bool b)) : Yd fr ds ρ L (.unOp .not t x) ty (.bool (!b)) :=
  exec_v (fun c e => by cases e) fun a w ha _ _ _ _ _ => by simp [execOp, ha.ev hx, Op.unary]
end ints
theorem max2i (k : IntKind) (m n : Int) (w : World) : (Builtin.max2 (.int k m) (.int k n)).run P w = .ok (.int k (max m n)) w := by
  unfold Builtin.max2
  by_cases h : n > m
  · simp [h, show max m n = n from by omega]
  · simp [h, show max m n = m from by omega]
theorem y_max {t1 : Array TypeId} {x y : Operand} {kd : IntKind} {m n : Int} (hx : ρ.ev x = some (.int kd m)) (hy : ρ.ev y = some (.int kd n)) :
    Yd fr ds ρ L (.call ⟨.builtin .max, #[x, y], t1⟩) ty (.int kd (max m n)) :=
  exec_v (fun c e => by cases e) fun a w ha _ _ _ _ _ => by
    simp [execOp, resolve, invoke, builtin, Builtin.max_, ha.ev hx, ha.ev hy, max2i]
theorem min2i (k : IntKind) (m n : Int) (w : World) : (Builtin.min2 (.int k m) (.int k n)).run P w = .ok (.int k (min m n)) w := by
  unfold Builtin.min2
  by_cases h : n < m
  · simp [h, show min m n = n from by omega]
  · simp [h, show min m n = m from by omega]
theorem y_min {t1 : Array TypeId} {x y : Operand} {kd : IntKind} {m n : Int} (hx : ρ.ev x = some (.int kd m)) (hy : ρ.ev y = some (.int kd n)) :
    Yd fr ds ρ L (.call ⟨.builtin .min, #[x, y], t1⟩) ty (.int kd (min m n)) :=
  exec_v (fun c e => by cases e) fun a w ha _ _ _ _ _ => by
    simp [execOp, resolve, invoke, builtin, Builtin.min_, ha.ev hx, ha.ev hy, min2i]

/-! ### Places -/
theorem Ty.of_sl {d : TypeDesc} {e : TypeId} (h : Ty.of d = .sl e) : d = .slice e := by cases d <;> simp [Ty.of] at h <;> simp [h]
theorem Ty.of_ar {d : TypeDesc} {n e : Nat} (h : Ty.of d = .ar n e) : d = .array n e := by cases d <;> simp [Ty.of] at h <;> simp [h]
theorem Ty.of_mp {d : TypeDesc} {n e : Nat} (h : Ty.of d = .mp n e) : d = .map n e := by cases d <;> simp [Ty.of] at h <;> simp [h]
theorem Ty.of_st {d : TypeDesc} {fs : List (Nat × TypeId)} (h : Ty.of d = .st fs) : ∃ f, d = .struct f ∧ fs = f.toList.map fun f => (f.offset, f.type) := by cases d <;> simp [Ty.of] at h <;> simp [h]
theorem Ty.of_int {d : TypeDesc} {k : IntKind} (h : Ty.of d = .int k) : d = .int k := by cases d <;> simp [Ty.of] at h <;> simp [h]
theorem Ty.of_bool {d : TypeDesc} (h : Ty.of d = .bool) : d = .bool := by cases d <;> simp [Ty.of] at h <;> rfl
theorem run_underlying {t : TypeId} {d : TypeDesc} {w : World} (h : P.underlying t = some d) : (underlying t).run P w = .ok d w := by simp [underlying, h]
theorem run_sizeOf {t : TypeId} {i : TI} {w : World} (h : TI.of P t = some i) : (sizeOf t).run P w = .ok i.size w := by
  obtain ⟨d, inf, z, h1, h2, h3, h4, h5, h6, h7⟩ := TI.of_spec h
  simp [sizeOf, typeInfo, h2, h5]
theorem run_isAgg {t : TypeId} {i : TI} {w : World} (h : TI.of P t = some i) : (isAgg t).run P w = .ok i.ty.agg w := by
  obtain ⟨d, inf, z, h1, h2, h3, h4, h5, h6, h7⟩ := TI.of_spec h
  rw [← h4]
  simp only [isAgg, Sem.run_bind, run_underlying h1, Result.andThen_ok]
  cases d <;> rfl
theorem y_fieldAddr {s : TypeId} {x : Operand} {f off : Nat} {ft : TypeId} {fs : List (Nat × TypeId)} {i : TI} {jt : Ty} {jz jb : Nat} {jv : List Value} {ad : Addr} (hx : ρ.ev x = some (.pointer (some ad))) (hs : fr.X.tab[s]? = some (some i))
    (hi : i.ty = .st fs) (hf : fs[f]? = some (off, ft)) (hj : fr.X.tab[ft]? = some (some ⟨jt, jz, jb, jv⟩)) (hz : Nat.beq jz 0 = false) : Yd fr ds ρ L (.fieldAddr s x f) ty (.pointer (some (ad.add off))) :=
  exec_v (fun c e => by cases e) fun a w ha _ _ _ _ _ => by
    obtain ⟨d, inf, z, h1, h2, h3, h4, h5, h6, h7⟩ := TI.of_spec (fr.X.ti hs)
    rw [hi] at h4
    obtain ⟨g, rfl, hg⟩ := Ty.of_st h4
    rw [hg] at hf
    have hsz := run_sizeOf (w := w) (fr.X.ti hj)
    have hz' : jz ≠ 0 := fun e => by rw [e] at hz; cases hz
    simp only [List.getElem?_map, Option.map_eq_some_iff] at hf
    obtain ⟨fd, hfd, he⟩ := hf
    cases he
    have hfd' : g[f]? = some fd := by rw [← Array.getElem?_toList]; exact hfd
    simp [execOp, ha.ev hx, Instr.fieldAt, run_underlying h1, hfd', Instr.sureAddr, fieldPlace, hsz, hz']
theorem addr_add {b o j : Nat} : (⟨b, o, none⟩ : Addr).add j = ⟨b, o + j, none⟩ := by
  unfold Addr.add; split
  · rename_i h; rw [h]; rfl
  · rfl
theorem y_fieldAddrB {s : TypeId} {x : Operand} {f off b o : Nat} {ft : TypeId} {fs : List (Nat × TypeId)} {i : TI} {jt : Ty} {jz jb : Nat} {jv : List Value} (hx : ρ.ev x = some (.pointer (some ⟨b, o, none⟩))) (hs : fr.X.tab[s]? = some (some i))
    (hi : i.ty = .st fs) (hf : fs[f]? = some (off, ft)) (hj : fr.X.tab[ft]? = some (some ⟨jt, jz, jb, jv⟩)) (hz : Nat.beq jz 0 = false) : Yd fr ds ρ L (.fieldAddr s x f) ty (.pointer (some ⟨b, o + off, none⟩)) := by
  rw [← addr_add]; exact y_fieldAddr hx hs hi hf hj hz
theorem y_indexAddr {t e : TypeId} {x ix : Operand} {i : TI} {jt : Ty} {jz jb : Nat} {jv : List Value} {A : Option Addr} {ad : Addr} {n c : Nat} {kd : IntKind} {q : Int} (hx : ρ.ev x = some (.slice A n c)) (hix : ρ.ev ix = some (.int kd q)) (hs : fr.X.tab[t]? = some (some i))
    (hi : i.ty = .sl e) (hj : fr.X.tab[e]? = some (some ⟨jt, jz, jb, jv⟩)) (h0 : 0 ≤ q) (h1 : q < n) (hA : A = some ad) : Yd fr ds ρ L (.indexAddr t x ix) ty (.pointer (some (ad.add (q.toNat * jz)))) :=
  exec_v (fun c e => by cases e) fun a w ha _ _ _ _ _ => by
    obtain ⟨d, inf, z, g1, g2, g3, g4, g5, g6, g7⟩ := TI.of_spec (fr.X.ti hs)
    rw [hi] at g4
    have := Ty.of_sl g4
    subst this
    have hsz := run_sizeOf (w := w) (fr.X.ti hj)
    subst hA
    simp [execOp, ha.ev hx, ha.ev hix, Instr.indexAt, run_underlying g1, asIntOf, h0, h1, hsz]
theorem y_indexAddrA {t e : TypeId} {x ix : Operand} {i : TI} {jt : Ty} {jz jb : Nat} {jv : List Value} {ad : Addr} {n : Nat} {kd : IntKind} {q : Int} (hx : ρ.ev x = some (.pointer (some ad))) (hix : ρ.ev ix = some (.int kd q)) (hs : fr.X.tab[t]? = some (some i))
    (hi : i.ty = .ar n e) (hj : fr.X.tab[e]? = some (some ⟨jt, jz, jb, jv⟩)) (h0 : 0 ≤ q) (h1 : q < n) : Yd fr ds ρ L (.indexAddr t x ix) ty (.pointer (some (ad.add (q.toNat * jz)))) :=
  exec_v (fun c e => by cases e) fun a w ha _ _ _ _ _ => by
    obtain ⟨d, inf, z, g1, g2, g3, g4, g5, g6, g7⟩ := TI.of_spec (fr.X.ti hs)
    rw [hi] at g4
    have := Ty.of_ar g4
    subst this
    have hsz := run_sizeOf (w := w) (fr.X.ti hj)
    simp [execOp, ha.ev hx, ha.ev hix, Instr.indexAt, run_underlying g1, asIntOf, h0, h1, hsz, Instr.sureAddr]
theorem y_extract {x : Operand} {ix : Nat} {vs : List Value} {v : Value} (hx : ρ.ev x = some (.tuple vs.toArray)) (hv : vs[ix]? = some v) : Yd fr ds ρ L (.extract x ix) ty v :=
  exec_v (fun c e => by cases e) fun a w ha _ _ _ _ _ => by simp [execOp, ha.ev hx, Instr.extract, hv]
theorem y_lenS {t1 : TypeId} {x : Operand} {A : Option Addr} {n c : Nat} {i : TI} {e : TypeId} (hx : ρ.ev x = some (.slice A n c)) (ht : fr.X.tab[t1]? = some (some i)) (hi : i.ty = .sl e) :
    Yd fr ds ρ L (.call ⟨.builtin .len, #[x], #[t1]⟩) ty (.int .i64 n) :=
  exec_v (fun c e => by cases e) fun a w ha _ _ _ _ _ => by
    obtain ⟨d, inf, z, g1, g2, g3, g4, g5, g6, g7⟩ := TI.of_spec (fr.X.ti ht)
    rw [hi] at g4
    have := Ty.of_sl g4
    subst this
    simp [execOp, resolve, invoke, builtin, Builtin.len_, ha.ev hx, run_underlying g1, goInt]

/-! ### Loads -/
theorem loadCells_at {ad : Addr} {vs : List Value} {w : World} (h : ∀ j v, vs[j]? = some v → w.cell? (ad.add j) = some v) : (loadCells ad vs.length).run P w = .ok vs.toArray w :=
  run_loadCells_list _ ad vs h
/-- A load of one cell. -/
theorem y_load1 {t : TypeId} {x : Operand} {i : TI} {ad : Addr} {v : Value} (hx : ρ.ev x = some (.pointer (some ad))) (ht : fr.X.tab[t]? = some (some i)) (hi : i.ty.agg = false)
    (hv : ∀ w, Sat fr.base fr.M L w → w.cell? ad = some v) : Yd fr ds ρ L (.load t x) ty v :=
  exec_v (fun c e => by cases e) fun a w ha hw _ _ _ _ => by
    have := run_isAgg (w := w) (fr.X.ti ht)
    simp [execOp, ha.ev hx, Instr.loadAt, Instr.sureAddr, loadVar, this, hi, load, Sem.run, hv w hw]
/-- A load of a struct or an array. -/
theorem y_loadN {t : TypeId} {x : Operand} {i : TI} {ad : Addr} {vs : List Value} (hx : ρ.ev x = some (.pointer (some ad))) (ht : fr.X.tab[t]? = some (some i)) (hi : i.ty.agg = true) (hn : vs.length = i.size)
    (hv : ∀ w, Sat fr.base fr.M L w → ∀ j v, vs[j]? = some v → w.cell? (ad.add j) = some v) : Yd fr ds ρ L (.load t x) ty (.agg vs.toArray) :=
  exec_v (fun c e => by cases e) fun a w ha hw _ _ _ _ => by
    have h1 := run_isAgg (w := w) (fr.X.ti ht)
    have h2 := run_sizeOf (w := w) (fr.X.ti ht)
    have h3 := loadCells_at (P := P) (hv w hw)
    rw [hn] at h3
    simp [execOp, ha.ev hx, Instr.loadAt, Instr.sureAddr, loadVar, h1, h2, hi, h3]

/-- Old memory that nobody owns reads as it did. -/
theorem Sat.old {base : World} {M : Nat → Prop} {w : World} (h : Sat base M L w) {ad : Addr} {v : Value} (hc : base.cell? ad = some v) (hM : ¬ M ad.block) : w.cell? ad = some v := by
  have hb : ad.block < base.heap.size := World.block_lt_of_cell? _ _ hc
  rw [World.cell?_of_block (h.since.block _ hb hM)]; exact hc
/-- What is owned, by its place in the list. -/
theorem Sat.has {base : World} {M : Nat → Prop} {w : World} (h : Sat base M L w) {A : HP} (hA : A ∈ L) : ∃ k : Hp, A k ∧ k.In w := by
  obtain ⟨L1, L2, rfl⟩ := List.append_of_mem hA
  have h' := h.perm (List.perm_middle)
  obtain ⟨k, ⟨h1, h2, a, _, d, rfl⟩, i, _⟩ := h'.hp
  exact ⟨h1, a, fun b o e => i b o (Hp.add_left e)⟩
/-- Cells of the call's own. -/
def cb (b : Nat) (T : TypeId) (l : List Value) : HP := pt b (.cells l.toArray T (0, 0))
theorem Sat.cbAt {base : World} {M : Nat → Prop} {w : World} (h : Sat base M L w) {b : Nat} {T : TypeId} {l : List Value} (hA : cb b T l ∈ L) : w.heap[b]? = some (.cells l.toArray T (0, 0)) := by
  obtain ⟨k, rfl, i⟩ := h.has hA
  exact i b _ (by simp [Hp.one])
theorem Sat.cbcell {base : World} {M : Nat → Prop} {w : World} (h : Sat base M L w) {b : Nat} {T : TypeId} {l : List Value} (hA : cb b T l ∈ L) {o : Nat} {v : Value} (hv : l[o]? = some v) : w.cell? ⟨b, o, none⟩ = some v := by
  simp [World.cell?, h.cbAt hA, hv]
/-- Which of the list: found by Lean's own search. -/
class Has (A : HP) (L : List HP) : Prop where
  mem : A ∈ L
class HasB (b : Nat) (T : outParam TypeId) (l : outParam (List Value)) (L : List HP) : Prop where
  mem : cb b T l ∈ L
instance (b : Nat) (T : TypeId) (l : List Value) (L : List HP) : HasB b T l (cb b T l :: L) := ⟨List.mem_cons_self⟩
instance (priority := low) (b : Nat) (T : TypeId) (l : List Value) (A : HP) (L : List HP) [h : HasB b T l L] : HasB b T l (A :: L) := ⟨List.mem_cons_of_mem _ h.mem⟩
theorem y_ld {t : TypeId} {x : Operand} {i : TI} {b o : Nat} {v : Value} {T : TypeId} {l : List Value} (hx : ρ.ev x = some (.pointer (some ⟨b, o, none⟩))) [hm : HasB b T l L] (ht : fr.X.tab[t]? = some (some i)) (hi : i.ty.agg = false)
    (hv : l[o]? = some v) : Yd fr ds ρ L (.load t x) ty v :=
  y_load1 hx ht hi fun _ hw => hw.cbcell hm.mem hv
theorem take_get {l : List Value} {o n j : Nat} {v : Value} (h : ((l.drop o).take n)[j]? = some v) : l[o + j]? = some v := by
  rw [List.getElem?_take] at h
  split at h
  · rw [List.getElem?_drop] at h; exact h
  · cases h
theorem y_ldN {t : TypeId} {x : Operand} {it : Ty} {iz ib : Nat} {iv : List Value} {b o : Nat} {T : TypeId} {l : List Value} (hx : ρ.ev x = some (.pointer (some ⟨b, o, none⟩))) [hm : HasB b T l L] (ht : fr.X.tab[t]? = some (some ⟨it, iz, ib, iv⟩)) (hi : it.agg = true)
    (hn : ((l.drop o).take iz).length = iz) : Yd fr ds ρ L (.load t x) ty (.agg ((l.drop o).take iz).toArray) :=
  y_loadN hx ht hi hn fun _ hw j v hj => by
    rw [addr_add]
    exact hw.cbcell hm.mem (take_get hj)
/-- One cell of old memory. -/
theorem y_ldo {t : TypeId} {x : Operand} {i : TI} {ad : Addr} {v : Value} (hx : ρ.ev x = some (.pointer (some ad))) (ht : fr.X.tab[t]? = some (some i)) (hi : i.ty.agg = false) (hc : fr.base.cell? ad = some v) (hM : ¬ fr.M ad.block) :
    Yd fr ds ρ L (.load t x) ty v := y_load1 hx ht hi fun _ hw => hw.old hc hM

/-! ### Old rows of whole numbers -/
/-- A row of numbers, read in a world. -/
def RdI (w : World) (A : Option Addr) (xs : List Int) : Prop := ∀ i, i < xs.length → ∃ ad, A = some ad ∧ w.cell? (ad.add i) = some (.int .i64 (xs.getD i 0))
/-- .. and in every world that comes of it. -/
def KI (base : World) (M : Nat → Prop) (A : Option Addr) (xs : List Int) : Prop := ∀ w, Since base M w → RdI w A xs
theorem Since.old {base w : World} {M : Nat → Prop} (h : Since base M w) {ad : Addr} {v : Value} (hc : base.cell? ad = some v) (hM : ¬ M ad.block) : w.cell? ad = some v := by
  have hb : ad.block < base.heap.size := World.block_lt_of_cell? _ _ hc
  rw [World.cell?_of_block (h.block _ hb hM)]; exact hc
theorem addr_add_block (ad : Addr) (j : Nat) : (ad.add j).block = ad.block := by unfold Addr.add; split <;> rfl
theorem RdI.kept {base : World} {M : Nat → Prop} {A : Option Addr} {xs : List Int} (h : RdI base A xs) (hM : ∀ ad, A = some ad → ¬ M ad.block) : KI base M A xs := fun w hw i hi => by
  obtain ⟨ad, hA, hc⟩ := h i hi
  exact ⟨ad, hA, hw.old hc (by rw [addr_add_block]; exact hM ad hA)⟩
theorem RdI.keep {base : World} {A : Option Addr} {xs : List Int} (h : RdI base A xs) : KI base noM A xs := h.kept fun _ _ x => x
theorem y_ixD {t e : TypeId} {x ix : Operand} {i : TI} {jt : Ty} {jz jb : Nat} {jv : List Value} {A : Option Addr} {n c : Nat} {kd : IntKind} {q : Int} (hx : ρ.ev x = some (.slice A n c)) (hix : ρ.ev ix = some (.int kd q)) (hs : fr.X.tab[t]? = some (some i))
    (hi : i.ty = .sl e) (hj : fr.X.tab[e]? = some (some ⟨jt, jz, jb, jv⟩)) (h0 : 0 ≤ q) (h1 : q < n) (hA : A.isSome = true) : Yd fr ds ρ L (.indexAddr t x ix) ty (.pointer (some ((A.getD default).add (q.toNat * jz)))) := by
  obtain ⟨ad, rfl⟩ := Option.isSome_iff_exists.1 hA
  exact y_indexAddr hx hix hs hi hj h0 h1 rfl
theorem KI.some {base : World} {M : Nat → Prop} {A : Option Addr} {xs : List Int} (h : KI base M A xs) {q : Int} (h0 : 0 ≤ q) (h1 : q < xs.length) : A.isSome = true := by
  obtain ⟨ad, rfl, _⟩ := h base (Since.refl _ _) q.toNat (by omega)
  rfl
/-- Both at once: the place of an element of an old row of numbers, its load. -/
theorem y_ixI {t e : TypeId} {x ix : Operand} {i : TI} {jt : Ty} {jz jb : Nat} {jv : List Value} {A : Option Addr} {n c : Nat} {kd : IntKind} {q : Int} {xs : List Int} (hx : ρ.ev x = some (.slice A n c)) (hix : ρ.ev ix = some (.int kd q)) (hs : fr.X.tab[t]? = some (some i))
    (hi : i.ty = .sl e) (hj : fr.X.tab[e]? = some (some ⟨jt, jz, jb, jv⟩)) (hr : KI fr.base fr.M A xs) (hn : n = xs.length) (h0 : 0 ≤ q) (h1 : q < n) : Yd fr ds ρ L (.indexAddr t x ix) ty (.pointer (some ((A.getD default).add (q.toNat * jz)))) :=
  y_ixD hx hix hs hi hj h0 h1 (hr.some h0 (hn ▸ h1))
theorem y_ldI {t : TypeId} {x : Operand} {i : TI} {A : Option Addr} {sz : Nat} {q : Int} {xs : List Int} (hx : ρ.ev x = some (.pointer (some ((A.getD default).add (q.toNat * sz))))) (ht : fr.X.tab[t]? = some (some i)) (hi : i.ty.agg = false)
    (h1 : Nat.beq sz 1 = true) (hr : KI fr.base fr.M A xs) (h0 : 0 ≤ q) (hq : q < xs.length) : Yd fr ds ρ L (.load t x) ty (.int .i64 (xs.getD q.toNat 0)) :=
  y_load1 hx ht hi fun w hw => by
    have e : sz = 1 := Nat.eq_of_beq_eq_true h1
    subst e
    obtain ⟨ad, rfl, hc⟩ := hr w hw.since q.toNat (by omega)
    simpa using hc
theorem y_ldK {t : TypeId} {x : Operand} {i : TI} {A : Option Addr} {sz : Nat} {q : Nat} {xs : List Int} (hx : ρ.ev x = some (.pointer (some ((A.getD default).add ((q : Int).toNat * sz))))) (ht : fr.X.tab[t]? = some (some i)) (hi : i.ty.agg = false)
    (h1 : Nat.beq sz 1 = true) (hr : KI fr.base fr.M A xs) (hq : q < xs.length) : Yd fr ds ρ L (.load t x) ty (.int .i64 (xs.getD q 0)) :=
  y_ldI (q := (q : Int)) hx ht hi h1 hr (Int.natCast_nonneg q) (by omega)
theorem res_tmp {fn : Func} {t : Nat} {v : Value} (h : fn.results = #[.tmp t]) (hv : ρ.get t = some v) : Res fr ds ρ L fn v := fun a w ha _ => by
  rw [results_tmp h, ha.get t v hv]
theorem res_tmp2 {fn : Func} {t u : Nat} {v v' : Value} (h : fn.results = #[.tmp t, .tmp u]) (hv : ρ.get t = some v) (hu : ρ.get u = some v') : Res fr ds ρ L fn (.tuple #[v, v']) := fun a w ha _ => by
  rw [results_tmp2 h, ha.get t v hv, ha.get u v' hu]
end
end Go.E
