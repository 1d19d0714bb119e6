/- Kit E, part 16: loops told by what they turn alone; the rest of the slots that are looked at later, and of what is owned, is carried along. -/
import Derived.Test.YtgpebcfeeagoaaaE15
set_option linter.unusedVariables false
namespace Go.E
open Go Go.RowKit
theorem Env.sub_app {σ τ ρ : Env} (h : Env.sub σ ρ) (h' : Env.sub τ ρ) : Env.sub (σ ++ τ) ρ := by
  induction σ with
  | nil => exact h'
  | cons p σ ih => exact ⟨h.1, ih h.2⟩
section
variable {P : Program} {fr : Fr P} {ds : List Deferred} {ρ : Env} {L : List HP} {k : List It}
/-- A loop: V, K: the slots, and what is owned, that it turns; 'ρk': the other slots that are looked at later. -/
theorem s_loopV {σ : Type} {c : Code} (V : σ → Env) (K : σ → List HP) (φ : σ → Prop) (μ : σ → Nat) (s0 : σ) (ρk : Env) {rem : List HP} (hk : Env.sub ρk ρ) (hv : Env.sub (V s0) ρ) (hL : L.Perm (K s0 ++ rem)) (h0 : φ s0)
    (round : ∀ s, φ s → J fr ds (V s ++ ρk) (K s ++ rem) (.code c :: .inv (Head fr ds (fun s => V s ++ ρk) (fun s => K s ++ rem) φ μ (μ s)) :: k)) : J fr ds ρ L (.code (.loop c) :: k) :=
  s_loop (fun s => V s ++ ρk) (fun s => K s ++ rem) φ μ s0 (junk := []) (Env.sub_app hv hk) (by rw [List.append_nil]; exact hL) h0 round
/-- A cut behind a piece of code, told likewise. -/
theorem s_joinV {σ : Type} {c : Code} (V : σ → Env) (K0 : List HP) (K : σ → List HP) (φ : σ → Prop) (ρk : Env) {rem : List HP} (hk : Env.sub ρk ρ) (hL : L.Perm (K0 ++ rem))
    (h1 : ∀ k', (∀ x, φ x → J fr ds (V x ++ ρk) (K x ++ rem) k') → J fr ds ρ L (.code c :: k')) (h2 : ∀ x, φ x → J fr ds (V x ++ ρk) (K x ++ rem) k) : J fr ds ρ L (.code c :: k) := h1 k h2
/-- The slots that are looked at later alone. -/
theorem J.keep (ρk : Env) (hk : Env.sub ρk ρ) (h : J fr ds ρk L k) : J fr ds ρ L k := J.env hk h
/-- An element of one cell is written into a row that is owned, whole. -/
theorem s_storeSl {all : Array Oper} {rest : List Oper} {ty : TypeId} {pos : String} {af : Array Edge} {t : TypeId} {x y : Operand} {it : Ty} {ib : Nat} {iv : List Value} {A : Option Addr} {e n c : Nat} {xs : List Value} {rem : List HP} {v : Value} {q : Int}
    (hx : ρ.ev x = some (.pointer (some ((A.getD default).add (q.toNat * 1))))) (hy : ρ.ev y = some v) [hm : UpdS A e 1 n c xs L rem]
    (ht : fr.X.tab[t]? = some (some ⟨it, 1, ib, iv⟩)) (hv : Value.one v = true) (h0 : 0 ≤ q) (hq : q < n)
    (h : J fr ds ρ (Sl e 1 A n c (xs.set q.toNat v) :: rem) (.ops all rest :: k)) : J fr ds ρ L (.ops all (⟨none, .store t x y, ty, pos, af, none⟩ :: rest) :: k) :=
  s_eff0 (fun c e => by cases e) fun a w ha hw o' hop _ => by
    have hw' := hw.perm hm.perm
    have hsz := run_sizeOf (w := w) (fr.X.ti ht)
    obtain ⟨hl, -⟩ := Sl.facts (e := e) (sz := 1) (A := A) (n := n) (c := c) (vs := xs) _ (hw'.has List.mem_cons_self).choose_spec.1
    have hd : Sl e 1 A n c xs (hw'.has List.mem_cons_self).choose ∧ _ := (hw'.has (A := Sl e 1 A n c xs) List.mem_cons_self).choose_spec
    obtain ⟨⟨h1, h2, h3, h4⟩, hin⟩ := hd
    rcases h4 with ⟨_, hc0, _⟩ | ⟨g, cur, rfl, hh, h5, h6⟩
    · omega
    have hat : w.heap[g]? = some (.cells cur.toList.toArray e (0, 0)) := by
      have := hin g (.cells cur e (0, 0)) (by rw [hh]; simp [Hp.one])
      simpa using this
    have hlt : q.toNat < cur.toList.length := by simp only [Array.length_toList]; omega
    have hst := run_store1 (P := P) (o := q.toNat) hat hlt hv
    refine ⟨.skip, w.setCell ⟨g, q.toNat, none⟩ v, Sl e 1 (some ⟨g, 0, none⟩) n c (xs.set q.toNat v) :: rem, ?_, .inl rfl, ?_, h⟩
    · unfold execOp; rw [hop]
      have hx' : ρ.ev x = some (.pointer (some ⟨g, q.toNat, none⟩)) := by rw [hx]; simp [addr_add]
      simp [ha.ev hx', ha.ev hy, Instr.storeAt, Instr.sureAddr, storeVar, hsz, one_cell hv, storeCells, hst, addr_add]
    · refine hw'.turn1 (fun k1 hk1 hi1 => ?_) (by simp) rfl rfl rfl
      obtain ⟨_, _, _, h4⟩ := hk1
      rcases h4 with ⟨hn, _, _⟩ | ⟨g', cur', hg, rfl, h5', h6'⟩
      · cases hn
      cases hg
      have hcur : cur' = cur := by
        have := hi1 g (.cells cur' e (0, 0)) (by simp [Hp.one])
        rw [hat] at this; cases this; simp
      subst hcur
      refine ⟨Hp.one g (.cells (cur'.toList.set q.toNat v).toArray e (0, 0)), ⟨by simpa using h1, h2, h3, .inr ⟨g, _, rfl, rfl, by simpa using h5, ?_⟩⟩, fun b o hb => ?_, fun b o hb => ?_, fun b hb hn => ?_⟩
      · rw [List.length_set, List.take_set, h6]
      · simp only [Hp.one] at hb
        split at hb
        · rename_i e1; cases hb; rw [e1]; exact setCell_heap hat
        · cases hb
      · right
        simp only [Hp.one] at hb ⊢
        split at hb
        · rename_i e1; simp [e1]
        · cases hb
      · refine Below.heap_setCell w _ v b ?_
        intro e1; simp [Hp.one, e1] at hn
theorem s_storeIx {all : Array Oper} {rest : List Oper} {ty : TypeId} {pos : String} {af : Array Edge} {t : TypeId} {x y : Operand} {it : Ty} {ib : Nat} {iv : List Value} {b : Nat} {T : TypeId} {xs : List Int} {rem : List HP} {v q : Int}
    (hx : ρ.ev x = some (.pointer (some (((some (⟨b, 0, none⟩ : Addr)).getD default).add (q.toNat * 1))))) (hy : ρ.ev y = some (.int .i64 v)) [hm : UpdB b T (ints xs) L rem]
    (ht : fr.X.tab[t]? = some (some ⟨it, 1, ib, iv⟩)) (h0 : 0 ≤ q) (hq : q < xs.length)
    (h : J fr ds ρ (cb b T (ints (xs.set q.toNat v)) :: rem) (.ops all rest :: k)) : J fr ds ρ L (.ops all (⟨none, .store t x y, ty, pos, af, none⟩ :: rest) :: k) :=
  s_storeI (b := b) (o := q.toNat) q.toNat (by rw [hx]; simp [addr_add]) rfl hy ht (by omega) h
/-! A guard that was not reached itself. -/
theorem yielded_undef {all : Array Oper} {a : Act} {j t : Nat} (hj : (all[j]?).bind (·.dst) = some t) (ha : Env.ok fr.n ds ρ a) (ht : ρ.get t = some undef) : yielded all a.tmps j = none := by
  have h1 := ha.get t _ ht
  unfold yielded
  rw [hj, Option.bind_some]
  rw [Array.getD_eq_getD_getElem?] at h1
  cases h2 : a.tmps[t]? with
  | none => rfl
  | some u => rw [h2] at h1; simp only [Option.getD_some] at h1; rw [h1]; rfl
theorem s_unguardU {all : Array Oper} {rest : List Oper} {d : Nat} {op : Op} {ty : TypeId} {pos : String} {af : Array Edge} {j t : Nat} {c : Bool} (hj : (all[j]?).bind (·.dst) = some t) (ht : ρ.get t = some undef)
    (hd : Nat.ble (d + 1) fr.n = true) (h : J fr ds ((d, undef) :: ρ) L (.ops all rest :: k)) : J fr ds ρ L (.ops all (⟨some d, op, ty, pos, af, some (j, c)⟩ :: rest) :: k) := by
  intro a w ha hw
  have := h _ w (ha.put hd undef) hw
  have hy := yielded_undef hj ha ht
  change wpListIn (FW fr.r) 0 P all (post fr k) rest _ w at this
  show wpListIn (FW fr.r) 0 P all (post fr k) (⟨some d, op, ty, pos, af, some (j, c)⟩ :: rest) a w
  have hf : (none == some c) = false := rfl
  simp only [wpListIn, Region.wanted, hy, hf, Bool.false_eq_true, if_false]
  exact ⟨fun _ _ => trivial, this⟩
theorem d_skipU {all : Array Oper} {pend : List Pd} {fuel : Nat} {listed : Array Bool} (i : Nat) {d : Nat} {op : Op} {ty : TypeId} {pos : String} {af : Array Edge} {j t : Nat} {c : Bool} (hi : all[i]? = some ⟨some d, op, ty, pos, af, some (j, c)⟩) (hok : okTake all listed i = true) (hdf : ∀ c, op ≠ .defer c)
    (hj : (all[j]?).bind (·.dst) = some t) (ht : ρ.get t = some undef) (hd : Nat.ble (d + 1) fr.n = true)
    (h : JD fr ds ((d, undef) :: ρ) L all pend fuel (listed.setIfInBounds i true) k) : JD fr ds ρ L all pend (fuel + 1) listed k := by
  intro pa hpa a w ha hw hre
  simp only [okTake, Bool.and_eq_true] at hok
  have hf : (none == some c) = false := rfl
  have hya : YA P all ⟨some d, op, ty, pos, af, some (j, c)⟩ undef a w := .inr ⟨by simp only [Region.wanted, yielded_undef hj ha ht, hf], rfl⟩
  refine wpAnyP_first hi hdf (Region.noSelect_spec hok.1) (fun _ _ _ => id) fuel pa listed a w (Region.free_spec hi hok.2.1) (by simpa using hok.2.2) ⟨rfl, rfl⟩ hya hre ?_
  refine wpAnyP_add (fun w o ho => ?_) _ _ _ _ _ (h _ hpa _ w (ha.put hd undef) hw hre)
  rw [hi] at ho
  cases ho
  exact .inr ⟨by simp only [Region.wanted, yielded_undef hj ha ht, hf], rfl⟩
/-- An operation without a value that is guarded away. -/
theorem s_unguard0 {all : Array Oper} {rest : List Oper} {op : Op} {ty : TypeId} {pos : String} {af : Array Edge} {j t : Nat} {b c : Bool} (hj : (all[j]?).bind (·.dst) = some t) (ht : ρ.get t = some (.bool b)) (hc : (b == c) = false)
    (h : J fr ds ρ L (.ops all rest :: k)) : J fr ds ρ L (.ops all (⟨none, op, ty, pos, af, some (j, c)⟩ :: rest) :: k) := by
  intro a w ha hw
  have := h _ w (ha.skip undef) hw
  have hy := yielded_of hj ha ht
  change wpListIn (FW fr.r) 0 P all (post fr k) rest _ w at this
  show wpListIn (FW fr.r) 0 P all (post fr k) (⟨none, op, ty, pos, af, some (j, c)⟩ :: rest) a w
  have hf : (some b == some c) = false := hc
  simp only [wpListIn, Region.wanted, hy, hf, Bool.false_eq_true, if_false]
  exact ⟨fun _ _ => trivial, this⟩
end
end Go.E
