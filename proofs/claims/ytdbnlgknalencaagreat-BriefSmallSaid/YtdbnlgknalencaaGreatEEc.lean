/- The proof kit E, in parts. -/
import Derived.Test.YtdbnlgknalencaaGreatEEb
import Derived.OpenShut
import Derived.Maps.RangeRun
import Derived.Shelf.Sort.Plain
import Derived.Shelf.Slices.In.SortNone
import Derived.Sort.OwnSortedInts
/- Kit E, part 24: rows of structs of the call's own: read, written, grown; many rows. -/
set_option linter.unusedVariables false
namespace Go.E
open Go Go.RowKit
theorem flatAt {α : Type} {sz : Nat} {enc : α → List Value} (he : ∀ x, (enc x).length = sz) (dd : α) : ∀ (xs : List α) (i j : Nat) (u : Value), i < xs.length → (enc (xs.getD i dd))[j]? = some u → (xs.flatMap enc)[i * sz + j]? = some u
  | [], i, j, u, h, _ => by simp at h
  | x :: xs, 0, j, u, _, hj => by
    have hj' : (enc x)[j]? = some u := hj
    rw [List.flatMap_cons, Nat.zero_mul, Nat.zero_add, List.getElem?_append_left (List.getElem?_eq_some_iff.1 hj').1]
    exact hj'
  | x :: xs, i + 1, j, u, h, hj => by
    rw [List.flatMap_cons, List.getElem?_append_right (by rw [he, Nat.add_mul]; omega), he, show (i + 1) * sz + j - sz = i * sz + j by rw [Nat.add_mul]; omega]
    exact flatAt he dd xs i j u (by simpa using h) (by simpa using hj)
theorem flatSet {α : Type} {sz : Nat} {enc : α → List Value} (he : ∀ x, (enc x).length = sz) (dd : α) (y : α) (off : Nat) (v : Value) (hoff : off < sz) : ∀ (xs : List α) (k : Nat), k < xs.length → enc y = (enc (xs.getD k dd)).set off v → (xs.flatMap enc).set (k * sz + off) v = (xs.set k y).flatMap enc
  | [], k, h, _ => by simp at h
  | x :: xs, 0, _, hy => by
    have hy' : enc y = (enc x).set off v := hy
    rw [List.flatMap_cons, Nat.zero_mul, Nat.zero_add, List.set_append_left _ _ (by rw [he]; exact hoff), List.set_cons_zero, List.flatMap_cons, hy']
  | x :: xs, k + 1, h, hy => by
    rw [List.flatMap_cons, List.set_append_right _ _ (by rw [he, Nat.add_mul]; omega), he, show (k + 1) * sz + off - sz = k * sz + off by rw [Nat.add_mul]; omega, List.set_cons_succ, List.flatMap_cons, flatSet he dd y off v hoff xs k (by simpa using h) (by simpa using hy)]
theorem keOfC {α : Type} {sz : Nat} {enc : α → List Value} {dd : α} {base w : World} {M N : Nat → Prop} {L : List HP} {T b : Nat} {xs : List α} (he : ∀ x, (enc x).length = sz) (hl : ∀ w', Since w N w' → Sat base M L w') (hm : cb b T (xs.flatMap enc) ∈ L) : KE sz enc dd w N (some ⟨b, 0, none⟩) xs := fun w' h' i hi => by
  refine ⟨_, rfl, fun j u hj => ?_⟩
  have := (hl w' h').cbcell hm (o := i * sz + j) (flatAt he dd xs i j u hi hj)
  rw [addr_add, Nat.zero_add]; exact this
theorem kiOfC {base w : World} {M N : Nat → Prop} {L : List HP} {T b : Nat} {xs : List Int} (hl : ∀ w', Since w N w' → Sat base M L w') (hm : cb b T (ints xs) ∈ L) : KI w N (some ⟨b, 0, none⟩) xs := fun w' h' i hi => by
  have := (hl w' h').cbcell hm (o := i) (ints_get hi)
  refine ⟨_, rfl, ?_⟩
  rw [addr_add, Nat.zero_add]; exact this
theorem Sat.slE {α : Type} {sz : Nat} {enc : α → List Value} {dd : α} {base w : World} {M : Nat → Prop} {L : List HP} {e n c : Nat} {A : Option Addr} {xs : List α} (he : ∀ x, (enc x).length = sz) (h0 : 0 < sz) (hs : Sat base M L w) (hm : Sl e sz A n c (xs.flatMap enc) ∈ L) : RdE sz enc dd w A xs := fun i hi => by
  have hlen := flat_length he xs
  have hpos : 0 < (xs.flatMap enc).length := by rw [hlen]; exact Nat.mul_pos (by omega) h0
  obtain ⟨ad, hA, _⟩ := hs.slRd hm 0 ((xs.flatMap enc)[0]) (List.getElem?_eq_getElem hpos)
  refine ⟨ad, hA, fun j u hj => ?_⟩
  obtain ⟨ad', hA', hc⟩ := hs.slRd hm (i * sz + j) u (flatAt he dd xs i j u hi hj)
  rw [hA] at hA'; cases hA'
  exact hc
theorem keOfS {α : Type} {sz : Nat} {enc : α → List Value} {dd : α} {base w : World} {M N : Nat → Prop} {L : List HP} {e n c : Nat} {A : Option Addr} {xs : List α} (he : ∀ x, (enc x).length = sz) (h0 : 0 < sz) (hl : ∀ w', Since w N w' → Sat base M L w') (hm : Sl e sz A n c (xs.flatMap enc) ∈ L) : KE sz enc dd w N A xs := fun w' h' => (hl w' h').slE he h0 hm
theorem keOfBs {α : Type} {sz : Nat} {enc : α → List Value} {dd : α} {base w : World} {M N : Nat → Prop} {L : List HP} {f : Nat → HP} {n j e nn c : Nat} {A : Option Addr} {xs : List α} (he : ∀ x, (enc x).length = sz) (h0 : 0 < sz) (hl : ∀ w', Since w N w' → Sat base M L w') (hm : bs f n ∈ L) (hj : j < n) (hf : f j = Sl e sz A nn c (xs.flatMap enc)) : KE sz enc dd w N A xs := fun w' h' => by
  obtain ⟨R, h⟩ := (hl w' h').focus hj hm
  rw [hf] at h
  exact h.slE he h0 List.mem_cons_self
section
variable {P : Program} {fr : Fr P} {ds : List Deferred} {ρ : Env} {L : List HP} {k : List It}
theorem bs_snoc {f : Nat → HP} {n : Nat} (hp : Hp) : bs f (n + 1) hp ↔ star [f n, bs f n] hp := by
  rw [star_pair]
  unfold bs
  rw [List.range_succ, List.map_append, star_append]
  constructor
  · rintro ⟨h1, h2, a, b, d, rfl⟩
    exact ⟨h2, h1, star_one.1 b, a, d.symm, Hp.add_comm d⟩
  · rintro ⟨h1, h2, a, b, d, rfl⟩
    exact ⟨h2, h1, b, star_one.2 a, d.symm, Hp.add_comm d⟩
theorem J.bsSnoc {f : Nat → HP} {A : HP} {n : Nat} (g : Nat → HP) (hA : A = g n) (hg : ∀ i, i < n → f i = g i) (h : J fr ds ρ (bs g (n + 1) :: L) k) : J fr ds ρ (A :: bs f n :: L) k := by
  have e : bs f n = bs g n := by
    unfold bs
    congr 1
    exact List.map_congr_left fun x hx => hg x (List.mem_range.1 hx)
  have h2 : J fr ds ρ (star [A, bs f n] :: L) k := J.imp (B := bs g (n + 1)) (fun hp hh => by rw [hA, e] at hh; exact (bs_snoc hp).2 hh) h
  exact (J.group (K := [A, bs f n])).1 h2
/-- An element of one cell is written into a row that is owned, whole. -/
theorem s_storeSlG {all : Array Oper} {rest : List Oper} {ty : TypeId} {pos : String} {af : Array Edge} {t : TypeId} {x y : Operand} {it : Ty} {ib : Nat} {iv : List Value} {A : Option Addr} {e n c : Nat} {xs : List Value} {rem : List HP} {v : Value} {ad : Addr} {sz : Nat} (ix : Nat)
    (hx : ρ.ev x = some (.pointer (some ad))) (had : ∀ g, A = some ⟨g, 0, none⟩ → ad = ⟨g, ix, none⟩) (hy : ρ.ev y = some v) [hm : UpdS A e sz n c xs L rem]
    (ht : fr.X.tab[t]? = some (some ⟨it, 1, ib, iv⟩)) (hv : Value.one v = true) (hq : ix < xs.length)
    (h : J fr ds ρ (Sl e sz A n c (xs.set ix v) :: rem) (.ops all rest :: k)) : J fr ds ρ L (.ops all (⟨none, .store t x y, ty, pos, af, none⟩ :: rest) :: k) :=
  s_eff0 (fun c e => by cases e) fun a w ha hw o' hop _ => by
    have hw' := hw.perm hm.perm
    have hsz := run_sizeOf (w := w) (fr.X.ti ht)
    obtain ⟨hl, -⟩ := Sl.facts (e := e) (sz := sz) (A := A) (n := n) (c := c) (vs := xs) _ (hw'.has List.mem_cons_self).choose_spec.1
    have hd : Sl e sz A n c xs (hw'.has List.mem_cons_self).choose ∧ _ := (hw'.has (A := Sl e sz A n c xs) List.mem_cons_self).choose_spec
    obtain ⟨⟨h1, h2, h3, h4⟩, hin⟩ := hd
    rcases h4 with ⟨_, hc0, _⟩ | ⟨g, cur, rfl, hh, h5, h6⟩
    · rw [hc0] at h2; have : n = 0 := by omega
      rw [this, Nat.zero_mul] at h1; omega
    have hat : w.heap[g]? = some (.cells cur.toList.toArray e (0, 0)) := by
      have := hin g (.cells cur e (0, 0)) (by rw [hh]; simp [Hp.one])
      simpa using this
    have hlt : ix < cur.toList.length := by
      have := congrArg List.length h6
      rw [List.length_take] at this
      omega
    have hst := run_store1 (P := P) (o := ix) hat hlt hv
    refine ⟨.skip, w.setCell ⟨g, ix, none⟩ v, Sl e sz (some ⟨g, 0, none⟩) n c (xs.set ix v) :: rem, ?_, .inl rfl, ?_, h⟩
    · unfold execOp; rw [hop]
      have hx' : ρ.ev x = some (.pointer (some ⟨g, ix, none⟩)) := by rw [hx, had g rfl]
      simp [ha.ev hx', ha.ev hy, Instr.storeAt, Instr.sureAddr, storeVar, hsz, one_cell hv, storeCells, hst, addr_add]
    · refine hw'.turn1 (fun k1 hk1 hi1 => ?_) (by simp) rfl rfl rfl
      obtain ⟨_, _, _, h4⟩ := hk1
      rcases h4 with ⟨hn, _, _⟩ | ⟨g', cur', hg, rfl, h5', h6'⟩
      · cases hn
      cases hg
      have hcur : cur' = cur := by
        have := hi1 g (.cells cur' e (0, 0)) (by simp [Hp.one])
        rw [hat] at this; cases this; simp
      subst hcur
      refine ⟨Hp.one g (.cells (cur'.toList.set ix v).toArray e (0, 0)), ⟨by simpa using h1, h2, h3, .inr ⟨g, _, rfl, rfl, by simpa using h5, ?_⟩⟩, fun b o hb => ?_, fun b o hb => ?_, fun b hb hn => ?_⟩
      · rw [List.length_set, List.take_set, h6]
      · simp only [Hp.one] at hb
        split at hb
        · rename_i e1; cases hb; rw [e1]; exact setCell_heap hat
        · cases hb
      · right
        simp only [Hp.one] at hb ⊢
        split at hb
        · rename_i e1; simp [e1]
        · cases hb
      · refine Below.heap_setCell w _ v b ?_
        intro e1; simp [Hp.one, e1] at hn
theorem s_storeSlF {all : Array Oper} {rest : List Oper} {ty : TypeId} {pos : String} {af : Array Edge} {t : TypeId} {x y : Operand} {it : Ty} {ib : Nat} {iv : List Value} {A : Option Addr} {e n c sz off : Nat} {xs : List Value} {rem : List HP} {v : Value} {q : Int}
    (hx : ρ.ev x = some (.pointer (some (((A.getD default).add (q.toNat * sz)).add off)))) (hy : ρ.ev y = some v) [hm : UpdS A e sz n c xs L rem]
    (ht : fr.X.tab[t]? = some (some ⟨it, 1, ib, iv⟩)) (hv : Value.one v = true) (hq : q.toNat * sz + off < xs.length)
    (h : J fr ds ρ (Sl e sz A n c (xs.set (q.toNat * sz + off) v) :: rem) (.ops all rest :: k)) : J fr ds ρ L (.ops all (⟨none, .store t x y, ty, pos, af, none⟩ :: rest) :: k) :=
  s_storeSlG (q.toNat * sz + off) hx (fun g hg => by rw [hg, Option.getD_some, addr_add, addr_add]; simp) hy ht hv hq h
/-- A field of an element of an owned row. -/
theorem y_ldOF {ty : TypeId} {t : TypeId} {x : Operand} {i : TI} {A : Option Addr} {e n c sz off : Nat} {q : Nat} {xs : List Value} {v : Value} (hx : ρ.ev x = some (.pointer (some (((A.getD default).add ((q : Int).toNat * sz)).add off)))) (ht : fr.X.tab[t]? = some (some i)) (hi : i.ty.agg = false)
    [hm : HasS A e sz n c xs L] (hv : xs[q * sz + off]? = some v) : Yd fr ds ρ L (.load t x) ty v :=
  y_load1 hx ht hi fun w hw => by
    obtain ⟨ad, rfl, hc⟩ := hw.slRd hm.mem _ _ hv
    rw [Option.getD_some, addr_add_add]
    simpa using hc
end
end Go.E

/- Kit E, part 25: parameters opened: rows whose elements have a fact each; arrays of two numbers. -/
set_option linter.unusedVariables false
namespace Go.E
open Go Go.ChangeShapes Go.WideShapes
section
variable {H : Type} {enc : TypeId × Value → H} {P : Program} {w : World} {base : Nat} {spare : Nat → Bool} {held : Bool} {fuel : Nat} {t e : TypeId} {cs : List Value} {x : DataW H × List MemPlace}
/-- A slice of elements of one form. -/
theorem opened_rowQ {α : Type} {en : α → List Value} (dd : α) {Q : α → Prop} {sz B : Nat} (ht : P.underlying t = some (.slice e)) (hc : P.cellsOf e = sz) (hB : P.bytesOf e = B) (hlen : ∀ a, (en a).length = sz)
    (hel : ∀ fuel cs y, DataW.trod enc P w base spare held fuel e cs = some y → okW P e y.1 → ∃ a, cs = en a ∧ Q a) (h : DataW.trod enc P w base spare held fuel t cs = some x) (hw : okW P t x.1) :
    ∃ (A : Option Addr) (c : Nat) (xs : List α), cs = [.slice A xs.length c] ∧ RdE sz en dd w A xs ∧ (∀ x ∈ xs, Q x) ∧ xs.length * B ≤ 140737488351232 := by
  rcases DataW.trod_slice ht h with ⟨rfl, rfl⟩ | ⟨a, len, cap, elems, rest, n, rfl, rfl, rfl, hb, hl, hm, hlen', hel', hsp, hns⟩
  · exact ⟨none, 0, [], rfl, fun i hi => absurd hi (Nat.not_lt_zero i), by simp, by simp⟩
  · have key : ∀ i, i < len → ∃ v : α, Q v ∧ ∀ j u, (en v)[j]? = some u → w.cell? (a.add (i * sz + j)) = some u := fun i hi => by
      have h1 := hel' i hi
      have hei : i < elems.length := by omega
      rw [List.getElem?_eq_getElem hei, hc, Option.bind_eq_some_iff] at h1
      obtain ⟨cs', hcs, hy⟩ := h1
      obtain ⟨v, rfl, hq⟩ := hel n cs' _ hy (fun m hm => hw m (by
        simp only [DataW.weights, ht]
        refine List.mem_cons_of_mem _ (List.mem_append_left _ ?_)
        have : ∀ (l : List (DataW H × List MemPlace)) (i : Nat) (hi : i < l.length), m ∈ (l[i].1).weights P e → m ∈ DataW.weightsAll P e (l.map (·.1)) := by
          intro l
          induction l with
          | nil => intro i hi; simp at hi
          | cons y l ih =>
            intro i hi hm
            simp only [List.map_cons, DataW.weightsAll, List.mem_append]
            cases i with
            | zero => exact .inl hm
            | succ i => exact .inr (ih i (by simpa using hi) hm)
        exact this elems i hei hm))
      obtain ⟨_, hl1, hcell⟩ := World.cells?_some hcs
      refine ⟨v, hq, fun j u hj => ?_⟩
      have hjlt : j < sz := by rw [← hl1]; exact (List.getElem?_eq_some_iff.1 hj).1
      have := hcell j hjlt
      rw [addr_add_add] at this
      rw [this, hj]
    have hch : ∃ f : Nat → α, ∀ i, i < len → Q (f i) ∧ ∀ j u, (en (f i))[j]? = some u → w.cell? (a.add (i * sz + j)) = some u :=
      ⟨fun i => if hi : i < len then Classical.choose (key i hi) else dd, fun i hi => by dsimp only; rw [dif_pos hi]; exact Classical.choose_spec (key i hi)⟩
    obtain ⟨f, hf⟩ := hch
    refine ⟨some a, cap, (List.range len).map f, by simp, fun i hi => ⟨a, rfl, fun j u hj => ?_⟩, fun x hx => ?_, ?_⟩
    · have hi' : i < len := by simpa using hi
      have e1 : ((List.range len).map f).getD i dd = f i := by simp [List.getD_eq_getElem?_getD, hi']
      rw [e1] at hj
      exact (hf i hi').2 j u hj
    · obtain ⟨i, hi, rfl⟩ := List.mem_map.1 hx
      exact (hf i (List.mem_range.1 hi)).1
    · have hmem : (elems.length + rest.length) * B ≤ reachBytes := by
        refine hw _ ?_
        simp only [DataW.weights, ht, hB, List.length_map]
        exact List.mem_cons_self
      have : ((List.range len).map f).length * B ≤ (elems.length + rest.length) * B := Nat.mul_le_mul_right _ (by simp; omega)
      exact Nat.le_trans this hmem
/-- A slice of numbers, its capacity told. -/
theorem opened_intsC {B : Nat} (ht : P.underlying t = some (.slice e)) (he : P.underlying e = some (.int .i64)) (hc : P.cellsOf e = 1) (hB : P.bytesOf e = B) (h : DataW.trod enc P w base spare held fuel t cs = some x) (hw : okW P t x.1) :
    ∃ (A : Option Addr) (c : Nat) (xs : List Int), cs = [.slice A xs.length c] ∧ RdI w A xs ∧ xs.length * B ≤ 140737488351232 ∧ xs.length ≤ c := by
  rcases open_ints ht he hc h with ⟨rfl, rfl⟩ | ⟨a, len, cap, zs, rfl, hb, hl, hm, hz, rfl, hcell, hwf⟩
  · exact ⟨none, 0, [], rfl, fun i hi => absurd hi (Nat.not_lt_zero i), by simp, by simp⟩
  · have hle : len ≤ zs.length := by rw [hz]; split <;> omega
    have hlen : (zs.take len).length = len := by rw [List.length_take]; omega
    refine ⟨some a, cap, zs.take len, by rw [hlen], fun i hi => ⟨a, rfl, ?_⟩, ?_, by rw [hlen]; exact hl⟩
    · rw [hlen] at hi
      have := hcell i (by omega)
      rw [this, List.getD_eq_getElem?_getD, List.getD_eq_getElem?_getD, List.getElem?_take_of_lt hi]
    · rw [hlen]
      have hmem : (zs.length) * B ≤ reachBytes := by
        refine hw _ ?_
        simp only [DataW.weights, ht, hB]
        refine List.mem_cons.2 (.inl ?_)
        congr 1
        simp [lits]; omega
      exact Nat.le_trans (Nat.mul_le_mul_right _ hle) hmem
theorem take1c {cs : List Value} {o s : Nat} {y : Value} (hs : s = 1) (h : (cs.drop o).take s = [y]) : cs[o]? = some y := by
  subst hs
  have : ((cs.drop o).take 1)[0]? = some y := by rw [h]; rfl
  rwa [List.getElem?_take_of_lt (by omega), List.getElem?_drop, Nat.add_zero] at this
theorem lit64 {n : Int} (h : (Lit.int .i64 n).wf = true) : -9223372036854775808 ≤ n ∧ n ≤ 9223372036854775807 := by
  simp only [Lit.wf, Bool.and_eq_true, decide_eq_true_eq] at h
  exact h
theorem opened_arr2 (ht : P.underlying t = some (.array 2 e)) (he : P.underlying e = some (.int .i64)) (hc : P.cellsOf e = 1) (hc2 : P.cellsOf t = 2) (h : DataW.trod enc P w base spare held fuel t cs = some x) : ∃ a b : Int, cs = [.int .i64 a, .int .i64 b] := by
  obtain ⟨xs, m, rfl, rfl, hl, hn, hx⟩ := DataW.trod_array ht h
  rw [hc2] at hl
  match cs, hl with
  | [u, v], _ =>
    have h0 := hx 0 (by omega)
    have h1 := hx 1 (by omega)
    rw [List.getElem?_eq_getElem (by omega)] at h0 h1
    obtain ⟨a, e0, _⟩ := opened_int he h0
    obtain ⟨b, e1, _⟩ := opened_int he h1
    rw [hc] at e0 e1
    have e0' : u = .int .i64 a := by simpa using e0
    have e1' : v = .int .i64 b := by simpa using e1
    exact ⟨a, b, by rw [e0', e1']⟩
end
end Go.E

/- Kit E, part 29: a slot that is a truth is looked at. -/
set_option linter.unusedVariables false
namespace Go.E
open Go Go.RowKit
section
variable {P : Program} {fr : Fr P} {ds : List Deferred} {ρ : Env} {L : List HP} {k : List It}
theorem J.split {t : Nat} {p : Prop} [Decidable p] (ht : ρ.get t = some (.bool (decide p))) (hT : p → J fr ds ((t, .bool true) :: ρ) L k) (hF : ¬ p → J fr ds ((t, .bool false) :: ρ) L k) : J fr ds ρ L k := by
  intro a w ha hw
  have key : ∀ b, decide p = b → Env.ok fr.n ds ((t, .bool b) :: ρ) a := fun b hb => ⟨ha.size, ha.defers, fun u v e => by
    simp only [Env.get] at e
    cases hbq : Nat.beq t u with
    | true => rw [hbq] at e; cases e; have := Nat.eq_of_beq_eq_true hbq; subst this; rw [← hb]; exact ha.get _ _ ht
    | false => rw [hbq] at e; exact ha.get u v e⟩
  by_cases hp : p
  · exact hT hp a w (key true (decide_eq_true hp)) hw
  · exact hF hp a w (key false (decide_eq_false hp)) hw
theorem J.splitb {t : Nat} {b : Bool} (ht : ρ.get t = some (.bool b)) (hT : b = true → J fr ds ((t, .bool true) :: ρ) L k) (hF : b = false → J fr ds ((t, .bool false) :: ρ) L k) : J fr ds ρ L k :=
  J.split (p := b = true) (by rw [ht]; cases b <;> rfl) hT (fun h => hF (by simpa using h))
theorem J.known {t : Nat} {b' b : Bool} (ht : ρ.get t = some (.bool b')) (e : b' = b) (h : J fr ds ((t, .bool b) :: ρ) L k) : J fr ds ρ L k := by
  subst e; exact J.splitb ht (fun hb => by subst hb; exact h) (fun hb => by subst hb; exact h)
theorem d_known {all : Array Oper} {pend : List Pd} {fuel : Nat} {listed : Array Bool} {t : Nat} {b' b : Bool} (ht : ρ.get t = some (.bool b')) (e : b' = b) (h : JD fr ds ((t, .bool b) :: ρ) L all pend fuel listed k) : JD fr ds ρ L all pend fuel listed k := by
  subst e; exact d_splitb ht (fun hb => by subst hb; exact h) (fun hb => by subst hb; exact h)
end
end Go.E

/- Kit E, part 30: a field of more cells, of an element that is read. -/
set_option linter.unusedVariables false
namespace Go.E
open Go Go.RowKit
section
variable {P : Program} {fr : Fr P} {ds : List Deferred} {ρ : Env} {L : List HP} {ty : TypeId} {α : Type} {sz : Nat} {enc : α → List Value} {dd : α}
theorem y_ldFN {t : TypeId} {x : Operand} {it : Ty} {iz ib : Nat} {iv : List Value} {A : Option Addr} {q off : Nat} {xs : List α} {vs : List Value} (hr : KE sz enc dd fr.base fr.M A xs) (hx : ρ.ev x = some (.pointer (some (((A.getD default).add ((q : Int).toNat * sz)).add off)))) (ht : fr.X.tab[t]? = some (some ⟨it, iz, ib, iv⟩)) (hi : it.agg = true)
    (hq : q < xs.length) (hn : vs.length = iz) (hv : ∀ j, j < vs.length → (enc (xs.getD q dd))[off + j]? = vs[j]?) : Yd fr ds ρ L (.load t x) ty (.agg vs.toArray) :=
  y_loadN hx ht hi hn fun w hw j v hj => by
    obtain ⟨ad, rfl, hc⟩ := hr w hw.since q hq
    rw [Option.getD_some, addr_add_add, addr_add_add]
    have hjl := (List.getElem?_eq_some_iff.1 hj).1
    have := hc (off + j) v (by rw [hv j hjl]; exact hj)
    simpa [Nat.add_assoc] using this
end
end Go.E

/- Kit E, part 31: an element's struct is written into a block of a row. -/
set_option linter.unusedVariables false
namespace Go.E
open Go Go.RowKit
theorem slToCbN {e sz b n : Nat} {l : List Value} {h : Hp} (s : Sl e sz (some ⟨b, 0, none⟩) n n l h) : cb b e l h := by
  obtain ⟨h1, h2, h3, h4⟩ := s
  rcases h4 with ⟨hn, _, _⟩ | ⟨g, cur, hg, rfl, h5, h6⟩
  · cases hn
  · cases hg
    rw [List.take_of_length_le (by rw [h1, Array.length_toList, h5]; exact Nat.le_refl _)] at h6
    rw [← h6]; simp [cb, pt]
theorem setAll_left (vs : List Value) : ∀ (l r : List Value) (o : Nat), o + vs.length ≤ l.length → setAll (l ++ r) o vs = setAll l o vs ++ r := by
  induction vs with
  | nil => intro l r o _; rfl
  | cons v vs ih =>
    intro l r o h
    simp only [List.length_cons] at h
    rw [setAll, setAll, List.set_append_left _ _ (by omega), ih _ _ _ (by rw [List.length_set]; omega)]
theorem setAll_right (vs : List Value) : ∀ (l r : List Value) (o n : Nat), n = l.length + o → setAll (l ++ r) n vs = l ++ setAll r o vs := by
  induction vs with
  | nil => intro l r o n _; rfl
  | cons v vs ih =>
    intro l r o n h
    subst h
    rw [setAll, setAll, List.set_append_right _ _ (by omega), ih _ _ (o + 1) _ (by omega), Nat.add_sub_cancel_left]
theorem flatSetAll {α : Type} {sz : Nat} {enc : α → List Value} (he : ∀ x, (enc x).length = sz) (dd : α) (y : α) (off : Nat) (vs : List Value) (hoff : off + vs.length ≤ sz) :
    ∀ (xs : List α) (k : Nat), k < xs.length → enc y = setAll (enc (xs.getD k dd)) off vs → setAll (xs.flatMap enc) (k * sz + off) vs = (xs.set k y).flatMap enc
  | [], k, h, _ => absurd h (Nat.not_lt_zero k)
  | x :: xs, 0, _, h => by
    simp only [List.getD_cons_zero] at h
    rw [List.flatMap_cons, Nat.zero_mul, Nat.zero_add, setAll_left _ _ _ _ (by rw [he]; exact hoff), ← h]; rfl
  | x :: xs, k + 1, h, hy => by
    simp only [List.getD_cons_succ] at hy
    have := flatSetAll he dd y off vs hoff xs k (by simpa using h) hy
    rw [List.flatMap_cons, setAll_right vs _ _ (k * sz + off) _ (by rw [he, Nat.succ_mul]; omega), this]; rfl
section
variable {P : Program} {fr : Fr P} {ds : List Deferred} {ρ : Env} {L : List HP} {k : List It} {all : Array Oper} {rest : List Oper} {ty : TypeId} {pos : String} {af : Array Edge}
theorem s_storeNA {t : TypeId} {x y : Operand} {it : Ty} {iz ib : Nat} {iv : List Value} {b o : Nat} {ad : Addr} {T : TypeId} {l : List Value} {rem : List HP} {vs : List Value} (hx : ρ.ev x = some (.pointer (some ad))) (had : ad = ⟨b, o, none⟩) (hy : ρ.ev y = some (.agg vs.toArray)) [hm : UpdB b T l L rem]
    (ht : fr.X.tab[t]? = some (some ⟨it, iz, ib, iv⟩)) (hn : vs.length = iz) (hv : vs.all Value.one = true) (ho : o + iz ≤ l.length)
    (h : J fr ds ρ (cb b T (setAll l o vs) :: rem) (.ops all rest :: k)) : J fr ds ρ L (.ops all (⟨none, .store t x y, ty, pos, af, none⟩ :: rest) :: k) := by
  subst had; exact s_storeN hx hy ht hn hv (Nat.ble_eq_true_of_le ho) h
end
theorem zeros_flat {α : Type} {enc : α → List Value} (z : α) (n : Nat) : zerosOf (enc z) n = (List.replicate n z).flatMap enc := by
  induction n with
  | zero => rfl
  | succ n ih => rw [zerosOf, ih, List.replicate_succ, List.flatMap_cons]
end Go.E

/- Kit E, part 32: a range over a function whose values come in an order that is not known ahead; a map gone through. -/
set_option linter.unusedVariables false
namespace Go.E
open Go Go.RowKit
/-- Between two rounds; behind a round that has left. -/
def LIg {σ : Type} (l : Nat) (R : Loop) (LI : σ → List HP) (s : σ) : HP := star (lp l (Loop.st R .ready none) :: LI s)
/-- What a round's yield tells. -/
def RYg {σ τ : Type} (l : Nat) (R : Loop) (LI : σ → List HP) (LS : τ → Code × List HP) (k : σ) (v : Value) (L' : List HP) : Prop :=
  (v = .bool true ∧ L' = [LIg l R LI k]) ∨ (v = .bool false ∧ L' = [LS' l R LS])
def QYg {σ τ : Type} (P : Program) (w : World) (N : Nat → Prop) (l : Nat) (R : Loop) (LI : σ → List HP) (LS : τ → Code × List HP) (k : σ) : Exit → Act → World → Prop :=
  roundPost P l fun e w' => ∃ v L', e = .returned v ∧ RYg l R LI LS k v L' ∧ Sat w N L' w'
section
variable {P : Program} {ds : List Deferred} {ρ : Env} {L : List HP} {X : Cx P} {w0 : World} {N : Nat → Prop} {n l : Nat} {R : Loop} {σ τ : Type} {LI : σ → List HP} {LS : τ → Code × List HP} {kk : σ} {s : LoopState} {p : Option Code}
theorem s_roundEndG {junk : List HP} (hL : L.Perm (lp l (Loop.st R .busy none) :: (LI kk ++ junk))) : J ⟨X, some l, w0, N, n, QYg P w0 N l R LI LS kk⟩ ds ρ L [] := by
  intro a w ha hw
  have hw' := hw.perm hL
  refine ⟨_, _, run_endRound hw'.at none, .bool true, [LIg l R LI kk], rfl, .inl ⟨rfl, rfl⟩, ?_⟩
  have := hw'.setObj (.loop (Loop.st (Loop.st R .busy none) .ready none))
  have h2 : Sat w0 N ((lp l (Loop.st R .ready none) :: LI kk) ++ junk) _ := this
  exact (Sat.group (R := [])).2 (by rw [List.append_nil]; exact h2.left)
theorem s_roundOutG {junk : List HP} {id : Nat} {k : List It} (t : τ) (e : It.to id k = none) (ht : (LS t).1 = .exit id) (hL : L.Perm (lp l (Loop.st R .busy none) :: ((LS t).2 ++ junk))) : J ⟨X, some l, w0, N, n, QYg P w0 N l R LI LS kk⟩ ds ρ L (.code (.exit id) :: k) := by
  refine s_out e fun a w ha hw => ?_
  have hw' := hw.perm hL
  refine ⟨_, _, run_endRound hw'.at (some (.exit id)), .bool false, [LS' l R LS], rfl, .inr ⟨rfl, rfl⟩, ?_⟩
  have := hw'.setObj (.loop (Loop.st (Loop.st R .busy none) .done (some (.exit id))))
  exact roundLeft t ht.symm this
theorem s_roundRetG {junk : List HP} {k : List It} (t : τ) (ht : (LS t).1 = .ret) (hL : L.Perm (lp l (Loop.st R .busy none) :: ((LS t).2 ++ junk))) : J ⟨X, some l, w0, N, n, QYg P w0 N l R LI LS kk⟩ ds ρ L (.code .ret :: k) := by
  refine s_ret fun a w ha hw => ?_
  have hw' := hw.perm hL
  refine ⟨_, _, run_endRound hw'.at (some .ret), .bool false, [LS' l R LS], rfl, .inr ⟨rfl, rfl⟩, ?_⟩
  have := hw'.setObj (.loop (Loop.st (Loop.st R .busy none) .done (some .ret)))
  exact roundLeft t ht.symm this
end
section
variable {P : Program} {fr : Fr P} {ds : List Deferred} {ρ : Env} {L : List HP} {k : List It}
theorem s_rangeG {σ τ α : Type} {g : Operand} {ps : List Tmp} {assign body : Code} {f : FuncId} {caps : List Value} {rem : List HP} (hr : fr.r = none) (hg : ρ.ev g = some (.func (.func f) #[] caps.toArray)) (hf : fr.X.has f = true)
    (LI : σ → List HP) (LS : τ → Code × List HP) (av : σ → α → List Value) (nx : σ → α → σ) (dom : σ → α → Prop) (fin : σ → Prop) (s0 : σ) (hL : L.Perm (LI s0 ++ rem)) (hav : ∀ s a, (av s a).length = ps.length) (hps : ps.all (fun t => Nat.ble (t + 1) fr.n) = true)
    (hiter : ∀ l R w0 N0, Owns w0 [LIg l R LI s0] N0 → (∀ w', Since w0 N0 w' → Sat fr.base fr.M rem w') →
      (∀ s a w N, dom s a → Owns w [LIg l R LI s] N → (∀ w', Since w N w' → Since w0 N0 w') → RetY P l (av s a) w N (RYg l R LI LS (nx s a))) →
      Ret P f (.func (.yield l) #[] #[] :: caps) w0 N0 fun _ L' => (∃ s, fin s ∧ L' = [LIg l R LI s]) ∨ L' = [LS' l R LS])
    (hassign : ∀ l R w N s a, dom s a → (∀ w', Since w N w' → Sat fr.base fr.M rem w') → J ⟨fr.X, some l, w, N, fr.n, fun _ _ _ => False⟩ [] (setps ps (av s a) ρ) (lp l (Loop.st R .ready none) :: LI s) [.code assign, .then_ (BK P l body (QYg P w N l R LI LS (nx s a)))])
    (hdone : ∀ D k', fin k' → J fr (mk D :: ds) ρ (dm D :: (LI k' ++ rem)) k)
    (hleft : ∀ D t, J fr (mk D :: ds) ρ (dm D :: ((LS t).2 ++ rem)) (.code (LS t).1 :: k)) :
    J fr ds ρ L (.code (.rangeFunc g ps.toArray assign body) :: k) := by
  intro a w ha hw
  have hFW : FW fr.r = Fence.wide := by rw [hr]; rfl
  show (Code.rangeFunc g ps.toArray assign body).wpIn (FW fr.r) 0 P (post fr k) a w
  refine wpIn_rangeFunc fun fn _ => ?_
  let D := w.heap.size
  let l := w.heap.size + 1
  let R : Loop := { state := .ready, pending := none, fn := fn, tmps := a.tmps, params := ps.toArray, assign := assign, body := body, defers := D }
  let w1 := (w.alloc (.deferred (some []))).alloc (.loop R)
  have hw1 : Sat fr.base fr.M (lp l (Loop.st R .ready none) :: dm D :: L) w1 := by
    have h1 := hw.alloc (.deferred (some []))
    have h2 := h1.alloc (.loop R)
    have hsz : (w.alloc (.deferred (some []))).heap.size = l := by simp [l]
    rw [hsz] at h2
    exact h2
  refine ⟨l, [mk D], w1, ⟨.fn (.func f) caps.toArray, #[.func (.yield l) #[] #[]]⟩, w1, f, (.func (.yield l) #[] #[] :: caps).toArray, w1, ?_, ?_, fun _ _ => trivial, ?_, fun x => absurd x (by simp [FW, Fence.wide]), ?_⟩
  · have hro : (FW fr.r).round = none := hr
    rw [hro]
    simp [Instr.enterLoop, w1, l, D, R, mk]
  · simp only [resolve, ha.ev hg, Deferred.ofValue]
    simp [Act.eval]
  · have := run_callFunc (args := (Value.func (.yield l) #[] #[] :: caps).toArray) (w := w1) (fr.X.call hf)
    simpa [invoke] using this
  · -- the call
    have hw2 : Sat fr.base fr.M ([LIg l R LI s0] ++ (dm D :: rem)) w1 := by
      have hp : (lp l (Loop.st R .ready none) :: dm D :: L).Perm ((lp l (Loop.st R .ready none) :: LI s0) ++ (dm D :: rem)) := by
        refine List.Perm.cons _ ?_
        exact (List.Perm.cons _ hL).trans (List.perm_middle.symm)
      exact Sat.group.2 (hw1.perm hp)
    obtain ⟨N0, ho, hframe, hl0⟩ := hw2.framed
    have hl : ∀ w', Since w1 N0 w' → Sat fr.base fr.M rem w' := fun w' h' => by
      have := hl0 w' h'
      exact (this.perm (List.perm_append_comm (l₁ := [dm D]) (l₂ := rem))).left
    have hcall := hiter l R w1 N0 ho hl (fun k' a' wr N hk hown hsn => by
      refine ⟨fn, (ps.zip (av k' a')).foldl (fun tmps x => tmps.setIfInBounds x.1 x.2) a.tmps, assign, body, ?_, ?_⟩
      · -- yield finds the record
        have hat : wr.heap[l]? = some (.loop (Loop.st R .ready none)) := (Owns.sat hown |> Sat.group.1 |>.at)
        have hlen : (av k' a').toArray.size = (Loop.st R .ready none).params.size := by simp [Loop.st, R, hav k' a']
        simp only [Instr.yield, Sem.run_bind, run_getLoop hat, Result.andThen_ok]
        rw [if_neg (by rw [hlen]; simp)]
        simp [Loop.st, R]
      · refine roundIn_of_wpIn (F := Fence.wide) trivial ?_
        have hsat : Sat wr N (lp l (Loop.st R .ready none) :: LI k') wr := by
          have := Sat.group.1 (Owns.sat hown)
          simpa using this
        have hJ := hassign l R wr N k' a' hk (fun w' h' => hl w' (hsn w' h')) ⟨(ps.zip (av k' a')).foldl (fun tmps x => tmps.setIfInBounds x.1 x.2) a.tmps, []⟩ wr (Env.ok.setps (ds := []) ⟨ha.size, rfl, ha.get⟩ hps) hsat
        change assign.wpIn (FW (some l)) 0 P _ _ wr at hJ
        refine wpIn_mono hJ fun e a1 w1' hq => ?_
        cases e with
        | normal => exact hq
        | _ => exact hq.elim)
    have key : Ret P f (.func (.yield l) #[] #[] :: caps) w1 N0 fun _ L' => (∃ s, fin s ∧ L' = [LIg l R LI s]) ∨ L' = [LS' l R LS] := hcall
    have key2 : CallsIn Fence.wide (0 - 1) P f (.func (.yield l) #[] #[] :: caps).toArray w1 (rangePost (FW fr.r) 0 P l (post fr k) { a with defers := [mk D] ++ a.defers }) := by
      refine (callsIn_wide (n := 0 - 1)).2 (Calls.mono key ?_)
      rintro e w' ⟨v, L', rfl, hR, hS⟩
      have ha' : Env.ok fr.n (mk D :: ds) ρ { a with defers := [mk D] ++ a.defers } := ⟨ha.size, by simp [ha.defers], ha.get⟩
      rcases hR with ⟨k', hk', rfl⟩ | rfl
      · have h3 := hframe _ _ hS
        have h4 : Sat fr.base fr.M (lp l (Loop.st R .ready none) :: (LI k' ++ (dm D :: rem))) w' := Sat.group.1 h3
        refine ⟨none, _, run_endLoop h4.at (by simp [Loop.st]), ?_⟩
        have h5 := h4.setObj (.loop { Loop.st R .ready none with state := .exhausted })
        refine hdone D k' hk' _ _ ha' ?_
        have h6 := (h5.perm (List.perm_append_comm (l₁ := [pt l (.loop { Loop.st R .ready none with state := .exhausted })]) (l₂ := LI k' ++ (dm D :: rem)))).left
        exact h6.perm List.perm_middle
      · have h3 := hframe _ _ hS
        obtain ⟨hp, ⟨h1, h2, ⟨t, ht⟩, s2, d2, rfl⟩, hin, hle⟩ := h3.hp
        have h4 : Sat fr.base fr.M (lp l (Loop.st R .done (some (LS t).1)) :: ((LS t).2 ++ (dm D :: rem))) w' :=
          Sat.group.1 ⟨⟨_, ⟨h1, h2, ht, s2, d2, rfl⟩, hin, hle⟩, h3.since⟩
        refine ⟨some (LS t).1, _, run_endLoop h4.at (by simp [Loop.st]), ?_⟩
        have h5 := h4.setObj (.loop { Loop.st R .done (some (LS t).1) with state := .exhausted })
        have h6 := (h5.perm (List.perm_append_comm (l₁ := [pt l (.loop { Loop.st R .done (some (LS t).1) with state := .exhausted })]) (l₂ := (LS t).2 ++ (dm D :: rem)))).left
        exact hleft D t _ _ ha' (h6.perm List.perm_middle)
    rw [hFW] at key2 ⊢
    exact key2

end
/-! ### A map that is gone through, and stays -/
/-- What is known of a map's block. -/
def KM (base : World) (M : Nat → Prop) (b : Nat) (es : Array MapEntry) (clock : Nat) : Prop := ∀ w, Since base M w → w.heap[b]? = some (.map es clock)
theorem KM.of {base w : World} {M N : Nat → Prop} {L : List HP} {b : Nat} {es : Array MapEntry} {clock : Nat} (h : KM base M b es clock) (hl : ∀ w', Since w N w' → Sat base M L w') : KM w N b es clock := fun w' h' => h w' (hl w' h').since
/-- An iterator over it: what is still to come. -/
def Itr (r b clock : Nat) (es : Array MapEntry) (todo : List MapEntry) (last : Option MapEntry) : HP := fun h => ∃ seen c0, h = Hp.one r (.mapIter (some b) clock seen c0) ∧ clock ≤ c0 ∧ (leftOf es seen).toList = todo ∧ ∀ e, last = some e → e ∈ es.toList ∧ c0 = clock ∧ ∃ s' : Array Nat, seen = s'.push e.born
section
variable {P : Program} {fr : Fr P} {ds : List Deferred} {ρ : Env} {L : List HP} {k : List It} {all : Array Oper} {rest : List Oper} {d : Nat} {ty : TypeId} {pos : String} {af : Array Edge}
theorem s_rangeMap {t T e : TypeId} {x : Operand} {b : Nat} {es : Array MapEntry} {clock : Nat} {sz ib : Nat} {iv : List Value} (hx : ρ.ev x = some (.map (some b))) (hk : ∀ w, Sat fr.base fr.M L w → w.heap[b]? = some (.map es clock)) (ht : fr.X.tab[t]? = some (some ⟨.mp T e, sz, ib, iv⟩)) (hd : Nat.ble (d + 1) fr.n = true)
    (h : ∀ r, J fr ds ((d, .pointer (some ⟨r, 0, none⟩)) :: ρ) (Itr r b clock es es.toList none :: L) (.ops all rest :: k)) :
    J fr ds ρ L (.ops all (⟨some d, .range t x, ty, pos, af, none⟩ :: rest) :: k) :=
  s_eff (fun c e => by cases e) hd fun a w ha hw o ho _ => by
    obtain ⟨d', inf, z', g1, g2, g3, g4, g5, g6, g7⟩ := TI.of_spec (fr.X.ti ht)
    have := Ty.of_mp g4
    subst this
    refine ⟨_, w.alloc (.mapIter (some b) clock #[] clock), Itr w.heap.size b clock es es.toList none :: L, ?_, (hw.alloc _).imp fun hp e1 => ⟨#[], clock, e1, Nat.le_refl _, by simp [leftOf], fun _ h => by cases h⟩, h w.heap.size⟩
    unfold execOp; rw [ho]
    simp only [ha.ev hx]
    rw [Sem.run_bind, run_range_map w t T e b es clock g1 (hk w hw)]
    rfl
theorem s_nextMap {x : Operand} {r b clock : Nat} {es : Array MapEntry} {todo : List MapEntry} {last : Option MapEntry} {rem : List HP} (hx : ρ.ev x = some (.pointer (some ⟨r, 0, none⟩))) (hL : L.Perm (Itr r b clock es todo last :: rem)) (hk : ∀ w, Sat fr.base fr.M L w → w.heap[b]? = some (.map es clock))
    (hold : ∀ e ∈ es.toList, e.born < clock) (hnd : (es.toList.map (·.born)).Nodup) (hd : Nat.ble (d + 1) fr.n = true)
    (h0 : todo = [] → J fr ds ((d, .tuple #[.bool false]) :: ρ) (Itr r b clock es todo last :: rem) (.ops all rest :: k))
    (h1 : ∀ l1 e l2, todo = l1 ++ e :: l2 → J fr ds ((d, .tuple #[.bool true, e.key, e.val]) :: ρ) (Itr r b clock es (l1 ++ l2) (some e) :: rem) (.ops all rest :: k)) :
    J fr ds ρ L (.ops all (⟨some d, .next x false, ty, pos, af, none⟩ :: rest) :: k) :=
  s_eff (fun c e => by cases e) hd fun a w ha hw o ho hty => by
    have hb := hk w hw
    have hw' := hw.perm hL
    obtain ⟨hp, ⟨seen, c0, rfl, hc, htd, hlast⟩, hin⟩ := hw'.has List.mem_cons_self
    have hr : w.heap[r]? = some (.mapIter (some b) clock seen c0) := hin r _ (by simp [Hp.one])
    have hrun0 : (execOp a.eval o).run P w = ((Instr.next (.pointer (some ⟨r, 0, none⟩)) false o.type).run P w).andThen fun v w' => .ok (.value v) w' := by
      unfold execOp; rw [ho]
      simp only [ha.ev hx, Sem.run_bind]
      rfl
    rcases run_next_at (P := P) w o.type r b clock c0 seen es clock hr hb hold hc with ⟨h00, hrun⟩ | ⟨e, he, w1, hal, hrun⟩
    · have : todo = [] := by rw [← htd]; exact List.eq_nil_of_length_eq_zero (by simpa using h00)
      refine ⟨.tuple #[.bool false], w, _, ?_, hw', h0 this⟩
      rw [hrun0, hrun]; rfl
    · rw [htd] at he
      obtain ⟨l1, l2, rfl⟩ := List.append_of_mem he
      have hw1 : Sat fr.base fr.M (Itr r b clock es (l1 ++ e :: l2) last :: rem) w1 := by rcases hal with rfl | rfl; exact hw'; exact hw'.drew
      have hr1 : w1.heap[r]? = some (.mapIter (some b) clock seen c0) := by rcases hal with rfl | rfl <;> exact hr
      have hmem : e ∈ es.toList := (mem_left (by rw [htd]; exact List.mem_append_right _ List.mem_cons_self)).1
      have hleft : (leftOf es (seen.push e.born)).toList = l1 ++ l2 := by
        have hsub : (l1 ++ e :: l2).Sublist es.toList := by rw [← htd]; simp only [leftOf, Array.toList_filter]; exact List.filter_sublist
        have hnd2 : ((l1 ++ e :: l2).map (·.born)).Nodup := hnd.sublist (hsub.map _)
        have hf : (leftOf es (seen.push e.born)).toList = (leftOf es seen).toList.filter (fun x => x.born != e.born) := by
          simp only [leftOf, Array.toList_filter, List.filter_filter]
          refine List.filter_congr fun x _ => ?_
          rw [Bool.eq_iff_iff]
          simp only [Array.contains_push, Bool.not_eq_true', Bool.or_eq_false_iff, bne_iff_ne, Bool.and_eq_true, beq_eq_false_iff_ne]
          constructor
          · rintro ⟨x1, x2⟩; exact ⟨by simpa using x2, x1⟩
          · rintro ⟨x1, x2⟩; exact ⟨x2, by simpa using x1⟩
        rw [hf, htd, List.filter_append, List.filter_cons_of_neg (by simp)]
        simp only [List.map_append, List.map_cons] at hnd2
        have hn := List.nodup_append.1 hnd2
        have hn2 := List.nodup_cons.1 hn.2.1
        rw [List.filter_eq_self.2 fun x hx => ?_, List.filter_eq_self.2 fun x hx => ?_]
        · simp only [bne_iff_ne]; exact fun hh => hn2.1 (hh ▸ List.mem_map_of_mem hx)
        · simp only [bne_iff_ne]; exact fun hh => hn.2.2 _ (List.mem_map_of_mem hx) _ List.mem_cons_self hh
      refine ⟨.tuple #[.bool true, e.key, e.val], ChangeMaps.setBlock w1 r (.mapIter (some b) clock (seen.push e.born) clock), Itr r b clock es (l1 ++ l2) (some e) :: rem, ?_, ?_, h1 l1 e l2 rfl⟩
      · rw [hrun0, hrun]; rfl
      · have hlt := (Array.getElem?_eq_some_iff.1 hr1).1
        refine hw1.turn1 (fun h1' hA hi => ?_) (by simp [ChangeMaps.setBlock]) rfl rfl rfl
        obtain ⟨seen', c0', rfl, hc', htd', _⟩ := hA
        refine ⟨Hp.one r (.mapIter (some b) clock (seen.push e.born) clock), ⟨_, _, rfl, Nat.le_refl _, hleft, fun e' he' => by cases he'; exact ⟨hmem, rfl, _, rfl⟩⟩, fun x o hx => ?_, fun x o hx => ?_, fun x hx hn => ?_⟩
        · simp only [Hp.one] at hx; split at hx
          · rename_i e; cases hx; rw [e]; simp [ChangeMaps.setBlock, hlt]
          · cases hx
        · right; simp only [Hp.one] at hx ⊢; split at hx
          · rename_i e; simp [e]
          · cases hx
        · have : x ≠ r := by intro e; simp [Hp.one, e] at hn
          simp only [ChangeMaps.setBlock]
          exact Array.getElem?_setIfInBounds_ne (Ne.symm this)
theorem y_entry {x : Operand} {r b clock : Nat} {es : Array MapEntry} {todo : List MapEntry} {e : MapEntry} (hx : ρ.ev x = some (.pointer (some ⟨r, 0, none⟩))) (hm : Itr r b clock es todo (some e) ∈ L) (hk : ∀ w, Sat fr.base fr.M L w → w.heap[b]? = some (.map es clock))
    (hnd : (es.toList.map (·.born)).Nodup) : Yd fr ds ρ L (.entry x) ty (.tuple #[e.key, e.val]) :=
  exec_v (fun c e => by cases e) fun a w ha hw _ _ _ _ => by
    have hb := hk w hw
    obtain ⟨hp, ⟨seen, c0, rfl, hc, htd, hl⟩, hin⟩ := hw.has hm
    have hr : w.heap[r]? = some (.mapIter (some b) clock seen c0) := hin r _ (by simp [Hp.one])
    obtain ⟨he, rfl, s', rfl⟩ := hl e rfl
    have hf : es.find? (·.born == e.born) = some e := by rw [← Array.find?_toList]; exact find_born e es.toList hnd he
    simp only [execOp, ha.ev hx, Instr.entry, getObj, Sem.run_bind, Sem.run, hr, hb, Result.andThen, Array.back?_push, hf]
    simp
end
/-- What is told of a map's entries. -/
structure Ents {κ : Type} (ke : κ → Value) (m : List (κ × Value)) (es : Array MapEntry) (clock : Nat) : Prop where
  key : es.toList.map (·.key) = m.map (fun p => ke p.1)
  val : es.toList.map (·.val) = m.map (·.2)
  keys : (m.map (·.1)).Nodup
  born : ∀ e ∈ es.toList, e.born < clock
  nd : (es.toList.map (·.born)).Nodup
section
variable {P : Program} {fr : Fr P} {ds : List Deferred} {ρ : Env} {L : List HP} {k : List It}
theorem J.openMp {κ : Type} {ke : κ → Value} {b : Nat} {m : List (κ × Value)} (h : ∀ es clock, Ents ke m es clock → J fr ds ρ (pt b (.map es clock) :: L) k) : J fr ds ρ (Mp ke b m :: L) k := by
  intro a w ha hw
  obtain ⟨hp, ⟨h1, h2, ⟨es, clock, e, g1, g2, g3, g4, g5⟩, s2, d, e2⟩, hin, hle⟩ := hw.hp
  exact h es clock ⟨g1, g2, g3, g4, g5⟩ a w ha ⟨⟨hp, ⟨h1, h2, e, s2, d, e2⟩, hin, hle⟩, hw.since⟩
theorem J.shutMp {κ : Type} {ke : κ → Value} {b : Nat} {m : List (κ × Value)} {es : Array MapEntry} {clock : Nat} (g : Ents ke m es clock) (h : J fr ds ρ (Mp ke b m :: L) k) : J fr ds ρ (pt b (.map es clock) :: L) k :=
  J.imp (fun _ e => ⟨es, clock, e, g.key, g.val, g.keys, g.born, g.nd⟩) h
end
theorem KM.ofPt {b : Nat} {es : Array MapEntry} {clock : Nat} {base w : World} {M N : Nat → Prop} {L : List HP} (hl : ∀ w', Since w N w' → Sat base M L w') (hm : pt b (.map es clock) ∈ L) : KM w N b es clock := fun w' h' => by
  obtain ⟨hp, e, hin⟩ := (hl w' h').has hm
  exact hin b _ (by rw [e]; simp [Hp.one])
end Go.E

/- Kit E, part 33: the library's sort of a row of numbers that is owned; rows of numbers sorted. -/
set_option linter.unusedVariables false
namespace Go.E
open Go Go.RowKit Go.Sort Go.Shelf Go.Proofs
def sortI (l : List Int) : List Int := l.mergeSort fun x y => decide (x ≤ y)
theorem sortI_perm (l : List Int) : (sortI l).Perm l := List.mergeSort_perm _ _
theorem sortI_length (l : List Int) : (sortI l).length = l.length := (sortI_perm l).length_eq
theorem sortI_le (l : List Int) : (sortI l).Pairwise (· ≤ ·) := (List.pairwise_mergeSort (le := fun x y : Int => decide (x ≤ y)) (fun a b c h1 h2 => by simp only [decide_eq_true_eq] at *; omega) (fun a b => by simp only [Bool.or_eq_true, decide_eq_true_eq]; omega) l).imp (by intro a b h; simpa using h)
theorem sorted_eq {l r : List Int} (h : l.Perm r) (hl : l.Pairwise (· ≤ ·)) (hr : r.Pairwise (· ≤ ·)) : l = r :=
  h.eq_of_pairwise (fun a b _ _ h1 h2 => by omega) hl hr
theorem sort_ret {P : Program} {ρ : Ren} (Ly : Lays.n189 P ρ) (f : FuncId) (hf : f = ρ.f 189) (w : World) (N : Nat → Prop) (A : Option Addr) (e n c : Nat) (zs : List Int) (hn : n = zs.length) (hlen : zs.length < 1000000000000) (ho : Owns w [Sl e 1 A n c (ints zs)] N) :
    Ret P f [.slice A n c] w N fun v L => v = .tuple #[] ∧ L = [Sl e 1 A n c (ints (sortI zs))] := by
  subst hn hf
  obtain ⟨h, s, hin, hN⟩ := ho
  have s1 : Sl e 1 A zs.length c (ints zs) h := star_one.1 s
  obtain ⟨h1, h2, h3, h4⟩ := s1
  rcases h4 with ⟨rfl, rfl, rfl⟩ | ⟨g, cur, rfl, rfl, h5, h6⟩
  · have hz : zs = [] := List.eq_nil_of_length_eq_zero (by omega)
    subst hz
    have hnil : Sl e 1 none 0 0 (ints (sortI [])) Hp.emp := by
      have h0 : ints (sortI []) = [] := by simp [sortI, ints]
      rw [h0]; exact Sl.ofNil _ _
    refine Calls.mono (Any.slices_Sort_int_none Ly none 0 w) ?_
    rintro e' w' ⟨rfl, rfl⟩
    exact ⟨_, _, rfl, ⟨rfl, rfl⟩, ⟨Hp.emp, star_one.2 hnil, Hp.emp_in _, fun _ _ x => (Hp.emp_no x).elim⟩, Since.refl _ _⟩
  · have hb : w.heap[g]? = some (.cells cur e (0, 0)) := hin g _ (by simp [Hp.one])
    have hg := (Array.getElem?_eq_some_iff.1 hb).1
    have hlen1 : (ints zs).length = zs.length := by simp [ints]
    rw [hlen1] at h6
    have hH := holds_of_blockI hb h6
    refine Calls.mono (Any.slices_Sort_int Ly g 0 c zs w hH hg (by omega)) ?_
    rintro e' w' ⟨rfl, n, os, rfl⟩
    have gr := grownBy_sortedI (w := w) (n := n) (os := os) (g := g) (sortI zs).toArray
    refine ⟨_, _, rfl, ⟨rfl, rfl⟩, ⟨Hp.one g (.cells (putCells (Value.int .i64) 0 (sortI zs).toArray cur) e (0, 0)), star_one.2 ⟨?_, h2, h3, .inr ⟨g, _, rfl, rfl, ?_, ?_⟩⟩, fun b o hx => ?_, fun b o hx => ?_⟩, ⟨gr.os, gr.tape, gr.output, gr.size, fun i hi hM => ?_⟩⟩
    · simp [ints, sortI_length]
    · simpa [putCells] using h5
    · have := take_putCellsI cur (sortI zs) (by rw [sortI_length]; omega)
      simpa [ints] using this
    · simp only [Hp.one] at hx; split at hx
      · rename_i e1; cases hx; rw [e1]; exact heap_sortedI _ hb
      · cases hx
    · simp only [Hp.one] at hx; split at hx
      · rename_i e1; right; rw [hN, e1]; simp [Hp.one]
      · cases hx
    · refine gr.block i hi fun e1 => hM ?_
      cases e1; rw [hN]; simp [Hp.one]
end Go.E

/- Kit E, part 34: plain lemmas on lists. -/
set_option linter.unusedVariables false
namespace Go.E
theorem drop_D {α : Type} (d : α) (l : List α) (k : Nat) (h : k < l.length) : l.drop k = l.getD k d :: l.drop (k + 1) := by
  rw [List.drop_eq_getElem_cons h, List.getD_eq_getElem?_getD, List.getElem?_eq_getElem h]; rfl
theorem take_D {α : Type} (d : α) {l : List α} {k : Nat} (h : k < l.length) : l.take (k + 1) = l.take k ++ [l.getD k d] := by
  rw [List.take_succ_eq_append_getElem h, List.getD_eq_getElem?_getD, List.getElem?_eq_getElem h]; rfl
theorem getD_mem {α : Type} (d : α) {l : List α} {k : Nat} (h : k < l.length) : l.getD k d ∈ l := by
  rw [List.getD_eq_getElem?_getD, List.getElem?_eq_getElem h]; exact List.getElem_mem h
theorem getD_of_mem {α : Type} (d : α) {l : List α} {x : α} (h : x ∈ l) : ∃ k, k < l.length ∧ l.getD k d = x := by
  obtain ⟨k, hk, rfl⟩ := List.mem_iff_getElem.1 h
  exact ⟨k, hk, by rw [List.getD_eq_getElem?_getD, List.getElem?_eq_getElem hk]; rfl⟩
theorem app_l {α : Type} {d : α} {xs ys : List α} {i : Nat} (h : i < xs.length) : (xs ++ ys).getD i d = xs.getD i d := by
  rw [List.getD_eq_getElem?_getD, List.getElem?_append_left h, ← List.getD_eq_getElem?_getD]
theorem app_r {α : Type} {d : α} {xs ys : List α} {i : Nat} (h : xs.length ≤ i) : (xs ++ ys).getD i d = ys.getD (i - xs.length) d := by
  rw [List.getD_eq_getElem?_getD, List.getElem?_append_right h, ← List.getD_eq_getElem?_getD]
theorem getD_map {α β : Type} (f : α → β) (d : α) (e : β) {l : List α} {k : Nat} (h : k < l.length) : (l.map f).getD k e = f (l.getD k d) := by
  rw [List.getD_eq_getElem?_getD, List.getD_eq_getElem?_getD, List.getElem?_map, List.getElem?_eq_getElem h]; rfl
end Go.E

/- Kit E, part 35: delete. -/
set_option linter.unusedVariables false
namespace Go.E
open Go Go.RowKit
theorem erase_del {κ : Type} [DecidableEq κ] {ke : κ → Value} (kk : κ) : ∀ (m : List (κ × Value)) (es : List MapEntry), es.map (·.key) = m.map (fun p => ke p.1) → es.map (·.val) = m.map (·.2) → ∀ i, (m.map (·.1)).idxOf? kk = some i →
    (es.eraseIdx i).map (·.key) = (mdel kk m).map (fun p => ke p.1) ∧ (es.eraseIdx i).map (·.val) = (mdel kk m).map (·.2)
  | [], _, _, _, _, h => by simp at h
  | (a, b) :: m, [], h, _, _, _ => by simp at h
  | (a, b) :: m, e :: es, h1, h2, i, h => by
    simp only [List.map_cons, List.cons.injEq] at h1 h2
    rw [List.map_cons, idxOf?_cons'] at h
    simp only [mdel]
    by_cases ha : a = kk
    · rw [if_pos ha] at h; cases h
      rw [if_pos ha]
      exact ⟨h1.2, h2.2⟩
    · rw [if_neg ha] at h
      rw [if_neg ha]
      cases hi : (m.map (·.1)).idxOf? kk with
      | none => rw [hi] at h; cases h
      | some j =>
        rw [hi] at h
        simp only [Option.map_some, Option.some.injEq] at h
        subst h
        obtain ⟨q1, q2⟩ := erase_del kk m es h1.2 h2.2 j hi
        simp only [List.eraseIdx_cons_succ, List.map_cons, h1.1, h2.1, q1, q2, and_self]
theorem del_none {κ β : Type} [DecidableEq κ] (kk : κ) : ∀ (m : List (κ × β)), (m.map (·.1)).idxOf? kk = none → mdel kk m = m
  | [], _ => rfl
  | (a, b) :: m, h => by
    rw [List.map_cons, idxOf?_cons'] at h
    by_cases ha : a = kk
    · rw [if_pos ha] at h; cases h
    · rw [if_neg ha] at h
      simp only [mdel, if_neg ha]
      rw [del_none kk m (by cases hi : (m.map (·.1)).idxOf? kk with | none => rfl | some j => rw [hi] at h; cases h)]
section
variable {P : Program} {fr : Fr P} {ds : List Deferred} {ρ : Env} {L : List HP} {k : List It} {all : Array Oper} {rest : List Oper} {ty : TypeId} {pos : String} {af : Array Edge}
theorem s_mapDelete {κ : Type} [DecidableEq κ] {ke : κ → Value} {T e : TypeId} {t : TypeId} {x y : Operand} {b : Nat} {kk : κ} {m : List (κ × Value)} {sz ib : Nat} {iv : List Value} {kv : Value} {rem : List HP} {t2 : TypeId} (hx : ρ.ev x = some (.map (some b))) (hy : ρ.ev y = some kv) [hm : UpdM ke b m L rem] (hk : kv = ke kk) (kt : KT P T ke)
    (ht : fr.X.tab[t]? = some (some ⟨.mp T e, sz, ib, iv⟩)) (h : J fr ds ρ (Mp ke b (mdel kk m) :: rem) (.ops all rest :: k)) :
    J fr ds ρ L (.ops all (⟨none, .call ⟨.builtin .delete, #[x, y], #[t, t2]⟩, ty, pos, af, none⟩ :: rest) :: k) :=
  s_eff0 (fun c e => by cases e) fun a w ha hw o ho hty => by
    subst hk
    obtain ⟨d', inf, z', g1, g2, g3, g4, g5, g6, g7⟩ := TI.of_spec (fr.X.ti ht)
    have := Ty.of_mp g4
    subst this
    have hw' := hw.perm hm.perm
    obtain ⟨es, clock, hb, h1, h2, h3, h4, h5⟩ := hw'.mp List.mem_cons_self
    have hf := kt.find kk (m.map (·.1)) es.toList w (by rw [h1, List.map_map]; rfl)
    have hturn : ∀ (es' : Array MapEntry), es'.toList.map (·.key) = (mdel kk m).map (fun p => ke p.1) → es'.toList.map (·.val) = (mdel kk m).map (·.2) → es'.toList.Sublist es.toList →
        Sat fr.base fr.M (Mp ke b (mdel kk m) :: rem) { w with heap := w.heap.setIfInBounds b (.map es' clock) } := fun es' q1 q2 q3 => by
      refine hw'.turn1 (fun hp hpm hin => ?_) (by simp) rfl rfl rfl
      obtain ⟨es0, c0, rfl, _⟩ := hpm
      have hlt := (Array.getElem?_eq_some_iff.1 hb).1
      refine ⟨Hp.one b (.map es' clock), ⟨es', clock, rfl, q1, q2, mdel_nodup _ _ h3, fun e he => h4 e (q3.subset he), h5.sublist (q3.map _)⟩, fun x o hx => ?_, fun x o hx => ?_, fun x hx hn => ?_⟩
      · simp only [Hp.one] at hx; split at hx
        · rename_i e; cases hx; rw [e]; simp [hlt]
        · cases hx
      · right; simp only [Hp.one] at hx ⊢; split at hx
        · rename_i e; simp [e]
        · cases hx
      · have : x ≠ b := by intro e; simp [Hp.one, e] at hn
        exact Array.getElem?_setIfInBounds_ne (Ne.symm this)
    cases hix : (m.map (·.1)).idxOf? kk with
    | none =>
      rw [hix] at hf
      simp only [Option.bind_none] at hf
      have hd := del_none kk m hix
      refine ⟨.value (.tuple #[]), _, Mp ke b (mdel kk m) :: rem, ?_, .inr ⟨_, rfl⟩, hturn es (by rw [hd]; exact h1) (by rw [hd]; exact h2) (List.Sublist.refl _), h⟩
      unfold execOp; rw [ho]
      simp [resolve, invoke, builtin, Builtin.delete_, ha.ev hx, ha.ev hy, run_underlying g1, run_getMap hb, kt.chk, hf, run_setMap _ hb, Sem.run_bind]
    | some i =>
      obtain ⟨q1, q2⟩ := erase_del (ke := ke) kk m es.toList h1 h2 i hix
      have hil : i < es.toList.length := by
        have : i < (m.map (·.1)).length := (List.idxOf?_eq_some_iff.1 hix).1
        have e1 := congrArg List.length h1
        simp at e1 this ⊢; omega
      rw [hix] at hf
      simp only [Option.bind_some, List.getElem?_eq_getElem hil, Option.map_some] at hf
      refine ⟨.value (.tuple #[]), _, Mp ke b (mdel kk m) :: rem, ?_, .inr ⟨_, rfl⟩, hturn (es.eraseIdxIfInBounds i) (by simpa using q1) (by simpa using q2) (by simpa using List.eraseIdx_sublist _ _), h⟩
      unfold execOp; rw [ho]
      simp [resolve, invoke, builtin, Builtin.delete_, ha.ev hx, ha.ev hy, run_underlying g1, run_getMap hb, kt.chk, hf, run_setMap _ hb, Sem.run_bind]
end
end Go.E

/- Kit E, part 36: an item that holds for some ghost; cells that are known. -/
set_option linter.unusedVariables false
namespace Go.E
open Go Go.RowKit
/-- For some ghost. -/
def exHP {γ : Type} (f : γ → HP) : HP := fun h => ∃ x, f x h
/-- Cells that stay. -/
def KC (base : World) (M : Nat → Prop) (b : Nat) (T : TypeId) (l : List Value) : Prop := ∀ w, Since base M w → w.heap[b]? = some (.cells l.toArray T (0, 0))
theorem KC.of {base w : World} {M N : Nat → Prop} {L : List HP} {b : Nat} {T : TypeId} {l : List Value} (h : KC base M b T l) (hl : ∀ w', Since w N w' → Sat base M L w') : KC w N b T l := fun w' h' => h w' (hl w' h').since
theorem KC.ofCb {base w : World} {M N : Nat → Prop} {L : List HP} {b : Nat} {T : TypeId} {l : List Value} (hl : ∀ w', Since w N w' → Sat base M L w') (hm : cb b T l ∈ L) : KC w N b T l := fun w' h' => (hl w' h').cbAt hm
theorem Mp.nodup {κ : Type} {ke : κ → Value} {b : Nat} {m : List (κ × Value)} : ∀ h, Mp ke b m h → (m.map (·.1)).Nodup := fun _ ⟨_, _, _, _, _, h, _⟩ => h
section
variable {P : Program} {fr : Fr P} {ds : List Deferred} {ρ : Env} {L : List HP} {k : List It} {ty : TypeId}
theorem J.ex {γ : Type} {f : γ → HP} (h : ∀ x, J fr ds ρ (f x :: L) k) : J fr ds ρ (exHP f :: L) k := by
  intro a w ha hw
  obtain ⟨hp, ⟨h1, h2, ⟨x, hx⟩, s2, d, e⟩, hin, hle⟩ := hw.hp
  exact h x a w ha ⟨⟨hp, ⟨h1, h2, hx, s2, d, e⟩, hin, hle⟩, hw.since⟩
theorem J.exI {γ : Type} {f : γ → HP} (x : γ) (h : J fr ds ρ (exHP f :: L) k) : J fr ds ρ (f x :: L) k := J.imp (fun _ e => ⟨x, e⟩) h
theorem y_ldKC {t : TypeId} {x : Operand} {i : TI} {b o : Nat} {T : TypeId} {l : List Value} {v : Value} (hx : ρ.ev x = some (.pointer (some ⟨b, o, none⟩))) (ht : fr.X.tab[t]? = some (some i)) (hi : i.ty.agg = false) (hk : KC fr.base fr.M b T l) (hv : l[o]? = some v) :
    Yd fr ds ρ L (.load t x) ty v :=
  y_load1 hx ht hi fun w hw => by
    have := hk w hw.since
    simp [World.cell?, this, hv]
end
end Go.E

/- Kit E, part 37: loops whose rounds leave marks, with what turns and what stays; numbers without a repetition within bounds. -/
set_option linter.unusedVariables false
namespace Go.E
open Go Go.RowKit
section
variable {P : Program} {fr : Fr P} {ds : List Deferred} {ρ : Env} {L : List HP} {k : List It}
theorem s_loopVD {σ : Type} {c : Code} (D : σ → List Nat) (V : σ → Env) (K : σ → List HP) (φ : σ → Prop) (μ : σ → Nat) (s0 : σ) (ρk : Env) {rem : List HP} (hd : ds = (D s0).map mk) (hk : Env.sub ρk ρ) (hv : Env.sub (V s0) ρ) (hL : L.Perm (K s0 ++ rem)) (h0 : φ s0)
    (round : ∀ s, φ s → J fr ((D s).map mk) (V s ++ ρk) (K s ++ rem) (.code c :: .inv (HeadD fr (fun s => (D s).map mk) (fun s => V s ++ ρk) (fun s => K s ++ rem) φ μ (μ s)) :: k)) : J fr ds ρ L (.code (.loop c) :: k) :=
  s_loopD (fun s => (D s).map mk) (fun s => V s ++ ρk) (fun s => K s ++ rem) φ μ s0 (junk := []) hd (Env.sub_app hv hk) (by rw [List.append_nil]; exact hL) h0 round
end
theorem lt_len : ∀ (xs : List Int) (a b : Int), xs.Pairwise (· < ·) → (∀ x ∈ xs, a ≤ x ∧ x ≤ b) → a ≤ b + 1 → (xs.length : Int) ≤ b - a + 1
  | [], a, b, _, _, h => by simp; omega
  | x :: r, a, b, hp, hx, h => by
    obtain ⟨h1, h2⟩ := List.pairwise_cons.1 hp
    have hxx := hx x List.mem_cons_self
    have := lt_len r (x + 1) b h2 (fun y hy => ⟨by have := h1 y hy; omega, (hx y (List.mem_cons_of_mem _ hy)).2⟩) (by omega)
    simp only [List.length_cons]; omega
theorem nodup_len {xs : List Int} (a b : Int) (hn : xs.Nodup) (hx : ∀ x ∈ xs, a ≤ x ∧ x ≤ b) (h : a ≤ b + 1) : (xs.length : Int) ≤ b - a + 1 := by
  rw [← sortI_length]
  have hs := sortI_le xs
  have hn2 : (sortI xs).Nodup := (sortI_perm xs).nodup_iff.2 hn
  refine lt_len _ a b ?_ (fun x hm => hx x ((sortI_perm xs).mem_iff.1 hm)) h
  exact (List.Pairwise.and hs hn2).imp (fun ⟨h1, h2⟩ => by have h3 : _ ≠ _ := h2; omega)
section
variable {κ β : Type} [DecidableEq κ]
theorem mem_keys_mset (k x : κ) (v : β) (m : List (κ × β)) : x ∈ (mset k v m).map (·.1) ↔ x = k ∨ x ∈ m.map (·.1) := by
  rw [mset_keys]
  split
  · rename_i h; constructor
    · exact .inr
    · rintro (rfl | h2); exact h; exact h2
  · rw [List.mem_append, List.mem_singleton, or_comm]
theorem mem_keys_mdel (k x : κ) (m : List (κ × β)) (h : (m.map (·.1)).Nodup) : x ∈ (mdel k m).map (·.1) ↔ x ≠ k ∧ x ∈ m.map (·.1) := by
  have e : ∀ m' : List (κ × β), x ∈ m'.map (·.1) ↔ mget x m' ≠ none := fun m' => by rw [Ne, mget_none, Classical.not_not]
  rw [e, e, mget_mdel _ _ _ h]
  split
  · rename_i h2; subst h2; simp
  · rename_i h2; exact ⟨fun h3 => ⟨Ne.symm h2, h3⟩, fun h3 => h3.2⟩
end
end Go.E
