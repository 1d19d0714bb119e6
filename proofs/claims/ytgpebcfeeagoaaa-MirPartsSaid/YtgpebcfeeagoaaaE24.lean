/- Kit E, part 24: rows of structs of the call's own: read, written, grown; many rows. -/
import Derived.Test.YtgpebcfeeagoaaaE23
set_option linter.unusedVariables false
namespace Go.E
open Go Go.RowKit
theorem flatAt {α : Type} {sz : Nat} {enc : α → List Value} (he : ∀ x, (enc x).length = sz) (dd : α) : ∀ (xs : List α) (i j : Nat) (u : Value), i < xs.length → (enc (xs.getD i dd))[j]? = some u → (xs.flatMap enc)[i * sz + j]? = some u
  | [], i, j, u, h, _ => by simp at h
  | x :: xs, 0, j, u, _, hj => by
    have hj' : (enc x)[j]? = some u := hj
    rw [List.flatMap_cons, Nat.zero_mul, Nat.zero_add, List.getElem?_append_left (List.getElem?_eq_some_iff.1 hj').1]
    exact hj'
  | x :: xs, i + 1, j, u, h, hj => by
    rw [List.flatMap_cons, List.getElem?_append_right (by rw [he, Nat.add_mul]; omega), he, show (i + 1) * sz + j - sz = i * sz + j by rw [Nat.add_mul]; omega]
    exact flatAt he dd xs i j u (by simpa using h) (by simpa using hj)
theorem flatSet {α : Type} {sz : Nat} {enc : α → List Value} (he : ∀ x, (enc x).length = sz) (dd : α) (y : α) (off : Nat) (v : Value) (hoff : off < sz) : ∀ (xs : List α) (k : Nat), k < xs.length → enc y = (enc (xs.getD k dd)).set off v → (xs.flatMap enc).set (k * sz + off) v = (xs.set k y).flatMap enc
  | [], k, h, _ => by simp at h
  | x :: xs, 0, _, hy => by
    have hy' : enc y = (enc x).set off v := hy
    rw [List.flatMap_cons, Nat.zero_mul, Nat.zero_add, List.set_append_left _ _ (by rw [he]; exact hoff), List.set_cons_zero, List.flatMap_cons, hy']
  | x :: xs, k + 1, h, hy => by
    rw [List.flatMap_cons, List.set_append_right _ _ (by rw [he, Nat.add_mul]; omega), he, show (k + 1) * sz + off - sz = k * sz + off by rw [Nat.add_mul]; omega, List.set_cons_succ, List.flatMap_cons, flatSet he dd y off v hoff xs k (by simpa using h) (by simpa using hy)]
theorem keOfC {α : Type} {sz : Nat} {enc : α → List Value} {dd : α} {base w : World} {M N : Nat → Prop} {L : List HP} {T b : Nat} {xs : List α} (he : ∀ x, (enc x).length = sz) (hl : ∀ w', Since w N w' → Sat base M L w') (hm : cb b T (xs.flatMap enc) ∈ L) : KE sz enc dd w N (some ⟨b, 0, none⟩) xs := fun w' h' i hi => by
  refine ⟨_, rfl, fun j u hj => ?_⟩
  have := (hl w' h').cbcell hm (o := i * sz + j) (flatAt he dd xs i j u hi hj)
  rw [addr_add, Nat.zero_add]; exact this
theorem kiOfC {base w : World} {M N : Nat → Prop} {L : List HP} {T b : Nat} {xs : List Int} (hl : ∀ w', Since w N w' → Sat base M L w') (hm : cb b T (ints xs) ∈ L) : KI w N (some ⟨b, 0, none⟩) xs := fun w' h' i hi => by
  have := (hl w' h').cbcell hm (o := i) (ints_get hi)
  refine ⟨_, rfl, ?_⟩
  rw [addr_add, Nat.zero_add]; exact this
theorem Sat.slE {α : Type} {sz : Nat} {enc : α → List Value} {dd : α} {base w : World} {M : Nat → Prop} {L : List HP} {e n c : Nat} {A : Option Addr} {xs : List α} (he : ∀ x, (enc x).length = sz) (h0 : 0 < sz) (hs : Sat base M L w) (hm : Sl e sz A n c (xs.flatMap enc) ∈ L) : RdE sz enc dd w A xs := fun i hi => by
  have hlen := flat_length he xs
  have hpos : 0 < (xs.flatMap enc).length := by rw [hlen]; exact Nat.mul_pos (by omega) h0
  obtain ⟨ad, hA, _⟩ := hs.slRd hm 0 ((xs.flatMap enc)[0]) (List.getElem?_eq_getElem hpos)
  refine ⟨ad, hA, fun j u hj => ?_⟩
  obtain ⟨ad', hA', hc⟩ := hs.slRd hm (i * sz + j) u (flatAt he dd xs i j u hi hj)
  rw [hA] at hA'; cases hA'
  exact hc
theorem keOfS {α : Type} {sz : Nat} {enc : α → List Value} {dd : α} {base w : World} {M N : Nat → Prop} {L : List HP} {e n c : Nat} {A : Option Addr} {xs : List α} (he : ∀ x, (enc x).length = sz) (h0 : 0 < sz) (hl : ∀ w', Since w N w' → Sat base M L w') (hm : Sl e sz A n c (xs.flatMap enc) ∈ L) : KE sz enc dd w N A xs := fun w' h' => (hl w' h').slE he h0 hm
theorem keOfBs {α : Type} {sz : Nat} {enc : α → List Value} {dd : α} {base w : World} {M N : Nat → Prop} {L : List HP} {f : Nat → HP} {n j e nn c : Nat} {A : Option Addr} {xs : List α} (he : ∀ x, (enc x).length = sz) (h0 : 0 < sz) (hl : ∀ w', Since w N w' → Sat base M L w') (hm : bs f n ∈ L) (hj : j < n) (hf : f j = Sl e sz A nn c (xs.flatMap enc)) : KE sz enc dd w N A xs := fun w' h' => by
  obtain ⟨R, h⟩ := (hl w' h').focus hj hm
  rw [hf] at h
  exact h.slE he h0 List.mem_cons_self
section
variable {P : Program} {fr : Fr P} {ds : List Deferred} {ρ : Env} {L : List HP} {k : List It}
theorem bs_snoc {f : Nat → HP} {n : Nat} (hp : Hp) : bs f (n + 1) hp ↔ star [f n, bs f n] hp := by
  rw [star_pair]
  unfold bs
  rw [List.range_succ, List.map_append, star_append]
  constructor
  · rintro ⟨h1, h2, a, b, d, rfl⟩
    exact ⟨h2, h1, star_one.1 b, a, d.symm, Hp.add_comm d⟩
  · rintro ⟨h1, h2, a, b, d, rfl⟩
    exact ⟨h2, h1, b, star_one.2 a, d.symm, Hp.add_comm d⟩
theorem J.bsSnoc {f : Nat → HP} {A : HP} {n : Nat} (g : Nat → HP) (hA : A = g n) (hg : ∀ i, i < n → f i = g i) (h : J fr ds ρ (bs g (n + 1) :: L) k) : J fr ds ρ (A :: bs f n :: L) k := by
  have e : bs f n = bs g n := by
    unfold bs
    congr 1
    exact List.map_congr_left fun x hx => hg x (List.mem_range.1 hx)
  have h2 : J fr ds ρ (star [A, bs f n] :: L) k := J.imp (B := bs g (n + 1)) (fun hp hh => by rw [hA, e] at hh; exact (bs_snoc hp).2 hh) h
  exact (J.group (K := [A, bs f n])).1 h2
/-- An element of one cell is written into a row that is owned, whole. -/
theorem s_storeSlG {all : Array Oper} {rest : List Oper} {ty : TypeId} {pos : String} {af : Array Edge} {t : TypeId} {x y : Operand} {it : Ty} {ib : Nat} {iv : List Value} {A : Option Addr} {e n c : Nat} {xs : List Value} {rem : List HP} {v : Value} {ad : Addr} {sz : Nat} (ix : Nat)
    (hx : ρ.ev x = some (.pointer (some ad))) (had : ∀ g, A = some ⟨g, 0, none⟩ → ad = ⟨g, ix, none⟩) (hy : ρ.ev y = some v) [hm : UpdS A e sz n c xs L rem]
    (ht : fr.X.tab[t]? = some (some ⟨it, 1, ib, iv⟩)) (hv : Value.one v = true) (hq : ix < xs.length)
    (h : J fr ds ρ (Sl e sz A n c (xs.set ix v) :: rem) (.ops all rest :: k)) : J fr ds ρ L (.ops all (⟨none, .store t x y, ty, pos, af, none⟩ :: rest) :: k) :=
  s_eff0 (fun c e => by cases e) fun a w ha hw o' hop _ => by
    have hw' := hw.perm hm.perm
    have hsz := run_sizeOf (w := w) (fr.X.ti ht)
    obtain ⟨hl, -⟩ := Sl.facts (e := e) (sz := sz) (A := A) (n := n) (c := c) (vs := xs) _ (hw'.has List.mem_cons_self).choose_spec.1
    have hd : Sl e sz A n c xs (hw'.has List.mem_cons_self).choose ∧ _ := (hw'.has (A := Sl e sz A n c xs) List.mem_cons_self).choose_spec
    obtain ⟨⟨h1, h2, h3, h4⟩, hin⟩ := hd
    rcases h4 with ⟨_, hc0, _⟩ | ⟨g, cur, rfl, hh, h5, h6⟩
    · rw [hc0] at h2; have : n = 0 := by omega
      rw [this, Nat.zero_mul] at h1; omega
    have hat : w.heap[g]? = some (.cells cur.toList.toArray e (0, 0)) := by
      have := hin g (.cells cur e (0, 0)) (by rw [hh]; simp [Hp.one])
      simpa using this
    have hlt : ix < cur.toList.length := by
      have := congrArg List.length h6
      rw [List.length_take] at this
      omega
    have hst := run_store1 (P := P) (o := ix) hat hlt hv
    refine ⟨.skip, w.setCell ⟨g, ix, none⟩ v, Sl e sz (some ⟨g, 0, none⟩) n c (xs.set ix v) :: rem, ?_, .inl rfl, ?_, h⟩
    · unfold execOp; rw [hop]
      have hx' : ρ.ev x = some (.pointer (some ⟨g, ix, none⟩)) := by rw [hx, had g rfl]
      simp [ha.ev hx', ha.ev hy, Instr.storeAt, Instr.sureAddr, storeVar, hsz, one_cell hv, storeCells, hst, addr_add]
    · refine hw'.turn1 (fun k1 hk1 hi1 => ?_) (by simp) rfl rfl rfl
      obtain ⟨_, _, _, h4⟩ := hk1
      rcases h4 with ⟨hn, _, _⟩ | ⟨g', cur', hg, rfl, h5', h6'⟩
      · cases hn
      cases hg
      have hcur : cur' = cur := by
        have := hi1 g (.cells cur' e (0, 0)) (by simp [Hp.one])
        rw [hat] at this; cases this; simp
      subst hcur
      refine ⟨Hp.one g (.cells (cur'.toList.set ix v).toArray e (0, 0)), ⟨by simpa using h1, h2, h3, .inr ⟨g, _, rfl, rfl, by simpa using h5, ?_⟩⟩, fun b o hb => ?_, fun b o hb => ?_, fun b hb hn => ?_⟩
      · rw [List.length_set, List.take_set, h6]
      · simp only [Hp.one] at hb
        split at hb
        · rename_i e1; cases hb; rw [e1]; exact setCell_heap hat
        · cases hb
      · right
        simp only [Hp.one] at hb ⊢
        split at hb
        · rename_i e1; simp [e1]
        · cases hb
      · refine Below.heap_setCell w _ v b ?_
        intro e1; simp [Hp.one, e1] at hn
theorem s_storeSlF {all : Array Oper} {rest : List Oper} {ty : TypeId} {pos : String} {af : Array Edge} {t : TypeId} {x y : Operand} {it : Ty} {ib : Nat} {iv : List Value} {A : Option Addr} {e n c sz off : Nat} {xs : List Value} {rem : List HP} {v : Value} {q : Int}
    (hx : ρ.ev x = some (.pointer (some (((A.getD default).add (q.toNat * sz)).add off)))) (hy : ρ.ev y = some v) [hm : UpdS A e sz n c xs L rem]
    (ht : fr.X.tab[t]? = some (some ⟨it, 1, ib, iv⟩)) (hv : Value.one v = true) (hq : q.toNat * sz + off < xs.length)
    (h : J fr ds ρ (Sl e sz A n c (xs.set (q.toNat * sz + off) v) :: rem) (.ops all rest :: k)) : J fr ds ρ L (.ops all (⟨none, .store t x y, ty, pos, af, none⟩ :: rest) :: k) :=
  s_storeSlG (q.toNat * sz + off) hx (fun g hg => by rw [hg, Option.getD_some, addr_add, addr_add]; simp) hy ht hv hq h
/-- A field of an element of an owned row. -/
theorem y_ldOF {ty : TypeId} {t : TypeId} {x : Operand} {i : TI} {A : Option Addr} {e n c sz off : Nat} {q : Nat} {xs : List Value} {v : Value} (hx : ρ.ev x = some (.pointer (some (((A.getD default).add ((q : Int).toNat * sz)).add off)))) (ht : fr.X.tab[t]? = some (some i)) (hi : i.ty.agg = false)
    [hm : HasS A e sz n c xs L] (hv : xs[q * sz + off]? = some v) : Yd fr ds ρ L (.load t x) ty v :=
  y_load1 hx ht hi fun w hw => by
    obtain ⟨ad, rfl, hc⟩ := hw.slRd hm.mem _ _ hv
    rw [Option.getD_some, addr_add_add]
    simpa using hc
end
end Go.E
