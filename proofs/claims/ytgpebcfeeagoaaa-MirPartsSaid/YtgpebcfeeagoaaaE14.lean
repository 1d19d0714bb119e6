/- Kit E, part 14: rows of numbers that are written in place. -/
import Derived.Test.YtgpebcfeeagoaaaE13
set_option linter.unusedVariables false
namespace Go.E
open Go
section
variable {P : Program} {fr : Fr P} {ds : List Deferred} {ρ : Env} {L : List HP} {k : List It} {all : Array Oper} {rest : List Oper} {d : Nat} {ty : TypeId} {pos : String} {af : Array Edge}
theorem zerosOf_ints (n : Nat) : zerosOf [Value.int .i64 0] n = ints (List.replicate n 0) := by
  induction n with
  | zero => rfl
  | succ n ih => rw [zerosOf, ih]; simp [ints, List.replicate_succ]
theorem Sl.toCb {e b n : Nat} {l : List Value} {h : Hp} (s : Sl e 1 (some ⟨b, 0, none⟩) n n l h) : cb b e l h := by
  obtain ⟨h1, _, _, h4⟩ := s
  rcases h4 with ⟨h, _, _⟩ | ⟨g, cur, hA, hh, hs, ht⟩
  · cases h
  · cases hA
    rw [hh]
    have : cur.toList = l := by rw [← ht, List.take_of_length_le (by rw [h1, Array.length_toList, hs]; exact Nat.le_refl _)]
    unfold cb pt
    rw [← this]
theorem Sat.cbRdI {base : World} {M : Nat → Prop} {L : List HP} {T b : Nat} {xs : List Int} {w : World} (h : Sat base M L w) (hm : cb b T (ints xs) ∈ L) : RdI w (some ⟨b, 0, none⟩) xs := fun i hi => by
  refine ⟨_, rfl, ?_⟩
  have := h.cbcell hm (o := i) (ints_get hi)
  rw [addr_add, Nat.zero_add]; exact this
theorem ints_set (xs : List Int) (j : Nat) (v : Int) : (ints xs).set j (.int .i64 v) = ints (xs.set j v) := by simp [ints, List.map_set]
/-- One number is written into a row of the call's own. -/
theorem s_storeI {t : TypeId} {x y : Operand} {it : Ty} {ib : Nat} {iv : List Value} {b o : Nat} {T : TypeId} {xs : List Int} {rem : List HP} {v : Int} (j : Nat) (hx : ρ.ev x = some (.pointer (some ⟨b, o, none⟩))) (ho : o = j) (hy : ρ.ev y = some (.int .i64 v)) [hm : UpdB b T (ints xs) L rem]
    (ht : fr.X.tab[t]? = some (some ⟨it, 1, ib, iv⟩)) (hj : j < xs.length)
    (h : J fr ds ρ (cb b T (ints (xs.set j v)) :: rem) (.ops all rest :: k)) : J fr ds ρ L (.ops all (⟨none, .store t x y, ty, pos, af, none⟩ :: rest) :: k) := by
  subst ho
  refine s_store hx hy ht rfl (by rw [Nat.ble_eq, ints_length]; omega) ?_
  rw [ints_set]; exact h
theorem getD_set (xs : List Int) (i j : Nat) (v : Int) (hi : i < xs.length) : (xs.set j v).getD i 0 = if j = i then v else xs.getD i 0 := by
  rw [List.getD_eq_getElem?_getD, List.getD_eq_getElem?_getD, List.getElem?_set]
  by_cases e : j = i
  · subst e; simp [hi]
  · simp [e]
theorem y_ldSq {t : TypeId} {x : Operand} {i : TI} {A : Option Addr} {sz : Nat} {q : Int} {xs : List Int} (hx : ρ.ev x = some (.pointer (some ((A.getD default).add (q.toNat * sz))))) (ht : fr.X.tab[t]? = some (some i)) (hi : i.ty.agg = false)
    (h1 : Nat.beq sz 1 = true) (hr : ∀ w, Sat fr.base fr.M L w → RdI w A xs) (h0 : 0 ≤ q) (hq : q < xs.length) : Yd fr ds ρ L (.load t x) ty (.int .i64 (xs.getD q.toNat 0)) :=
  y_load1 hx ht hi fun w hw => by
    have e : sz = 1 := Nat.eq_of_beq_eq_true h1
    subst e
    obtain ⟨ad, rfl, hc⟩ := hr w hw q.toNat (by omega)
    simpa using hc
/-- append of numbers of the call's own. -/
theorem s_appendS {x y : Operand} {t e : TypeId} {A B : Option Addr} {n c m c' ib : Nat} {xs : List Value} {ys : List Int} {ib0 : Nat} {iv0 : List Value} {ity : Ty} {iv : List Value} {rem : List HP} {sz0 : Nat}
    (hx : ρ.ev x = some (.slice A n c)) (hy : ρ.ev y = some (.slice B m c')) [hm : UpdS A e 1 n c xs L rem] (hk : ∀ w, Sat fr.base fr.M L w → RdI w B ys) (hl : m = ys.length) (ht : fr.X.tab[t]? = some (some ⟨.sl e, sz0, ib0, iv0⟩)) (hi : fr.X.tab[e]? = some (some ⟨ity, 1, ib, iv⟩))
    (hz : iv.length = 1) (hd : Nat.ble (d + 1) fr.n = true) (h63 : n + m ≤ 1099511627776) (hbytes : Nat.ble ib 100 = true)
    (h : ∀ A' c'', J fr ds ((d, .slice A' (n + m) c'') :: ρ) (Sl e 1 A' (n + m) c'' (xs ++ ints ys) :: rem) (.ops all rest :: k)) :
    J fr ds ρ L (.ops all (⟨some d, .call ⟨.builtin .append, #[x, y], #[t, t]⟩, ty, pos, af, none⟩ :: rest) :: k) :=
  s_appendV hx hy ht hi hz rfl hd (fun w hw => by rw [hl]; exact (hk w hw).news) (by rw [ints_length, Nat.mul_one, hl]) (ints_one ys) h63 hbytes h
end
end Go.E
