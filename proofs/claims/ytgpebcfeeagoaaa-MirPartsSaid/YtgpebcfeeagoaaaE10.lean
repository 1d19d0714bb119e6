/- Kit E, part 10: make of a slice, slices of slices, append of what is only read, Bool comparisons, mul, what is known of a value. -/
import Derived.Test.YtgpebcfeeagoaaaE9
set_option linter.unusedVariables false
set_option linter.unusedSimpArgs false
namespace Go.E
open Go
section
variable {P : Program} {fr : Fr P} {ds : List Deferred} {ρ : Env} {L : List HP} {k : List It} {all : Array Oper} {rest : List Oper} {d : Nat} {ty : TypeId} {pos : String} {af : Array Edge}
theorem y_as {op : Op} {v v' : Value} (h : Yd fr ds ρ L op ty v) (e : v = v') : Yd fr ds ρ L op ty v' := e ▸ h
theorem zerosOf_take (z : List Value) (l c : Nat) (h : l ≤ c) : (zerosOf z c).take (l * z.length) = zerosOf z l := by
  induction l generalizing c with
  | zero => simp [zerosOf]
  | succ l ih =>
    cases c with
    | zero => omega
    | succ c =>
      simp only [zerosOf]
      rw [Nat.add_mul, Nat.one_mul, Nat.add_comm (l * z.length), List.take_length_add_append, ih c (by omega)]
theorem run_mkslice {t e : TypeId} {l c sz ib : Nat} {iv : List Value} {z : Value} {w : World} {inf : TypeInfo} (g1 : P.underlying t = some (.slice e)) (hsz : (sizeOf e).run P w = .ok sz w) (hin : (typeInfo e).run P w = .ok inf w) (hib : inf.bytes = ib)
    (hz : (zeroValue e).run P w = .ok z w) (hzc : z.cells = iv.toArray) (hiv : iv.length = sz) (h0 : 1 ≤ sz) (hl : l ≤ c) (hc : c ≤ 1099511627776) (hb : ib ≤ 100) (k1 k2 : IntKind) :
    (Instr.makeSlice t (.int k1 l) (.int k2 c)).run P w = .ok (.slice (some ⟨w.heap.size, 0, none⟩) l c) (w.alloc (.cells (zerosOf iv c).toArray e (0, 0))) := by
  have hbc : ib * c ≤ 100 * 1099511627776 := Nat.mul_le_mul hb hc
  have hwl : IntKind.i64.wrap (l : Int) = l := by rw [IntKind.wrap_i64]; omega
  have hwc : IntKind.i64.wrap (c : Int) = c := by rw [IntKind.wrap_i64]; omega
  have hmz := made_zeros iv c (by omega)
  rw [hiv] at hmz
  have c1 : ¬ ((ib : Int) * (c : Int) > 2 ^ 48) := by
    have : ((ib * c : Nat) : Int) ≤ ((100 * 1099511627776 : Nat) : Int) := Int.ofNat_le.2 hbc
    have e : ((ib * c : Nat) : Int) = (ib : Int) * (c : Int) := by simp
    omega
  have c2 : ¬ (c * ib > roomBytes) := by
    unfold roomBytes
    rw [Nat.mul_comm]; omega
  have a1 : ∀ (k : IntKind) (x : Int), (asInt (.int k x)).run P w = .ok x w := fun k x => rfl
  have a2 : (askRoom (c * ib)).run P w = .ok () w := by unfold askRoom; rw [if_neg c2]; rfl
  have n1 : ¬ ((c : Int) < 0) := by omega
  have n2 : ¬ ((l : Int) < 0) := by omega
  have n3 : ¬ ((l : Int) > c) := by omega
  have hbig : (decide ((c : Int) < 0) || decide ((ib : Int) * (c : Int) > 2 ^ 48)) = false := by simp only [n1, c1, decide_false, Bool.or_self]
  have hif : ¬ (((decide ((c : Int) < 0) || decide ((ib : Int) * (c : Int) > 2 ^ 48)) || decide ((l : Int) < 0) || decide ((l : Int) > c)) = true) := by rw [hbig]; simp only [n2, n3, decide_false, Bool.or_self]; decide
  simp only [Instr.makeSlice, Sem.run_bind, run_underlying g1, Result.andThen_ok, a1, hin, hib, hwl, hwc]
  rw [if_neg (by simpa using hif)]
  simp only [Sem.run_bind, Int.toNat_natCast, a2, Result.andThen_ok, hsz]
  by_cases h : c * sz = 0
  · have hmz0 : Array.map (fun i => (#[] : Array Value)[i % (#[] : Array Value).size]!) (Array.range 0) = (zerosOf iv c).toArray := by rw [← hmz, h]; simp
    rw [if_pos h, h]
    simp only [Sem.run_bind, Sem.run_pure, Result.andThen_ok, newRow, run_newObj, hmz0]
    rfl
  · rw [if_neg h]
    simp only [Sem.run_bind, Sem.run_pure, Result.andThen_ok, newRow, run_newObj, hz, hzc, hmz]
    rfl
/-- make of a slice. -/
theorem s_mkslice {t e : TypeId} {x y : Operand} {l c : Nat} {k1 k2 : IntKind} {q1 q2 : Int} {sz ib ib0 sz0 : Nat} {iv iv0 : List Value} {ity : Ty} (hx : ρ.ev x = some (.int k1 q1)) (hy : ρ.ev y = some (.int k2 q2)) (h1 : q1 = l) (h2 : q2 = c)
    (ht : fr.X.tab[t]? = some (some ⟨.sl e, sz0, ib0, iv0⟩)) (hi : fr.X.tab[e]? = some (some ⟨ity, sz, ib, iv⟩)) (hz : iv.length = sz) (h0 : Nat.ble 1 sz = true) (hb : Nat.ble ib 100 = true) (hs : Nat.ble sz 100 = true) (hd : Nat.ble (d + 1) fr.n = true) (hl : l ≤ c) (hc : c ≤ 1099511627776)
    (h : ∀ b, J fr ds ((d, .slice (some ⟨b, 0, none⟩) l c) :: ρ) (Sl e sz (some ⟨b, 0, none⟩) l c (zerosOf iv l) :: L) (.ops all rest :: k)) :
    J fr ds ρ L (.ops all (⟨some d, .makeSlice t x y, ty, pos, af, none⟩ :: rest) :: k) :=
  s_eff (fun c e => by cases e) hd fun a w haa hw o ho _ => by
    obtain ⟨d', inf, z', g1, g2, g3, g4, g5, g6, g7⟩ := TI.of_spec (fr.X.ti ht)
    have := Ty.of_sl g4
    subst this
    subst h1 h2
    obtain ⟨z, hzr, hzl⟩ := run_zero (w := w) (fr.X.ti hi)
    obtain ⟨inf', hin, _, hby, _⟩ := run_info (w := w) (fr.X.ti hi)
    have hsz := run_sizeOf (w := w) (fr.X.ti hi)
    simp only at hzl hsz hby
    have hr := run_mkslice (P := P) (w := w) g1 hsz hin hby hzr (by rw [← hzl]) hz (Nat.le_of_ble_eq_true h0) hl hc (Nat.le_of_ble_eq_true hb) k1 k2
    refine ⟨_, w.alloc (.cells (zerosOf iv c).toArray e (0, 0)), _, ?_, (hw.alloc _).imp fun hp e1 => ?_, h w.heap.size⟩
    · unfold execOp; rw [ho]
      simp [haa.ev hx, haa.ev hy, hr]
    · have hs' := Nat.le_of_ble_eq_true hs
      refine ⟨by rw [zerosOf_length, hz], hl, by unfold maxLen; omega, .inr ⟨_, _, rfl, e1, by simp [zerosOf_length, hz], ?_⟩⟩
      rw [zerosOf_length]
      exact zerosOf_take iv l c hl
/-- A slice of a slice, from the first on. -/
theorem y_sliceHi {t e : TypeId} {x y : Operand} {A : Option Addr} {n c m : Nat} {kd : IntKind} {q : Int} {sz ib ib0 sz0 : Nat} {iv iv0 : List Value} {ity : Ty} (hx : ρ.ev x = some (.slice A n c)) (hy : ρ.ev y = some (.int kd q)) (hq : q = m) (hm : m ≤ c)
    (ht : fr.X.tab[t]? = some (some ⟨.sl e, sz0, ib0, iv0⟩)) (hi : fr.X.tab[e]? = some (some ⟨ity, sz, ib, iv⟩)) : Yd fr ds ρ L (.slice t x none (some y) none) ty (.slice A m c) :=
  exec_v (fun c e => by cases e) fun a w ha _ _ _ _ _ => by
    obtain ⟨d', inf, z', g1, g2, g3, g4, g5, g6, g7⟩ := TI.of_spec (fr.X.ti ht)
    have := Ty.of_sl g4
    subst this
    subst hq
    have hsz := run_sizeOf (w := w) (fr.X.ti hi)
    simp only at hsz
    have hb : (Instr.sliceBound (.int kd m) c .sliceAcap).run P w = .ok m w := by
      simp [Instr.sliceBound, asIntOf, Sem.run_bind, Sem.run_pure, hm]
    have ha0 : ∀ b : Addr, b.add 0 = b := fun b => by unfold Addr.add; split <;> simp_all
    simp [execOp, ha.ev hx, ha.ev hy, Instr.sliceAt, Instr.slice, Instr.sliceBounds, run_underlying g1, hb, hsz, ha0]
theorem run_append_nil {t e ty' : TypeId} {A : Option Addr} {n c c' sz : Nat} {w : World} (g1 : P.underlying t = some (.slice e)) (hsz : (sizeOf e).run P w = .ok sz w) (hn : n ≤ c) :
    (Builtin.append_ #[t, t] ty' #[.slice A n c, .slice none 0 c']).run P w = .ok (.slice A n c) w := by
  have hst : ∀ b : Addr, (storeCells b []).run P w = .ok () w := fun b => rfl
  cases A with
  | none => simp [Builtin.append_, run_underlying g1, hsz, Builtin.lenOf, Builtin.firstCells, hn]
  | some a => simp [Builtin.append_, run_underlying g1, hsz, Builtin.lenOf, Builtin.firstCells, hn, hst]
/-- append of what is only read; it may be nil. -/
theorem s_appendV {x y : Operand} {t e : TypeId} {A B : Option Addr} {n c m c' sz ib : Nat} {xs news : List Value} {ib0 : Nat} {iv0 : List Value} {ity : Ty} {iv : List Value} {rem : List HP} {sz0 : Nat}
    (hx : ρ.ev x = some (.slice A n c)) (hy : ρ.ev y = some (.slice B m c')) [hm : UpdS A e sz n c xs L rem] (ht : fr.X.tab[t]? = some (some ⟨.sl e, sz0, ib0, iv0⟩)) (hi : fr.X.tab[e]? = some (some ⟨ity, sz, ib, iv⟩))
    (hz : iv.length = sz) (h0 : Nat.ble 1 sz = true) (hd : Nat.ble (d + 1) fr.n = true)
    (hnews : ∀ w, Sat fr.base fr.M L w → m = 0 ∨ ∃ ad, B = some ad ∧ ∀ j u, news[j]? = some u → w.cell? (ad.add j) = some u) (hl : news.length = m * sz) (h1 : ∀ u ∈ news, Value.one u = true) (h63 : n + m ≤ 1099511627776) (hbytes : Nat.ble ib 100 = true)
    (h : ∀ A' c'', J fr ds ((d, .slice A' (n + m) c'') :: ρ) (Sl e sz A' (n + m) c'' (xs ++ news) :: rem) (.ops all rest :: k)) :
    J fr ds ρ L (.ops all (⟨some d, .call ⟨.builtin .append, #[x, y], #[t, t]⟩, ty, pos, af, none⟩ :: rest) :: k) :=
  s_eff (fun c e => by cases e) hd fun a w ha hw o ho _ => by
    have hw' := hw.perm hm.perm
    have key : m = 0 ∧ B = none ∨ ∃ ad, B = some ad ∧ ∀ j u, news[j]? = some u → w.cell? (ad.add j) = some u := by
      rcases hnews w hw with h0 | h0
      · cases B with
        | none => exact .inl ⟨h0, rfl⟩
        | some ad =>
          refine .inr ⟨ad, rfl, fun j u hj => ?_⟩
          have : news = [] := List.length_eq_zero_iff.1 (by rw [hl, h0, Nat.zero_mul])
          rw [this] at hj; simp at hj
      · exact .inr h0
    rcases key with ⟨rfl, rfl⟩ | ⟨ad, rfl, hc⟩
    · obtain ⟨d', inf, z', g1, g2, g3, g4, g5, g6, g7⟩ := TI.of_spec (fr.X.ti ht)
      have := Ty.of_sl g4
      subst this
      have hsz := run_sizeOf (w := w) (fr.X.ti hi)
      simp only at hsz
      obtain ⟨kk, hk, hik⟩ := hw'.has List.mem_cons_self
      have hf := Sl.facts _ hk
      have hr := run_append_nil (P := P) (A := A) (c' := c') (ty' := o.type) g1 hsz hf.2
      have hnil : news = [] := List.length_eq_zero_iff.1 (by rw [hl, Nat.zero_mul])
      refine ⟨.slice A (n + 0) c, w, _, ?_, ?_, h A c⟩
      · unfold execOp; rw [ho]
        simp [resolve, invoke, builtin, ha.ev hx, ha.ev hy, hr]
      · rw [hnil, List.append_nil]; exact hw'
    · obtain ⟨A', c'', w', hr, hs⟩ := hw'.append (ty := o.type) (fr.X.ti ht) rfl (fr.X.ti hi) rfl rfl hz (Nat.le_of_ble_eq_true h0) hl (c' := c') hc h1 (by omega)
        (Nat.le_trans (Nat.mul_le_mul_left _ (Nat.le_of_ble_eq_true hbytes)) (by omega))
      refine ⟨.slice A' (n + m) c'', w', _, ?_, hs, h A' c''⟩
      unfold execOp; rw [ho]
      simp [resolve, invoke, builtin, ha.ev hx, ha.ev hy, hr]
theorem RdI.news {w : World} {A : Option Addr} {xs : List Int} (h : RdI w A xs) : xs.length = 0 ∨ ∃ ad, A = some ad ∧ ∀ j u, (ints xs)[j]? = some u → w.cell? (ad.add j) = some u := by
  cases hx : xs with
  | nil => exact .inl rfl
  | cons x t =>
    right
    rw [← hx]
    obtain ⟨ad, rfl, _⟩ := h 0 (by rw [hx]; simp)
    refine ⟨ad, rfl, fun j u hj => ?_⟩
    have hlt : j < xs.length := by
      have := (List.getElem?_eq_some_iff.1 hj).1
      rwa [ints_length] at this
    rw [ints_get hlt] at hj
    cases hj
    obtain ⟨ad', e, hc⟩ := h j hlt
    cases e
    exact hc
theorem ints_one (xs : List Int) : ∀ u ∈ ints xs, Value.one u = true := fun u hu => by
  obtain ⟨x, _, rfl⟩ := List.mem_map.1 hu; rfl
theorem flat_get {α : Type} {sz : Nat} {enc : α → List Value} (he : ∀ x, (enc x).length = sz) (h0 : 0 < sz) (dd : α) : ∀ (xs : List α) (j : Nat) (u : Value), (xs.flatMap enc)[j]? = some u → j / sz < xs.length ∧ (enc (xs.getD (j / sz) dd))[j % sz]? = some u
  | [], j, u, h => by simp at h
  | x :: xs, j, u, h => by
    rw [List.flatMap_cons] at h
    by_cases hj : j < sz
    · rw [List.getElem?_append_left (by rw [he]; exact hj)] at h
      rw [Nat.div_eq_of_lt hj, Nat.mod_eq_of_lt hj]
      exact ⟨by simp, h⟩
    · rw [List.getElem?_append_right (by rw [he]; omega), he] at h
      obtain ⟨h1, h2⟩ := flat_get he h0 dd xs (j - sz) u h
      have e1 : j / sz = (j - sz) / sz + 1 := Nat.div_eq_sub_div h0 (by omega)
      have e2 : j % sz = (j - sz) % sz := Nat.mod_eq_sub_mod (by omega)
      rw [e1, e2]
      exact ⟨by simp; omega, by simpa using h2⟩
theorem flat_length {α : Type} {sz : Nat} {enc : α → List Value} (he : ∀ x, (enc x).length = sz) : ∀ xs : List α, (xs.flatMap enc).length = xs.length * sz
  | [] => by simp
  | x :: xs => by rw [List.flatMap_cons, List.length_append, he, flat_length he xs, List.length_cons, Nat.add_mul]; omega
theorem RdE.news {α : Type} {sz : Nat} {enc : α → List Value} {dd : α} {w : World} {A : Option Addr} {xs : List α} (he : ∀ x, (enc x).length = sz) (h0 : 0 < sz) (h : RdE sz enc dd w A xs) :
    xs.length = 0 ∨ ∃ ad, A = some ad ∧ ∀ j u, (xs.flatMap enc)[j]? = some u → w.cell? (ad.add j) = some u := by
  cases hx : xs with
  | nil => exact .inl rfl
  | cons x t =>
    right
    rw [← hx]
    obtain ⟨ad, rfl, _⟩ := h 0 (by rw [hx]; simp)
    refine ⟨ad, rfl, fun j u hj => ?_⟩
    obtain ⟨h1, h2⟩ := flat_get he h0 dd xs j u hj
    obtain ⟨ad', e, hc⟩ := h (j / sz) h1
    cases e
    have := hc (j % sz) u h2
    rwa [Nat.mul_comm, Nat.div_add_mod] at this
/-- append of numbers that are only read. -/
theorem s_appendI {x y : Operand} {t e : TypeId} {A B : Option Addr} {n c m c' ib : Nat} {xs : List Value} {ys : List Int} {ib0 : Nat} {iv0 : List Value} {ity : Ty} {iv : List Value} {rem : List HP} {sz0 : Nat}
    (hx : ρ.ev x = some (.slice A n c)) (hy : ρ.ev y = some (.slice B m c')) [hm : UpdS A e 1 n c xs L rem] (hk : KI fr.base fr.M B ys) (hl : m = ys.length) (ht : fr.X.tab[t]? = some (some ⟨.sl e, sz0, ib0, iv0⟩)) (hi : fr.X.tab[e]? = some (some ⟨ity, 1, ib, iv⟩))
    (hz : iv.length = 1) (hd : Nat.ble (d + 1) fr.n = true) (h63 : n + m ≤ 1099511627776) (hbytes : Nat.ble ib 100 = true)
    (h : ∀ A' c'', J fr ds ((d, .slice A' (n + m) c'') :: ρ) (Sl e 1 A' (n + m) c'' (xs ++ ints ys) :: rem) (.ops all rest :: k)) :
    J fr ds ρ L (.ops all (⟨some d, .call ⟨.builtin .append, #[x, y], #[t, t]⟩, ty, pos, af, none⟩ :: rest) :: k) :=
  s_appendV hx hy ht hi hz rfl hd (fun w hw => by rw [hl]; exact (hk w hw.since).news) (by rw [ints_length, Nat.mul_one, hl]) (ints_one ys) h63 hbytes h
theorem s_appendE {α : Type} {enc : α → List Value} {dd : α} {x y : Operand} {t e : TypeId} {A B : Option Addr} {n c m c' sz ib : Nat} {xs : List Value} {ys : List α} {ib0 : Nat} {iv0 : List Value} {ity : Ty} {iv : List Value} {rem : List HP} {sz0 : Nat}
    (hx : ρ.ev x = some (.slice A n c)) (hy : ρ.ev y = some (.slice B m c')) [hm : UpdS A e sz n c xs L rem] (hk : KE sz enc dd fr.base fr.M B ys) (hl : m = ys.length) (he : ∀ x, (enc x).length = sz) (h1 : ∀ x, ∀ u ∈ enc x, Value.one u = true)
    (ht : fr.X.tab[t]? = some (some ⟨.sl e, sz0, ib0, iv0⟩)) (hi : fr.X.tab[e]? = some (some ⟨ity, sz, ib, iv⟩))
    (hz : iv.length = sz) (h0 : Nat.ble 1 sz = true) (hd : Nat.ble (d + 1) fr.n = true) (h63 : n + m ≤ 1099511627776) (hbytes : Nat.ble ib 100 = true)
    (h : ∀ A' c'', J fr ds ((d, .slice A' (n + m) c'') :: ρ) (Sl e sz A' (n + m) c'' (xs ++ ys.flatMap enc) :: rem) (.ops all rest :: k)) :
    J fr ds ρ L (.ops all (⟨some d, .call ⟨.builtin .append, #[x, y], #[t, t]⟩, ty, pos, af, none⟩ :: rest) :: k) :=
  s_appendV hx hy ht hi hz h0 hd (fun w hw => by rw [hl]; exact (hk w hw.since).news he (Nat.le_of_ble_eq_true h0)) (by rw [flat_length he, hl]) (fun u hu => by
    obtain ⟨x, _, hx⟩ := List.mem_flatMap.1 hu; exact h1 x u hx) h63 hbytes h
theorem RdI.pre {w : World} {A : Option Addr} {xs ys : List Int} (h : RdI w A (xs ++ ys)) : RdI w A xs := fun i hi => by
  obtain ⟨ad, e, hc⟩ := h i (by rw [List.length_append]; omega)
  refine ⟨ad, e, ?_⟩
  rwa [List.getD_eq_getElem?_getD, List.getElem?_append_left hi, ← List.getD_eq_getElem?_getD] at hc
theorem KI.pre {base : World} {M : Nat → Prop} {A : Option Addr} {xs ys : List Int} (h : KI base M A (xs ++ ys)) : KI base M A xs := fun w hw => (h w hw).pre
end
end Go.E
