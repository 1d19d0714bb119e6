/- Kit E, part 17: reading rows of the call's own; append that keeps the row it grew from; many items of one sort. -/
import Derived.Test.YtgpebcfeeagoaaaE16
set_option linter.unusedVariables false
namespace Go.E
open Go Go.RowKit
section
variable {P : Program} {fr : Fr P} {ds : List Deferred} {ρ : Env} {L : List HP} {k : List It} {ty : TypeId} {all : Array Oper} {rest : List Oper} {d : Nat} {pos : String} {af : Array Edge}
theorem Sl.some {e sz n c : Nat} {A : Option Addr} {vs : List Value} {h : Hp} (s : Sl e sz A n c vs h) (hn : 0 < n) : A.isSome = true := by
  obtain ⟨_, h2, _, h4⟩ := s
  rcases h4 with ⟨_, hc, _⟩ | ⟨g, cur, rfl, _⟩
  · omega
  · rfl
/-- The place of an element of an owned row. -/
theorem y_ixO {t e e' : TypeId} {x ix : Operand} {i : TI} {jt : Ty} {jz jb : Nat} {jv : List Value} {A : Option Addr} {n c n' sz c' : Nat} {kd : IntKind} {q : Int} {xs : List Value} (hx : ρ.ev x = some (.slice A n c)) (hix : ρ.ev ix = some (.int kd q)) (hs : fr.X.tab[t]? = some (some i))
    (hi : i.ty = .sl e) (hj : fr.X.tab[e]? = some (some ⟨jt, jz, jb, jv⟩)) [hm : HasS A e' sz n' c' xs L] (h0 : 0 ≤ q) (h1 : q < n) (hn : n ≤ n') : Yd fr ds ρ L (.indexAddr t x ix) ty (.pointer (some ((A.getD default).add (q.toNat * jz)))) := by
  refine exec_v (fun c e => by cases e) fun a w ha hw dst pos af g => ?_
  obtain ⟨kh, hk, _⟩ := hw.has hm.mem
  obtain ⟨ad, rfl⟩ := Option.isSome_iff_exists.1 (hk.some (by omega))
  exact (y_indexAddr (ad := ad) hx hix hs hi hj h0 h1 rfl).2 a w ha hw _ rfl rfl
/-- An element (one cell) of an owned row. -/
theorem y_ldO {t : TypeId} {x : Operand} {i : TI} {A : Option Addr} {e n c : Nat} {sz : Nat} {q : Int} {xs : List Value} {v : Value} (hx : ρ.ev x = some (.pointer (some ((A.getD default).add (q.toNat * sz))))) (ht : fr.X.tab[t]? = some (some i)) (hi : i.ty.agg = false)
    (h1 : Nat.beq sz 1 = true) [hm : HasS A e 1 n c xs L] (hv : xs[q.toNat]? = some v) : Yd fr ds ρ L (.load t x) ty v :=
  y_load1 hx ht hi fun w hw => by
    have e : sz = 1 := Nat.eq_of_beq_eq_true h1
    subst e
    obtain ⟨ad, rfl, hc⟩ := hw.slRd hm.mem _ _ hv
    simpa using hc
/-- A number of an owned row. -/
theorem y_ldOi {t : TypeId} {x : Operand} {i : TI} {A : Option Addr} {e n c : Nat} {sz : Nat} {q : Nat} {xs : List Int} (hx : ρ.ev x = some (.pointer (some ((A.getD default).add ((q : Int).toNat * sz))))) (ht : fr.X.tab[t]? = some (some i)) (hi : i.ty.agg = false)
    (h1 : Nat.beq sz 1 = true) [hm : HasS A e 1 n c (ints xs) L] (hq : q < xs.length) : Yd fr ds ρ L (.load t x) ty (.int .i64 (xs.getD q 0)) :=
  y_ldO hx ht hi h1 (by rw [Int.toNat_natCast]; exact ints_get hq)
/-- append that keeps the row it grew from, where it had to move. -/
theorem Sat.append2 {base : World} {M : Nat → Prop} {L : List HP} {w : World} {t ty e : TypeId} {A : Option Addr} {n c m c' sz ib : Nat} {i : TI} {xs news : List Value} {ad : Addr} {t0 : TI}
    (h : Sat base M (Sl e sz A n c xs :: L) w) (ht : TI.of P t = some t0) (ht0 : t0.ty = .sl e) (hi : TI.of P e = some i) (hsz : i.size = sz) (hby : i.bytes = ib) (hz : i.zero.length = sz) (h0 : 0 < sz)
    (hl : news.length = m * sz) (hnews : ∀ j u, news[j]? = some u → w.cell? (ad.add j) = some u) (h1 : ∀ u ∈ news, Value.one u = true) (h63 : n + m ≤ 4611686018427387904) (hbytes : (n + m) * ib ≤ 140737488355328) :
    ∃ A' c'' w', (Builtin.append_ #[t, t] ty #[.slice A n c, .slice (some ad) m c']).run P w = .ok (.slice A' (n + m) c'') w' ∧
      ((A' = A ∧ c'' = c ∧ Sat base M (Sl e sz A (n + m) c (xs ++ news) :: L) w') ∨ Sat base M (Sl e sz A' (n + m) c'' (xs ++ news) :: Sl e sz A n c xs :: L) w') := by
  obtain ⟨A', c'', w', hr, hs⟩ := h.append (ty := ty) ht ht0 hi hsz hby hz h0 hl (c' := c') hnews h1 h63 hbytes
  obtain ⟨d, inf, z, g1, g2, g3, g4, g5, g6, g7⟩ := TI.of_spec ht
  rw [ht0] at g4
  have := Ty.of_sl g4
  subst this
  obtain ⟨d', inf', z', k1, k2, k3, k4, k5, k6, k7⟩ := TI.of_spec hi
  have hone : ∀ u ∈ news, u.oneCell' = true := fun u hu => by have := h1 u hu; cases u <;> first | rfl | cases this
  have hfi : inf'.size = sz := k5.trans hsz
  have hfb : inf'.bytes = ib := k6.trans hby
  have hzs : z'.cells.size = sz := by rw [← Array.length_toList, k7, hz]
  refine ⟨A', c'', w', hr, ?_⟩
  obtain ⟨kh, hk, hin⟩ := h.has (A := Sl e sz A n c xs) List.mem_cons_self
  have grown : ∀ old, old < n + m → ∀ w2, w2 = w.drew.alloc (.cells (xs.toArray ++ news.toArray ++ Builtin.zeroCells z'.cells (grownCap w (n + m) old e - (n + m))) e) →
      A' = some ⟨w.heap.size, 0, none⟩ → c'' = grownCap w (n + m) old e → w' = w2 → Sat base M (Sl e sz A' (n + m) c'' (xs ++ news) :: Sl e sz A n c xs :: L) w' := by
    intro old ho w2 e2 eA ec ew
    rw [ew, e2]
    have hge := grownCap_ge w (n + m) old e
    have hcm : grownCap w (n + m) old e ≤ maxLen := grownCap_le_maxLen w (n + m) old e (by unfold maxLen; omega)
    have ha := (h.drew).alloc (.cells (xs.toArray ++ news.toArray ++ Builtin.zeroCells z'.cells (grownCap w (n + m) old e - (n + m))) e)
    have hlen : (xs ++ news).length = (n + m) * sz := by rw [List.length_append, hk.1, hl, Nat.add_mul]
    refine ha.imp fun k1 hk1 => ⟨hlen, by rw [ec]; exact hge, by rw [ec]; exact hcm, .inr ⟨w.heap.size, _, eA, hk1, ?_, ?_⟩⟩
    · rw [ec]
      simp only [Array.size_append, List.size_toArray, size_zeroCells, hzs, hk.1, hl, ← Nat.add_mul]
      congr 1
      omega
    · simp only [Array.toList_append, List.append_assoc]
      rw [← List.append_assoc]
      exact List.take_left
  obtain ⟨b1, b2, b3, b4⟩ := hk
  rcases b4 with ⟨rfl, rfl, rfl⟩ | ⟨g, cur, rfl, rfl, b5, b6⟩
  · have hn : n = 0 := by omega
    subst hn
    have hx : xs = [] := List.eq_nil_of_length_eq_zero (by simpa using b1)
    subst hx
    by_cases hm : m = 0
    · subst hm
      have hn : news = [] := List.eq_nil_of_length_eq_zero (by simpa using hl)
      subst hn
      have hr' : (Builtin.append_ #[t, t] ty #[.slice none 0 0, .slice (some ad) 0 c']).run P w = .ok (.slice none 0 0) w := by
        simp [Builtin.append_, run_underlying g1, Go.sizeOf, typeInfo, k2, Builtin.lenOf, Builtin.firstCells, loadCells, loadCellsFrom]
      rw [hr'] at hr
      cases hr
      exact .inl ⟨rfl, rfl, hs⟩
    · have hr' := Go.run_append_nil (P := P) w t ty e inf' z' g1 k2 k3 ad m c' news (by rw [hl, hfi]) hnews (by omega) (by omega) (by rw [hfb]; have hb := hbytes; simp only [Nat.zero_add] at hb; omega)
      simp only [Nat.zero_add] at hr
      rw [hr'] at hr
      cases hr
      exact .inr (grown 0 (by omega) _ rfl rfl (by simp) (by simp))
  · have hat : w.heap[g]? = some (.cells cur e (0, 0)) := hin g _ (by simp [Hp.one])
    by_cases hroom : n + m ≤ c
    · have hfit : n * inf'.size + news.length ≤ cur.size := by rw [hl, b5, hfi, ← Nat.add_mul]; exact Nat.mul_le_mul_right _ hroom
      have hr' := run_append_room (P := P) w t ty e inf' g1 k2 g n c cur hat ad m c' news (by rw [hl, hfi]) hnews hone hroom hfit
      rw [hr'] at hr
      cases hr
      exact .inl ⟨rfl, rfl, hs⟩
    · have holds : ∀ j u, xs[j]? = some u → w.cell? ((⟨g, 0, none⟩ : Addr).add j) = some u := fun j u hj => by
        obtain ⟨ad', hA', hc⟩ := Sl.rd (e := e) (sz := sz) (n := n) (c := c) (A := some ⟨g, 0, none⟩) (vs := xs) ⟨b1, b2, b3, .inr ⟨g, cur, rfl, rfl, b5, b6⟩⟩ hin j u hj
        cases hA'; exact hc
      have hr' := run_append_grow (P := P) w t ty e inf' z' g1 k2 k3 ⟨g, 0, none⟩ n c xs (by rw [b1, hfi]) holds ad m c' news (by rw [hl, hfi]) hnews (by omega) (by omega) (growslice_fits (by omega) (by rw [hfb]; exact hbytes))
      rw [hr'] at hr
      cases hr
      exact .inr (grown c (by omega) _ rfl rfl rfl rfl)
/-- A row, and what has grown from it: the same memory, or another. -/
def Tw (e : TypeId) (A : Option Addr) (n c : Nat) (G : Option Addr) (m d : Nat) (ys : List Value) : HP := fun h =>
  n ≤ m ∧ ((G = A ∧ d = c ∧ Sl e 1 A m c ys h) ∨ star [Sl e 1 G m d ys, Sl e 1 A n c (ys.take n)] h)
theorem Tw.begin {e : TypeId} {A : Option Addr} {n c : Nat} {xs : List Value} : ∀ h, Sl e 1 A n c xs h → Tw e A n c A n c xs h := fun h s => ⟨Nat.le_refl _, .inl ⟨rfl, rfl, s⟩⟩
theorem Sl.shrink {e : TypeId} {A : Option Addr} {m n c : Nat} {ys : List Value} {h : Hp} (hn : n ≤ m) (s : Sl e 1 A m c ys h) : Sl e 1 A n c (ys.take n) h := by
  obtain ⟨h1, h2, h3, h4⟩ := s
  have hl : (ys.take n).length = n := by rw [List.length_take]; omega
  refine ⟨by omega, by omega, h3, h4.imp id fun ⟨g, cur, a, b, c1, c2⟩ => ⟨g, cur, a, b, c1, ?_⟩⟩
  rw [hl]
  conv => rhs; rw [← c2]
  rw [List.take_take, Nat.min_eq_left (by omega)]
theorem Sat.tw {base : World} {M : Nat → Prop} {e : TypeId} {A G : Option Addr} {n c m d : Nat} {ys : List Value} {w : World} (h : Sat base M (Tw e A n c G m d ys :: L) w) :
    n ≤ m ∧ ((G = A ∧ d = c ∧ Sat base M (Sl e 1 A m c ys :: L) w) ∨ Sat base M (Sl e 1 G m d ys :: Sl e 1 A n c (ys.take n) :: L) w) := by
  obtain ⟨kh, ⟨h1, h2, ⟨hn, ht⟩, l, d1, rfl⟩, i, f⟩ := h.hp
  refine ⟨hn, ?_⟩
  rcases ht with ⟨a, b, s⟩ | s
  · exact .inl ⟨a, b, ⟨⟨h1.add h2, ⟨h1, h2, s, l, d1, rfl⟩, i, f⟩, h.since⟩⟩
  · exact .inr (Sat.group.1 ⟨⟨h1.add h2, ⟨h1, h2, s, l, d1, rfl⟩, i, f⟩, h.since⟩)
/-- What it grew from, alone. -/
theorem Sat.twOld {base : World} {M : Nat → Prop} {e : TypeId} {A G : Option Addr} {n c m d : Nat} {ys : List Value} {w : World} (h : Sat base M (Tw e A n c G m d ys :: L) w) : Sat base M (Sl e 1 A n c (ys.take n) :: L) w := by
  obtain ⟨hn, ⟨-, -, s⟩ | s⟩ := h.tw
  · exact s.imp fun k hk => hk.shrink hn
  · exact (s.perm (L' := Sl e 1 A n c (ys.take n) :: L ++ [Sl e 1 G m d ys]) (by simpa using (List.perm_append_comm (l₁ := [Sl e 1 G m d ys]) (l₂ := Sl e 1 A n c (ys.take n) :: L)))).left
theorem J.twOld {e : TypeId} {A G : Option Addr} {n c m d : Nat} {ys : List Value} (h : J fr ds ρ (Sl e 1 A n c (ys.take n) :: L) k) : J fr ds ρ (Tw e A n c G m d ys :: L) k := fun a w ha hw => h a w ha hw.twOld
theorem Sat.twRd {base : World} {M : Nat → Prop} {e : TypeId} {A G : Option Addr} {n c m d : Nat} {ys : List Value} {w : World} (h : Sat base M (Tw e A n c G m d ys :: L) w) :
    (∀ j v, ys[j]? = some v → ∃ ad, G = some ad ∧ w.cell? (ad.add j) = some v) ∧ (∀ j v, j < n → ys[j]? = some v → ∃ ad, A = some ad ∧ w.cell? (ad.add j) = some v) := by
  obtain ⟨hn, ⟨rfl, rfl, s⟩ | s⟩ := h.tw
  · have := s.slRd List.mem_cons_self
    exact ⟨this, fun j v _ hv => this j v hv⟩
  · refine ⟨s.slRd List.mem_cons_self, fun j v hj hv => s.slRd (List.mem_cons_of_mem _ List.mem_cons_self) j v ?_⟩
    rw [List.getElem?_take_of_lt hj]; exact hv
/-! Many items of one sort. -/
def bs (f : Nat → HP) (n : Nat) : HP := star ((List.range n).map f)
def bx (f : Nat → HP) (n j : Nat) : HP := star ((List.range j).map f ++ (List.range' (j + 1) (n - 1 - j)).map f)
theorem bs_perm {n j : Nat} (h : j < n) (f : Nat → HP) : ((List.range n).map f).Perm (f j :: ((List.range j).map f ++ (List.range' (j + 1) (n - 1 - j)).map f)) := by
  have e : List.range n = List.range j ++ j :: List.range' (j + 1) (n - 1 - j) := by
    have e1 : n = j + ((n - 1 - j) + 1) := by omega
    conv => lhs; rw [e1, List.range_eq_range', ← List.range'_append_1, Nat.zero_add, List.range'_succ]
    rw [List.range_eq_range']
  rw [e, List.map_append, List.map_cons]
  exact List.perm_middle
theorem star_pair {A B : HP} {h : Hp} : star [A, B] h ↔ ∃ h1 h2, A h1 ∧ B h2 ∧ Hp.Disj h1 h2 ∧ h = h1.add h2 := by
  constructor
  · rintro ⟨h1, h2, a, s, d, e⟩; exact ⟨h1, h2, a, star_one.1 s, d, e⟩
  · rintro ⟨h1, h2, a, s, d, e⟩; exact ⟨h1, h2, a, star_one.2 s, d, e⟩
theorem bs_focus {f : Nat → HP} {n j : Nat} (h : j < n) (hp : Hp) : bs f n hp ↔ star [f j, bx f n j] hp := by
  rw [star_pair]
  constructor
  · intro s
    obtain ⟨h1, h2, a, b, d, e⟩ := star_perm (bs_perm h f) _ s
    exact ⟨h1, h2, a, b, d, e⟩
  · rintro ⟨h1, h2, a, b, d, e⟩
    exact star_perm (bs_perm h f).symm _ ⟨h1, h2, a, b, d, e⟩
theorem bx_congr {f g : Nat → HP} {n j : Nat} (hj : j < n) (h : ∀ i, i < n → i ≠ j → f i = g i) : bx f n j = bx g n j := by
  unfold bx
  congr 2
  · exact List.map_congr_left fun x hx => by
      have := List.mem_range.1 hx
      exact h x (by omega) (by omega)
  · exact List.map_congr_left fun x hx => by
      have := List.mem_range'_1.1 hx
      exact h x (by omega) (by omega)
theorem J.focus {f : Nat → HP} {n : Nat} (j : Nat) (hj : j < n) (h : J fr ds ρ (f j :: bx f n j :: L) k) : J fr ds ρ (bs f n :: L) k :=
  J.imp (B := star [f j, bx f n j]) (fun hp hh => (bs_focus hj hp).1 hh) (J.group.2 h)
theorem J.unfocus {f : Nat → HP} {A : HP} {n j : Nat} (g : Nat → HP) (hj : j < n) (hA : A = g j) (hg : ∀ i, i < n → i ≠ j → f i = g i) (h : J fr ds ρ (bs g n :: L) k) : J fr ds ρ (A :: bx f n j :: L) k := by
  have h2 : J fr ds ρ (star [A, bx f n j] :: L) k := J.imp (B := bs g n) (fun hp hh => by rw [hA, bx_congr hj hg] at hh; exact (bs_focus hj hp).2 hh) h
  exact (J.group (K := [A, bx f n j])).1 h2
theorem J.bsCongr {f g : Nat → HP} {n : Nat} (hg : ∀ i, i < n → f i = g i) (h : J fr ds ρ (bs g n :: L) k) : J fr ds ρ (bs f n :: L) k := by
  have : bs f n = bs g n := by
    unfold bs
    congr 1
    exact List.map_congr_left fun x hx => hg x (List.mem_range.1 hx)
  rw [this]; exact h
end
end Go.E
