/- Layer 25 (slot): the contract of slot.Of: the frame by the least slots, or the error. -/
import Derived.Test.YtfbmeponhejbhaaSlotA
set_option linter.unusedVariables false
set_option linter.unusedSimpArgs false
namespace Go.Proofs.Ytfbmeponhejbhaa
open Go Go.E
set_option maxRecDepth 4000
/-! ### Rows in a map: one is taken out, one is put back -/
theorem vals_mset (a : Int) (r : Row) : ∀ g : List (Int × Row), Rows.vals (mset a r g) = mset a r.val (Rows.vals g)
  | [] => rfl
  | (x, y) :: g => by
    simp only [Rows.vals, mset, List.map_cons]
    by_cases h : x = a
    · simp [h]
    · rw [if_neg h, if_neg h]
      have := vals_mset a r g
      simp only [Rows.vals] at this
      simp [this]
theorem mem_mset {a : Int} {r : Row} : ∀ {g : List (Int × Row)} {p : Int × Row}, p ∈ mset a r g → p = (a, r) ∨ p ∈ g
  | [], p, h => by simp [mset] at h; exact .inl h
  | (x, y) :: g, p, h => by
    simp only [mset] at h
    by_cases hx : x = a
    · rw [if_pos hx] at h
      rcases List.mem_cons.1 h with h | h
      · exact .inl h
      · exact .inr (List.mem_cons_of_mem _ h)
    · rw [if_neg hx] at h
      rcases List.mem_cons.1 h with h | h
      · exact .inr (by rw [h]; exact List.mem_cons_self)
      · rcases mem_mset h with h | h
        · exact .inl h
        · exact .inr (List.mem_cons_of_mem _ h)
theorem rows_take (a : Int) : ∀ g : List (Int × Row), ∃ (r0 : Row) (K : List HP), (mget a (Rows.vals g)).getD (.slice none 0 0) = .slice r0.A r0.xs.length r0.c ∧ rowsAt g a = r0.xs ∧ (∀ h, Rows.hp g h → star (r0.hp :: K) h) ∧
    (∀ (r' : Row) h, star (r'.hp :: K) h → Rows.hp (mset a r' g) h) ∧ (∀ n, (∀ p ∈ g, p.2.xs.length ≤ n) → r0.xs.length ≤ n)
  | [] => ⟨⟨none, 0, []⟩, [], rfl, rfl, fun h e => by
      have : h = Hp.emp := e
      subst this
      exact ⟨Hp.emp, Hp.emp, Sl.ofNil _ _, rfl, Hp.emp_disj _, rfl⟩, fun r' h e => e, fun n _ => Nat.zero_le n⟩
  | (x, y) :: g => by
    by_cases hx : x = a
    · subst hx
      refine ⟨y, g.map fun p : Int × Row => p.2.hp, ?_, ?_, fun h e => e, fun r' h e => ?_, fun n hn => hn (x, y) List.mem_cons_self⟩
      · simp [Rows.vals, mget, Row.val]
      · simp [rowsAt, mget]
      · rw [show mset x r' ((x, y) :: g) = (x, r') :: g by simp [mset]]; exact e
    · obtain ⟨r0, K, h1, h2, h3, h4, h5⟩ := rows_take a g
      refine ⟨r0, y.hp :: K, ?_, ?_, fun h e => ?_, fun r' h e => ?_, fun n hn => h5 n fun p hp => hn p (List.mem_cons_of_mem _ hp)⟩
      · simp only [Rows.vals, List.map_cons, mget, if_neg hx]; exact h1
      · simp only [rowsAt, mget, if_neg hx]; exact h2
      · exact star_swap (star_cons h3 e)
      · simp only [Rows.hp, mset, if_neg hx, List.map_cons]
        exact star_cons (h4 r') (star_swap e)
section
variable {P : Program} {fr : Fr P} {ds : List Deferred} {ρ : Env} {L : List HP} {k : List It}
theorem J.rowsTake {g : List (Int × Row)} (a : Int) (n : Nat) (hn : ∀ p ∈ g, p.2.xs.length ≤ n) (h : ∀ (r0 : Row) (K : HP), (mget a (Rows.vals g)).getD (.slice none 0 0) = .slice r0.A r0.xs.length r0.c → rowsAt g a = r0.xs → r0.xs.length ≤ n →
    (∀ (r' : Row) h, star [r'.hp, K] h → Rows.hp (mset a r' g) h) → J fr ds ρ (r0.hp :: K :: L) k) : J fr ds ρ (Rows.hp g :: L) k := by
  obtain ⟨r0, K, h1, h2, h3, h4, h5⟩ := rows_take a g
  have := h r0 (star K) h1 h2 (h5 n hn) (fun r' hp e => h4 r' hp (by
    obtain ⟨x, y, e1, e2, d, rfl⟩ := e
    exact ⟨x, y, e1, star_one.1 e2, d, rfl⟩))
  refine J.imp (B := star (r0.hp :: K)) h3 (J.group.2 ?_)
  intro a w ha hw
  refine this a w ha ?_
  have h6 : Sat fr.base fr.M (K ++ (r0.hp :: L)) w := hw.perm (by
    have : (r0.hp :: K ++ L).Perm (K ++ (r0.hp :: L)) := List.perm_middle.symm
    exact this)
  exact (Sat.group.2 h6).perm (List.Perm.swap _ _ _)
theorem J.rowsPut {g : List (Int × Row)} {a : Int} {r' : Row} {K : HP} (hp : ∀ (r' : Row) h, star [r'.hp, K] h → Rows.hp (mset a r' g) h) (h : J fr ds ρ (Rows.hp (mset a r' g) :: L) k) : J fr ds ρ (r'.hp :: K :: L) k := by
  have := J.imp (L := L) (A := star [r'.hp, K]) (hp r') h
  exact J.group.1 this
theorem rowAdd {g : Rows} {a x : Int} {r0 : Row} {A1 : Option Addr} {c1 b : Nat} {K1 B : HP} (hp : ∀ (r' : Row) h, star [r'.hp, K1] h → Rows.hp (mset a r' g) h)
    (h : J fr ds ρ (Mp (Value.int .i64) b (Rows.vals (mset a ⟨A1, c1, r0.xs ++ [x]⟩ g)) :: Rows.hp (mset a ⟨A1, c1, r0.xs ++ [x]⟩ g) :: L) k) :
    J fr ds ρ (Mp (Value.int .i64) b (mset a (.slice A1 (r0.xs.length + 1) c1) (Rows.vals g)) :: Sl 3 1 A1 (r0.xs.length + 1) c1 (ints r0.xs ++ [.int .i64 x]) :: B :: K1 :: L) k := by
  have e1 : Row.hp ⟨A1, c1, r0.xs ++ [x]⟩ = Sl 3 1 A1 (r0.xs.length + 1) c1 (ints r0.xs ++ [.int .i64 x]) := by simp [Row.hp, ints]
  have e2 : Row.val ⟨A1, c1, r0.xs ++ [x]⟩ = .slice A1 (r0.xs.length + 1) c1 := by simp [Row.val]
  rw [vals_mset, e2] at h
  rw [← e1]
  refine J.perm (L' := Row.hp ⟨A1, c1, r0.xs ++ [x]⟩ :: K1 :: Mp (Value.int .i64) b (mset a (.slice A1 (r0.xs.length + 1) c1) (Rows.vals g)) :: B :: L) ?_ (J.rowsPut hp ?_)
  · refine (List.Perm.swap _ _ _).trans (List.Perm.cons _ ?_)
    exact (List.Perm.cons _ (List.Perm.swap _ _ _)).trans (List.Perm.swap _ _ _)
  · refine J.perm (L' := (Mp (Value.int .i64) b (mset a (.slice A1 (r0.xs.length + 1) c1) (Rows.vals g)) :: Rows.hp (mset a ⟨A1, c1, r0.xs ++ [x]⟩ g) :: L) ++ [B]) ?_ (J.drop h)
    refine (List.Perm.swap _ _ _).trans (List.Perm.cons _ ?_)
    refine List.Perm.cons _ ?_
    exact (List.perm_append_singleton B L).symm
end
theorem mset_len {g : Rows} {a : Int} {r : Row} {n m : Nat} (h : ∀ p ∈ g, p.2.xs.length ≤ n) (hr : r.xs.length ≤ m) (hn : n ≤ m) : ∀ p ∈ mset a r g, p.2.xs.length ≤ m := fun p hp => by
  rcases mem_mset hp with rfl | hp
  · exact hr
  · exact Nat.le_trans (h p hp) hn
theorem rowsAt_mset (a v : Int) (r : Row) (g : List (Int × Row)) : rowsAt (mset a r g) v = if a = v then r.xs else rowsAt g v := by
  unfold rowsAt; rw [mget_mset]; split <;> rfl
/-! ### What the frame is -/
def nbr (ps : List (Int × Int)) (v : Int) : List Int := ps.flatMap fun p => (if p.1 = v then [p.2] else []) ++ (if p.2 = v then [p.1] else [])
theorem nbr_succ (ps : List (Int × Int)) (i : Nat) (h : i < ps.length) (v : Int) : nbr (ps.take (i + 1)) v = nbr (ps.take i) v ++ ((if (ps.getD i (0, 0)).1 = v then [(ps.getD i (0, 0)).2] else []) ++ (if (ps.getD i (0, 0)).2 = v then [(ps.getD i (0, 0)).1] else [])) := by
  have : ps.take (i + 1) = ps.take i ++ [ps.getD i (0, 0)] := by
    rw [List.take_succ_eq_append_getElem h, List.getD_eq_getElem?_getD, List.getElem?_eq_getElem h]; rfl
  rw [this]; simp [nbr]
def zipN (vs : List Int) (sl : List Nat) : List (Int × Int) := (vs.zip sl).map fun p => (p.1, (p.2 : Int))
def Greedy (vs : List Int) (ps : List (Int × Int)) (sl : List Nat) : Prop := ∀ i, i < sl.length → IsLeast (zipN (vs.take i) (sl.take i)) (nbr ps (vs.getD i 0)) (sl.getD i 0)
def top (sl : List Nat) : Nat := sl.foldl (fun a n => max a (n + 1)) 0
def intsN (sl : List Nat) : List Value := ints (sl.map Int.ofNat)
theorem top_snoc (sl : List Nat) (n : Nat) : top (sl ++ [n]) = max (top sl) (n + 1) := by simp [top]
theorem lt_top : ∀ (sl : List Nat) (a : Nat), a ≤ sl.foldl (fun a n => max a (n + 1)) a ∧ ∀ n ∈ sl, n < sl.foldl (fun a n => max a (n + 1)) a
  | [], a => ⟨Nat.le_refl _, by simp⟩
  | x :: sl, a => by
    obtain ⟨h1, h2⟩ := lt_top sl (max a (x + 1))
    simp only [List.foldl_cons]
    refine ⟨by omega, fun n hn => ?_⟩
    rcases List.mem_cons.1 hn with rfl | hn
    · omega
    · exact h2 n hn
theorem top_le (sl : List Nat) : ∀ (a b : Nat), a ≤ b → (∀ n ∈ sl, n + 1 ≤ b) → sl.foldl (fun a n => max a (n + 1)) a ≤ b := by
  induction sl with
  | nil => intro a b h _; exact h
  | cons x sl ih =>
    intro a b h hb
    exact ih _ b (by have := hb x List.mem_cons_self; show max a (x + 1) ≤ b; omega) fun n hn => hb n (List.mem_cons_of_mem _ hn)
theorem isLeast_le {sm : List (Int × Int)} {ws : List Int} {n : Nat} {B : Nat} (h : IsLeast sm ws n) (hb : ∀ x y, mget x sm = some y → y < B) : n ≤ B := by
  rcases Nat.lt_or_ge B n with hlt | hge
  · obtain ⟨x, _, hx⟩ := h.2 B hlt
    have := hb x _ hx
    omega
  · exact hge
theorem rise_lo : ∀ (xs : List Int) (lo hi : Int), rise xs lo hi = true → (∀ x ∈ xs, lo ≤ x ∧ x ≤ hi) ∧ xs.Pairwise (· < ·)
  | [], _, _, _ => ⟨by simp, List.Pairwise.nil⟩
  | x :: xs, lo, hi, h => by
    simp only [rise] at h
    split at h
    · cases h
    · split at h
      · cases h
      · rename_i h1 h2
        obtain ⟨h3, h4⟩ := rise_lo xs (x + 1) hi h
        refine ⟨fun y hy => ?_, List.Pairwise.cons (fun y hy => ?_) h4⟩
        · rcases List.mem_cons.1 hy with rfl | hy
          · omega
          · have := h3 y hy; omega
        · have := h3 y hy; omega
theorem rise_len {xs : List Int} {lo hi : Int} (h : rise xs lo hi = true) (hb : lo ≤ hi + 1) : (xs.length : Int) ≤ hi + 1 - lo := by
  induction xs generalizing lo with
  | nil => simp; omega
  | cons x xs ih =>
    simp only [rise] at h
    split at h
    · cases h
    · split at h
      · cases h
      · have := ih h (by omega)
        simp only [List.length_cons]; omega
theorem getD_eq {α : Type} (d : α) (xs : List α) (k : Nat) (h : k < xs.length) : xs.getD k d = xs[k] := by
  rw [List.getD_eq_getElem?_getD, List.getElem?_eq_getElem h]; rfl
theorem take_snoc {α : Type} (d : α) (xs : List α) (k : Nat) (h : k < xs.length) : xs.take (k + 1) = xs.take k ++ [xs.getD k d] := by
  rw [List.take_succ_eq_append_getElem h, getD_eq d xs k h]
theorem zipN_snoc (vs : List Int) (sl : List Nat) (n : Nat) (h : sl.length < vs.length) : zipN (vs.take (sl.length + 1)) (sl ++ [n]) = zipN (vs.take sl.length) sl ++ [(vs.getD sl.length 0, (n : Int))] := by
  rw [take_snoc 0 vs _ h]
  simp only [zipN]
  rw [List.zip_append (by rw [List.length_take]; omega)]
  simp
theorem zipN_keys {vs : List Int} {sl : List Nat} {v : Int} (h : v ∈ (zipN vs sl).map (·.1)) : v ∈ vs := by
  simp only [zipN, List.map_map, List.mem_map] at h
  obtain ⟨p, hp, rfl⟩ := h
  exact (List.of_mem_zip hp).1
theorem zipN_vals {vs : List Int} {sl : List Nat} {v y : Int} (h : mget v (zipN vs sl) = some y) : ∃ n ∈ sl, y = (n : Int) := by
  have := mget_mem h
  simp only [zipN, List.mem_map, Prod.mk.injEq] at this
  obtain ⟨p, hp, -, rfl⟩ := this
  exact ⟨p.2, (List.of_mem_zip hp).2, rfl⟩
theorem not_before {vs : List Int} (hp : vs.Pairwise (· < ·)) (k : Nat) (h : k < vs.length) : vs.getD k 0 ∉ vs.take k := by
  intro hm
  rw [getD_eq 0 vs k h] at hm
  obtain ⟨i, hi, e⟩ := List.mem_iff_getElem.1 hm
  rw [List.getElem_take] at e
  rw [List.length_take] at hi
  have := List.pairwise_iff_getElem.1 hp i k (by omega) h (by omega)
  omega
theorem nums_snoc {vs : List Int} {sl : List Nat} (n : Nat) (hp : vs.Pairwise (· < ·)) (h : sl.length < vs.length) :
    mset (vs.getD sl.length 0) (.int .i64 n) (nums (zipN (vs.take sl.length) sl)) = nums (zipN (vs.take (sl.length + 1)) (sl ++ [n])) := by
  rw [zipN_snoc vs sl n h, push_set]
  · simp [nums]
  · have : (nums (zipN (vs.take sl.length) sl)).map (·.1) = (zipN (vs.take sl.length) sl).map (·.1) := by simp [nums]
    rw [this, List.idxOf?_eq_none_iff]
    exact fun hm => not_before hp _ h (zipN_keys hm)
theorem Greedy_snoc {vs : List Int} {ps : List (Int × Int)} {sl : List Nat} {n : Nat} (hg : Greedy vs ps sl) (hn : IsLeast (zipN (vs.take sl.length) sl) (nbr ps (vs.getD sl.length 0)) n) : Greedy vs ps (sl ++ [n]) := by
  intro i hi
  rw [List.length_append, List.length_singleton] at hi
  by_cases e : i = sl.length
  · subst e
    rw [List.take_left, show (sl ++ [n]).getD sl.length 0 = n by simp [List.getD_eq_getElem?_getD]]
    exact hn
  · have hlt : i < sl.length := by omega
    have := hg i hlt
    rw [List.take_append_of_le_length (by omega), show (sl ++ [n]).getD i 0 = sl.getD i 0 by rw [List.getD_eq_getElem?_getD, List.getElem?_append_left hlt, ← List.getD_eq_getElem?_getD]]
    exact this
theorem intsN_snoc (sl : List Nat) (n : Nat) : intsN (sl ++ [n]) = intsN sl ++ [.int .i64 n] := by simp [intsN, ints]
def okArgs (vs : List Int) (ps : List (Int × Int)) (rs : List Int) : Bool := rise vs 1 200 && rise rs 0 63 && ps.all (okP vs)
/-- What slot.Of comes to. -/
def OfPost (vs : List Int) (ps : List (Int × Int)) (rs : List Int) (temp : Bool) (v : Value) (L : List HP) : Prop :=
  (okArgs vs ps rs = false ∧ v = .tuple #[.agg #[.slice none 0 0, .slice none 0 0, .int .i64 0, .int .i64 0], .int .i64 2] ∧ L = []) ∨
  (okArgs vs ps rs = true ∧ ∃ (sl : List Nat) (Av Ah : Option Addr) (cv ch : Nat), sl.length = vs.length ∧ Greedy vs ps sl ∧
    v = .tuple #[.agg #[.slice Av vs.length cv, .slice Ah rs.length ch, .int .i64 (if temp then ((top sl + rs.length : Nat) : Int) else -1), .int .i64 ((top sl + rs.length + (if temp then 1 else 0) : Nat) : Int)], .int .i64 0] ∧
    L = [Sl 3 1 Av vs.length cv (intsN sl), Sl 3 1 Ah rs.length ch (intsN ((List.range rs.length).map (top sl + ·)))])
end Go.Proofs.Ytfbmeponhejbhaa
