/- Layer 25 (slot): what is true of each frame that slot.Of makes: the plain law of SlotApart. -/
import Derived.Test.YtfbmeponhejbhaaSlotP
set_option linter.unusedVariables false
set_option linter.unusedSimpArgs false
namespace Go.Proofs.Ytfbmeponhejbhaa
open Go Go.E
theorem atI_get : ∀ (xs : List Int) (n k : Int), 0 ≤ k → 0 ≤ atI xs n k → ∃ i, i < xs.length ∧ atI xs n k = k + i ∧ xs.getD i 0 = n
  | [], n, k, hk, h => by simp [atI] at h
  | x :: xs, n, k, hk, h => by
    simp only [atI] at h ⊢
    by_cases e : n = x
    · exact ⟨0, by simp, by simp [e], by simp [e]⟩
    · rw [if_neg e] at h ⊢
      obtain ⟨i, h1, h2, h3⟩ := atI_get xs n (k + 1) (by omega) h
      exact ⟨i + 1, by simp; omega, by rw [h2]; omega, by simpa using h3⟩
theorem mget_of_mem {β : Type} {k : Int} {v : β} : ∀ {m : List (Int × β)}, (m.map (·.1)).Nodup → (k, v) ∈ m → mget k m = some v
  | [], _, h => by cases h
  | (a, b) :: r, hn, h => by
    simp only [List.map_cons, List.nodup_cons] at hn
    simp only [mget]
    rcases List.mem_cons.1 h with e | h
    · cases e; rw [if_pos rfl]
    · have : a ≠ k := fun e => hn.1 (by rw [e]; exact List.mem_map.2 ⟨(k, v), h, rfl⟩)
      rw [if_neg this]
      exact mget_of_mem hn.2 h
theorem pw_nodup {l : List Int} (h : l.Pairwise (· < ·)) : l.Nodup := List.Pairwise.imp (fun h => by omega) h
theorem zipN_get {vs : List Int} {sl : List Nat} (hp : vs.Pairwise (· < ·)) (hl : sl.length = vs.length) {i k : Nat} (hik : i < k) (hk : k ≤ vs.length) : mget (vs.getD i 0) (zipN (vs.take k) (sl.take k)) = some ((sl.getD i 0 : Nat) : Int) := by
  refine mget_of_mem ?_ ?_
  · have : (zipN (vs.take k) (sl.take k)).map (·.1) = vs.take k := by
      simp only [zipN, List.map_map]
      rw [show ((fun p : Int × Int => p.1) ∘ fun p : Int × Nat => (p.1, (p.2 : Int))) = (fun p => p.1) from rfl]
      exact List.map_fst_zip (by rw [List.length_take, List.length_take]; omega)
    rw [this]
    exact (pw_nodup hp).sublist (List.take_sublist _ _)
  · simp only [zipN, List.mem_map]
    refine ⟨(vs.getD i 0, sl.getD i 0), ?_, rfl⟩
    rw [List.mem_iff_getElem]
    refine ⟨i, by rw [List.length_zip, List.length_take, List.length_take]; omega, ?_⟩
    rw [List.getElem_zip, List.getElem_take, List.getElem_take, getD_eq 0 vs i (by omega), getD_eq 0 sl i (by omega)]
theorem no_share {vs : List Int} {ps : List (Int × Int)} {sl : List Nat} (hp : vs.Pairwise (· < ·)) (hl : sl.length = vs.length) (hg : Greedy vs ps sl) {a b : Int} (hm : a ∈ nbr ps b ∧ b ∈ nbr ps a) : share (natI sl) vs a b = false := by
  refine decide_eq_false fun ⟨h1, h2, h3, h4, h5⟩ => ?_
  obtain ⟨i, hi, ei, ea⟩ := atI_get vs a 0 (Int.le_refl 0) h3
  obtain ⟨k, hk, ek, eb⟩ := atI_get vs b 0 (Int.le_refl 0) h4
  rw [ei, ek, show ((0 : Int) + (i : Int)).toNat = i by omega, show ((0 : Int) + (k : Int)).toNat = k by omega] at h5
  have hn : ∀ j, j < sl.length → (natI sl).getD j 0 = ((sl.getD j 0 : Nat) : Int) := fun j hj => by
    rw [getD_eq 0 (natI sl) j (by simp [natI, hj]), getD_eq 0 sl j hj]; simp [natI]
  rw [hn i (by omega), hn k (by omega)] at h5
  rcases Nat.lt_trichotomy i k with hlt | he | hlt
  · have := (hg k (by omega)).1 (vs.getD i 0) (by rw [ea, eb]; exact hm.1)
    exact this (by rw [zipN_get hp hl hlt (by omega), h5])
  · subst he; rw [ea] at eb; exact h2 eb
  · have := (hg i (by omega)).1 (vs.getD k 0) (by rw [ea, eb]; exact hm.2)
    exact this (by rw [zipN_get hp hl hlt (by omega), h5])
theorem pig : ∀ (n : Nat) (l : List (Option Int)), (∀ j : Nat, j < n → some (j : Int) ∈ l) → n ≤ l.length
  | 0, _, _ => Nat.zero_le _
  | n + 1, l, h => by
    have h1 := h n (by omega)
    have := pig n (l.erase (some (n : Int))) fun j hj => by
      refine (List.mem_erase_of_ne ?_).2 (h j (by omega))
      intro e; cases e; omega
    rw [List.length_erase_of_mem h1] at this
    have hpos : 0 < l.length := List.length_pos_of_mem h1
    omega
theorem least_len {sm : List (Int × Int)} {ws : List Int} {n : Nat} (h : IsLeast sm ws n) : n ≤ ws.length := by
  have := pig n (ws.map fun x => mget x sm) fun j hj => by
    obtain ⟨x, hx, e⟩ := h.2 j hj
    exact List.mem_map.2 ⟨x, hx, e⟩
  simpa using this
def deg (ps : List (Int × Int)) (v : Int) : Nat := ps.countP fun p => decide (p.1 = v ∨ p.2 = v)
theorem nbr_len {ps : List (Int × Int)} (h : ∀ p ∈ ps, p.1 ≠ p.2) (v : Int) : (nbr ps v).length = deg ps v := by
  induction ps with
  | nil => rfl
  | cons p ps ih =>
    have ih := ih fun q hq => h q (List.mem_cons_of_mem _ hq)
    have hp := h p List.mem_cons_self
    simp only [nbr, List.flatMap_cons, List.length_append] at ih ⊢
    unfold deg at ih ⊢
    rw [List.countP_cons, ← ih]
    by_cases e1 : p.1 = v
    · have e2 : ¬ p.2 = v := fun e => hp (by rw [e1, e])
      simp [e1, e2]; omega
    · by_cases e2 : p.2 = v
      · simp [e1, e2]; omega
      · simp [e1, e2]
theorem le_foldl : ∀ (l : List Nat) (a : Nat), a ≤ l.foldl max a ∧ ∀ n ∈ l, n ≤ l.foldl max a
  | [], a => ⟨Nat.le_refl _, by simp⟩
  | x :: l, a => by
    obtain ⟨h1, h2⟩ := le_foldl l (max a x)
    simp only [List.foldl_cons]
    refine ⟨by omega, fun n hn => ?_⟩
    rcases List.mem_cons.1 hn with rfl | hn
    · omega
    · exact h2 n hn
def widest (ps : List (Int × Int)) (vs : List Int) : Nat := (vs.map (deg ps)).foldl max 0
theorem widest_snoc (ps : List (Int × Int)) (vs : List Int) (v : Int) : widest ps (vs ++ [v]) = max (widest ps vs) (deg ps v) := by simp [widest]
theorem top_ex : ∀ (sl : List Nat) (a j : Nat), j < sl.foldl (fun a n => max a (n + 1)) a → j < a ∨ ∃ n ∈ sl, j ≤ n
  | [], a, j, h => .inl h
  | x :: sl, a, j, h => by
    rcases top_ex sl (max a (x + 1)) j h with h | ⟨n, hn, h⟩
    · by_cases e : j < a
      · exact .inl e
      · exact .inr ⟨x, List.mem_cons_self, by omega⟩
    · exact .inr ⟨n, List.mem_cons_of_mem _ hn, h⟩
theorem no_gap {vs : List Int} {ps : List (Int × Int)} {sl : List Nat} (hg : Greedy vs ps sl) {j : Nat} (hj : j < top sl) : j ∈ sl := by
  rcases top_ex sl 0 j hj with h | ⟨n, hn, h⟩
  · omega
  · by_cases e : j = n
    · rw [e]; exact hn
    · obtain ⟨i, hi, rfl⟩ := List.mem_iff_getElem.1 hn
      have := hg i hi
      rw [getD_eq 0 sl i hi] at this
      obtain ⟨x, _, hx⟩ := this.2 j (by omega)
      obtain ⟨m, hm, e2⟩ := zipN_vals hx
      have : j = m := by omega
      rw [this]
      exact List.mem_of_mem_take hm
theorem top_le_len {vs : List Int} {ps : List (Int × Int)} {sl : List Nat} (hg : Greedy vs ps sl) : top sl ≤ sl.length := by
  have key : ∀ k, k ≤ sl.length → top (sl.take k) ≤ k := by
    intro k
    induction k with
    | zero => intro _; simp [top]
    | succ k ih =>
      intro hk
      have ih := ih (by omega)
      rw [take_snoc 0 sl k (by omega), top_snoc]
      have := isLeast_le (B := top (sl.take k)) (hg k (by omega)) fun x y hxy => by
        obtain ⟨n, hn, rfl⟩ := zipN_vals hxy
        exact Int.ofNat_lt.2 ((lt_top (sl.take k) 0).2 n hn)
      omega
  have := key sl.length (Nat.le_refl _)
  rwa [List.take_length] at this
theorem top_widest {vs : List Int} {ps : List (Int × Int)} {sl : List Nat} (hl : sl.length = vs.length) (hne : ∀ p ∈ ps, p.1 ≠ p.2) (hg : Greedy vs ps sl) : top sl ≤ widest ps vs + 1 := by
  refine top_le sl 0 _ (Nat.zero_le _) fun n hn => ?_
  obtain ⟨i, hi, rfl⟩ := List.mem_iff_getElem.1 hn
  have := least_len (hg i hi)
  rw [getD_eq 0 sl i hi, nbr_len hne] at this
  have h2 := (le_foldl (vs.map (deg ps)) 0).2 (deg ps (vs.getD i 0)) (List.mem_map.2 ⟨_, by rw [getD_eq 0 vs i (by omega)]; exact List.getElem_mem _, rfl⟩)
  unfold widest
  omega
/-- What SlotApart asks of a frame. -/
structure ApartL (vs : List Int) (ps : List (Int × Int)) (rs : List Int) (temp : Bool) (xs hs : List Int) (t : Int) (S : Nat) : Prop where
  hx : xs.length = vs.length
  hh : hs.length = rs.length
  h1 : S ≤ vs.length + rs.length + 1
  h2 : S ≤ 400
  sh : ∀ p ∈ ps, share xs vs p.1 p.2 = false
  bd : ∀ x ∈ xs, 0 ≤ x ∧ x < S
  ow : ∀ i, i < (hs ++ if temp then [t] else []).length → 0 ≤ (hs ++ if temp then [t] else []).getD i 0 ∧ (hs ++ if temp then [t] else []).getD i 0 < S ∧ (hs ++ if temp then [t] else []).getD i 0 ∉ xs ∧ (hs ++ if temp then [t] else []).getD i 0 ∉ (hs ++ if temp then [t] else []).take i
  al : ∀ j : Nat, j < S → (j : Int) ∈ xs ∨ (j : Int) ∈ (hs ++ if temp then [t] else [])
  fin : temp = false → t = -1 ∧ (S : Int) - hs.length ≤ (widest ps vs : Int) + 1
theorem apart_law {vs rs : List Int} {ps : List (Int × Int)} {temp : Bool} {f : FV} (h : OfRel vs ps rs temp f) : f = ⟨[], [], 0, 0, 2⟩ ∨ f.e = 0 ∧ ∃ S : Nat, f.s = S ∧ ApartL vs ps rs temp f.xs f.hs f.t S := by
  rcases h with ⟨_, rfl⟩ | ⟨hok, sl, hl, hg, rfl⟩
  · exact .inl rfl
  right
  refine ⟨rfl, top sl + rs.length + (if temp then 1 else 0), rfl, ?_⟩
  simp only [okArgs, Bool.and_eq_true] at hok
  obtain ⟨⟨hv, hr⟩, hpa⟩ := hok
  have hpw := (rise_lo vs 1 200 hv).2
  have l1 := rise_len hv (by decide)
  have l2 := rise_len hr (by decide)
  have htl := top_le_len hg
  have hok : ∀ p ∈ ps, p.1 ≠ p.2 ∧ p.1 ∈ vs ∧ p.2 ∈ vs := fun p hp => by
    have := List.all_eq_true.1 hpa p hp
    simpa [okP] using this
  have hti : (if temp = true then (1 : Nat) else 0) ≤ 1 := by split <;> omega
  have hxm : ∀ x, x ∈ natI sl ↔ ∃ n ∈ sl, x = (n : Int) := fun x => by
    simp only [natI, List.mem_map]
    exact ⟨fun ⟨n, hn, e⟩ => ⟨n, hn, e.symm⟩, fun ⟨n, hn, e⟩ => ⟨n, hn, e.symm⟩⟩
  -- the homes and the one to spare are the numbers from top on
  have hown : (natI ((List.range rs.length).map (top sl + ·)) ++ if temp = true then [(if temp = true then ((top sl + rs.length : Nat) : Int) else -1)] else []) = natI ((List.range (rs.length + if temp = true then 1 else 0)).map (top sl + ·)) := by
    cases temp with
    | false => simp
    | true => simp [natI, List.range_succ]
  have hog : ∀ i, i < rs.length + (if temp = true then 1 else 0) → (natI ((List.range (rs.length + if temp = true then 1 else 0)).map (top sl + ·))).getD i 0 = ((top sl + i : Nat) : Int) := fun i hi => by
    rw [getD_eq 0 _ i (by simp [natI, hi])]; simp [natI]
  refine ⟨by simp [natI, hl], by simp [natI], by omega, by omega, fun p hp => ?_, fun x hx => ?_, fun i hi => ?_, fun j hj => ?_, fun ht => ?_⟩
  · refine no_share hpw hl hg ⟨mem_nbr.2 ⟨p, hp, .inr ⟨rfl, rfl⟩⟩, mem_nbr.2 ⟨p, hp, .inl ⟨rfl, rfl⟩⟩⟩
  · obtain ⟨n, hn, rfl⟩ := (hxm x).1 hx
    have := (lt_top sl 0).2 n hn
    unfold top
    omega
  · dsimp only at hi ⊢
    rw [hown] at hi ⊢
    have hi' : i < rs.length + (if temp = true then 1 else 0) := by simpa [natI] using hi
    rw [hog i hi']
    refine ⟨by omega, by omega, fun hm => ?_, fun hm => ?_⟩
    · obtain ⟨n, hn, e⟩ := (hxm _).1 hm
      have := (lt_top sl 0).2 n hn
      unfold top at e
      omega
    · obtain ⟨j, hj, e⟩ := List.mem_iff_getElem.1 hm
      rw [List.getElem_take] at e
      simp only [natI, List.getElem_map, List.getElem_range] at e
      rw [List.length_take] at hj
      have : (((top sl + j : Nat)) : Int) = ((top sl + i : Nat) : Int) := e
      omega
  · dsimp only
    rw [hown]
    by_cases e : j < top sl
    · exact .inl ((hxm _).2 ⟨j, no_gap hg e, rfl⟩)
    · refine .inr ?_
      simp only [natI, List.mem_map, List.mem_range]
      exact ⟨j, ⟨j - top sl, by omega, by omega⟩, rfl⟩
  · subst ht
    refine ⟨rfl, ?_⟩
    have := top_widest hl (fun p hp => (hok p hp).1) hg
    simp [natI]
    omega
end Go.Proofs.Ytfbmeponhejbhaa
