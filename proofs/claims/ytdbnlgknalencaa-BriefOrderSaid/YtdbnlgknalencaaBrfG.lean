/- Layer 23 (brief): the walk through BriefApart. -/
import Derived.Test.YtdbnlgknalencaaBrfBF
import Derived.Test.YtdbnlgknalencaaEEb
set_option linter.unusedVariables false
set_option linter.unusedSimpArgs false
namespace Go.Proofs.Ytdbnlgknalencaa
open Go Go.E
set_option maxRecDepth 4000
set_option maxHeartbeats 1000000
def AtPost (l : List Int) (n : Int) (v : Value) (L : List HP) : Prop := ∃ z : Int, ((z = -1 ∧ n ∉ l) ∨ ∃ j : Nat, z = j ∧ j < l.length ∧ l.getD j 0 = n) ∧ v = .int .i64 z ∧ L = []
theorem at_spec (w : World) (N : Nat → Prop) (A : Option Addr) (c m : Nat) (l : List Int) (n : Int) (hm : m = l.length) (ho : Owns w [] N) (hk : KI w N A l) (hlen : l.length < 100000000000000) :
    Ret Try.prog 11 [.slice A m c, .int .i64 n] w N (AtPost l n) := by
  subst hm
  refine ret_of_J cx Try.func11 rfl (Nat.le_of_ble_eq_true rfl) ho ?_
  refine s_seq ?_
  refine s_region ?_
  refine s_q (y_assign rfl) rfl ?_
  refine s_done ?_
  refine s_seq ?_
  refine s_seq ?_
  refine s_region ?_
  refine s_q (y_assign rfl) rfl ?_
  refine s_done ?_
  refine s_block ?_
  refine s_loopV (σ := Nat) (fun s => [(5, .int .i64 s)]) (fun s => []) (fun s => (s ≤ l.length) ∧ (∀ j, j < s → l.getD j 0 ≠ n)) (fun s => l.length - s) (0) [(0, _), (1, _)] ⟨rfl, rfl, trivial⟩ ⟨rfl, trivial⟩ tk ⟨Nat.zero_le _, fun j hj => absurd hj (Nat.not_lt_zero j)⟩ ?_
  rintro k ⟨hk2, hf⟩
  try dsimp only [List.cons_append, List.nil_append, List.append_nil] at hk2 hf ⊢
  refine s_seq ?_
  refine s_seq ?_
  refine s_region ?_
  refine s_q (y_move rfl) rfl ?_
  refine s_q (y_move rfl) rfl ?_
  refine s_q (y_lenS rfl rfl rfl) rfl ?_
  refine s_q (y_lss rfl rfl) rfl ?_
  refine s_done ?_
  refine s_cond rfl (fun h => ?_) (fun h => ?_)
  · have hkl : k < l.length := by omega
    refine s_skip ?_
    refine s_seq ?_
    refine s_block ?_
    refine s_seq ?_
    refine s_region ?_
    refine s_q (y_move rfl) rfl ?_
    refine s_q (y_move rfl) rfl ?_
    refine s_q (by (first | exact y_ixI rfl rfl rfl rfl rfl hk rfl (by omega) (by omega) | exact y_ixI rfl rfl rfl rfl rfl (by assumption) rfl (by omega) (by omega))) rfl ?_
    refine s_q (by (first | exact y_ldK rfl rfl rfl rfl hk (by omega) | exact y_ld rfl rfl rfl (by rfl) | exact y_ldN rfl rfl rfl (by rfl) | exact y_ldK rfl rfl rfl rfl (by assumption) (by omega) | exact y_ldI rfl rfl rfl rfl (by assumption) (by omega) (by omega))) rfl ?_
    refine s_q (y_move rfl) rfl ?_
    refine s_q (by (first | exact y_eql rfl rfl | exact y_eqlB rfl rfl rfl)) rfl ?_
    refine s_done ?_
    refine s_cond rfl (fun h2 => ?_) (fun h2 => ?_)
    · refine s_seq ?_
      refine s_region ?_
      refine s_q (y_move rfl) rfl ?_
      refine s_q (y_assign rfl) rfl ?_
      refine s_done ?_
      exact s_return (R := AtPost l n) ⟨k, .inr ⟨k, rfl, hkl, h2⟩, rfl, rfl⟩ (res_tmp Try.results11 rfl)
    · refine s_skip ?_
      refine s_endb ?_
      refine s_region ?_
      refine s_q (y_move rfl) rfl ?_
      refine s_q (y_add rfl rfl (by omega)) rfl ?_
      refine s_q (y_assign rfl) rfl ?_
      refine s_done ?_
      refine s_inv (k + 1) ⟨(by (try dsimp only); omega), fun j hj => ?_⟩ (by (try dsimp only); omega) ⟨rfl, rfl, rfl, trivial⟩ tk
      by_cases e : j = k
      · subst e; exact h2
      · exact hf j (by (try dsimp only at hj); omega)
  · refine s_exit rfl ?_
    refine s_seq ?_
    refine s_region ?_
    refine s_q (y_assign rfl) rfl ?_
    refine s_done ?_
    exact s_return (R := AtPost l n) ⟨-1, .inl ⟨rfl, fun hm => by obtain ⟨j, hj, e⟩ := getD_of_mem 0 hm; exact hf j (by omega) e⟩, rfl, rfl⟩ (res_tmp Try.results11 rfl)
theorem at_mem {l : List Int} {n z : Int} (h : (z = -1 ∧ n ∉ l) ∨ ∃ j : Nat, z = j ∧ j < l.length ∧ l.getD j 0 = n) : 0 ≤ z ↔ n ∈ l := by
  rcases h with ⟨rfl, h⟩ | ⟨j, rfl, hj, h⟩
  · exact ⟨fun x => by omega, fun x => absurd x h⟩
  · exact ⟨fun _ => by rw [← h]; exact getD_mem 0 hj, fun _ => by omega⟩
theorem mem_rowOf : ∀ (vs cs : List Int) (c x : Int), x ∈ rowOf vs cs c ↔ ∃ j, j < vs.length ∧ j < cs.length ∧ vs.getD j 0 = x ∧ cs.getD j 0 = c
  | [], cs, c, x => by simp [rowOf]
  | v :: vs, [], c, x => by simp [rowOf]
  | v :: vs, d :: cs, c, x => by
    simp only [rowOf, List.mem_append, mem_rowOf vs cs c x]
    constructor
    · rintro (h | ⟨j, h1, h2, h3, h4⟩)
      · split at h
        · rename_i e; exact ⟨0, by simp, by simp, by simpa using (List.mem_singleton.1 h).symm, by simpa using e⟩
        · simp at h
      · exact ⟨j + 1, by simpa using h1, by simpa using h2, by simpa using h3, by simpa using h4⟩
    · rintro ⟨j, h1, h2, h3, h4⟩
      cases j with
      | zero => left; simp at h3 h4; rw [if_pos h4, h3]; simp
      | succ j => right; exact ⟨j, by simpa using h1, by simpa using h2, by simpa using h3, by simpa using h4⟩
/-- The colors that a brief has. -/
def colL (b : BrD) : List Int := ((List.range 64).map fun c : Nat => (c : Int)).filter (fun c => !(rowOf b.vars b.cols c).isEmpty)
theorem apart_col {b : BrD} (h : rightB b = true) : apartL b = (colL b).map (rowOf b.vars b.cols) := by
  rw [apartL, if_pos h, colL, List.filter_map, List.filter_map, List.map_map]; rfl
theorem colL_nodup (b : BrD) : (colL b).Nodup := by
  refine List.Pairwise.filter _ ?_
  rw [List.pairwise_map]; exact List.nodup_range.imp (fun h e => h (by omega))
/-- What is so of a right brief. -/
structure RB (b : BrD) : Prop where
  ris : risB 0 b.vars = true
  lc : b.cols.length = b.vars.length
  col : ∀ c ∈ b.cols, -1 ≤ c ∧ c ≤ 63
theorem RB.of {b : BrD} (h : rightB b = true) : RB b := by
  simp only [rightB, Bool.and_eq_true, decide_eq_true_eq, List.all_eq_true, inB] at h
  exact ⟨h.1, h.2.1, h.2.2.2.1⟩
theorem RB.mem {b : BrD} (h : RB b) {i : Nat} (hi : i < b.vars.length) (c : Int) : b.vars.getD i 0 ∈ rowOf b.vars b.cols c ↔ b.cols.getD i 0 = c := by
  rw [mem_rowOf]
  constructor
  · rintro ⟨j, h1, h2, h3, h4⟩
    by_cases e : j = i
    · subst e; exact h4
    · exact absurd h3 (risB_ne h.ris h1 hi e)
  · intro e; exact ⟨i, hi, by rw [h.lc]; exact hi, rfl, e⟩
theorem RB.colL {b : BrD} (h : RB b) (c : Int) : c ∈ colL b ↔ 0 ≤ c ∧ ∃ i, i < b.vars.length ∧ b.cols.getD i 0 = c := by
  rw [Go.Proofs.Ytdbnlgknalencaa.colL, List.mem_filter, List.mem_map]
  constructor
  · rintro ⟨⟨n, hn, rfl⟩, h2⟩
    have h3 : rowOf b.vars b.cols n ≠ [] := by simpa using h2
    obtain ⟨x, hx⟩ := List.exists_mem_of_ne_nil _ h3
    obtain ⟨j, h4, _, _, h5⟩ := (mem_rowOf _ _ _ _).1 hx
    exact ⟨by omega, j, h4, h5⟩
  · rintro ⟨h1, i, hi, h2⟩
    have h3 := h.col _ (getD_mem 0 (l := b.cols) (k := i) (by rw [h.lc]; exact hi))
    refine ⟨⟨c.toNat, by simp; omega, by omega⟩, ?_⟩
    have h4 := (h.mem hi c).2 h2
    have : rowOf b.vars b.cols c ≠ [] := List.ne_nil_of_mem h4
    simpa using this
theorem spB_iff : ∀ (vs cs : List Int) (x : Int), spB vs cs x = true ↔ ∃ j, j < vs.length ∧ j < cs.length ∧ vs.getD j 0 = x ∧ cs.getD j 0 < 0
  | [], cs, x => by simp [spB]
  | v :: vs, [], x => by simp [spB]
  | v :: vs, d :: cs, x => by
    simp only [spB, Bool.or_eq_true, Bool.and_eq_true, decide_eq_true_eq, spB_iff vs cs x]
    constructor
    · rintro (h | ⟨j, h1, h2, h3, h4⟩)
      · exact ⟨0, by simp, by simp, by simpa using h.1, by simpa using h.2⟩
      · exact ⟨j + 1, by simpa using h1, by simpa using h2, by simpa using h3, by simpa using h4⟩
    · rintro ⟨j, h1, h2, h3, h4⟩
      cases j with
      | zero => left; exact ⟨by simpa using h3, by simpa using h4⟩
      | succ j => right; exact ⟨j, by simpa using h1, by simpa using h2, by simpa using h3, by simpa using h4⟩
theorem RB.sp {b : BrD} (h : RB b) {i : Nat} (hi : i < b.vars.length) : spB b.vars b.cols (b.vars.getD i 0) = true ↔ b.cols.getD i 0 < 0 := by
  rw [spB_iff]
  constructor
  · rintro ⟨j, h1, h2, h3, h4⟩
    by_cases e : j = i
    · subst e; exact h4
    · exact absurd h3 (risB_ne h.ris h1 hi e)
  · intro e; exact ⟨i, hi, by rw [h.lc]; exact hi, rfl, e⟩
theorem mem_kept1 {b : BrD} (hr : rightB b = true) (x : Int) : x ∈ keptL [b] ↔ ∃ i, i < b.vars.length ∧ b.vars.getD i 0 = x ∧ 0 ≤ b.cols.getD i 0 := by
  have h := RB.of hr
  rw [keptL, if_pos (by simp [hr]), List.mem_filter, List.mem_map]
  simp only [List.any_cons, List.any_nil, Bool.or_false, isSp, Bool.and_eq_true, decide_eq_true_eq, Bool.not_eq_true', List.mem_range]
  constructor
  · rintro ⟨_, h1, h2⟩
    obtain ⟨i, hi, rfl⟩ := getD_of_mem 0 h1
    refine ⟨i, hi, rfl, Int.not_lt.1 fun h3 => ?_⟩
    rw [(h.sp hi).2 h3] at h2; cases h2
  · rintro ⟨i, hi, rfl, h1⟩
    have h2 := (risB_lt _ _ h.ris).1 _ (getD_mem 0 hi)
    refine ⟨⟨(b.vars.getD i 0 - 1).toNat, by omega, by omega⟩, getD_mem 0 hi, ?_⟩
    rw [Bool.eq_false_iff]; exact fun h3 => by have := (h.sp hi).1 h3; omega
theorem keptL_nodup (l : List BrD) : (keptL l).Nodup := by
  rw [keptL]; split
  · refine List.Pairwise.filter _ ?_
    rw [List.pairwise_map]; exact List.nodup_range.imp (fun h e => h (by omega))
  · exact List.Pairwise.nil
/-- The places of those that are not spilled. -/
def posL (b : BrD) (i : Nat) : List Nat := (List.range i).filter fun j => decide (0 ≤ b.cols.getD j 0)
theorem posL_succ (b : BrD) (i : Nat) : (posL b (i + 1)).length = (posL b i).length + (if 0 ≤ b.cols.getD i 0 then 1 else 0) := by
  rw [posL, List.range_succ, List.filter_append, List.length_append]; congr 1
  rw [List.filter_cons]; split <;> simp_all
theorem kept_count {b : BrD} (hr : rightB b = true) : (keptL [b]).length = (posL b b.vars.length).length := by
  have h := RB.of hr
  have hn : ((posL b b.vars.length).map fun j => b.vars.getD j 0).Nodup := by
    rw [List.nodup_iff_pairwise_ne, List.pairwise_map]
    refine (List.nodup_range.filter _).imp_of_mem fun {i j} hi hj hne => ?_
    simp only [posL, List.mem_filter, List.mem_range] at hi hj
    exact risB_ne h.ris hi.1 hj.1 hne
  have hm : ∀ x, x ∈ keptL [b] ↔ x ∈ (posL b b.vars.length).map fun j => b.vars.getD j 0 := fun x => by
    rw [mem_kept1 hr, List.mem_map]
    simp only [posL, List.mem_filter, List.mem_range, decide_eq_true_eq]
    exact ⟨fun ⟨i, h1, h2, h3⟩ => ⟨i, ⟨h1, h3⟩, h2⟩, fun ⟨i, ⟨h1, h3⟩, h2⟩ => ⟨i, h1, h2, h3⟩⟩
  have := ((List.perm_ext_iff_of_nodup (keptL_nodup [b]) hn).2 hm).length_eq
  rw [this, List.length_map]
theorem apart_count {b : BrD} (hr : rightB b = true) : (apartL b).length ≤ (posL b b.vars.length).length := by
  rw [apart_col hr, List.length_map]
  have h := RB.of hr
  have := (colL_nodup b).length_le_of_subset (l₂ := (posL b b.vars.length).map fun j => b.cols.getD j 0) (fun c hc => by
    obtain ⟨h1, i, hi, h2⟩ := (h.colL c).1 hc
    exact List.mem_map.2 ⟨i, by simp only [posL, List.mem_filter, List.mem_range, decide_eq_true_eq]; exact ⟨hi, by omega⟩, h2⟩)
  rwa [List.length_map] at this
/-- A row of the rows that were told, read. -/
theorem rowKI {base w : World} {M N : Nat → Prop} {L : List HP} {rs : List Row} {k : Nat} (hl : ∀ w', Since w N w' → Sat base M L w') (hm : star (rs.map Row.hp) ∈ L) (hk : k < rs.length) : KI w N (rs.getD k ⟨none, 0, []⟩).A (rs.getD k ⟨none, 0, []⟩).xs := fun w' h' => by
  obtain ⟨h, s, hin⟩ := (hl w' h').has hm
  have hs : Sat w' (fun _ => True) (rs.map Row.hp) w' := ⟨⟨h, s, hin, fun _ _ _ => .inr trivial⟩, Since.refl _ _⟩
  exact hs.slRdI (e := 3) (n := (rs.getD k ⟨none, 0, []⟩).xs.length) (c := (rs.getD k ⟨none, 0, []⟩).c) (List.mem_map.2 ⟨_, getD_mem ⟨none, 0, []⟩ hk, rfl⟩)
theorem row_len (vs cs : List Int) (c : Int) : (rowOf vs cs c).length ≤ vs.length := by
  induction vs generalizing cs with
  | nil => simp [rowOf]
  | cons v vs ih =>
    cases cs with
    | nil => simp [rowOf]
    | cons d cs => have := ih cs; simp only [rowOf, List.length_append, List.length_cons]; split <;> simp <;> omega
theorem BriefApart_spec (w : World) (N : Nat → Prop) (b : BrD) (ho : Owns w [] N) (hk : KR w N b) (hok : b.ok) : Ret Try.prog 4 [.agg (encBr b).toArray] w N fun v L => v = .bool true ∧ L = [] := by
  have hkv := hk.v
  have hkc := hk.c
  refine ret_of_J cx Try.func4 rfl (Nat.le_of_ble_eq_true rfl) ho ?_
  refine s_seq ?_
  refine s_region ?_
  first | (refine s_box1 rfl rfl rfl (fun b1 => ?_)) | (refine s_boxA rfl rfl (fun b1 => ?_))
  change J _ _ _ (cb b1 31 (encBr b) :: _) _
  refine s_q (y_assign rfl) rfl ?_
  refine s_done ?_
  refine s_seq ?_
  refine s_seq ?_
  refine s_region ?_
  refine s_call (pre := []) (rem := _) rfl rfl tk (fun w N ho hl => awake_spec w N ho) rfl ?_
  rintro e L' ⟨rfl, rfl⟩
  try simp only [List.nil_append, List.cons_append, List.append_nil]
  refine s_q (by (first | exact y_notT rfl | exact y_notF rfl | exact y_notp rfl | exact y_notb rfl)) rfl ?_
  refine s_done ?_
  refine s_condF2 rfl (by with_reducible rfl) ?_
  refine s_skip ?_
  refine s_seq ?_
  refine s_seq ?_
  refine s_region ?_
  refine s_q (by (first | exact y_ldN rfl rfl rfl (by rfl) | exact y_ld rfl rfl rfl (by rfl) | exact y_ldN rfl rfl rfl (by rfl) | exact y_ldK rfl rfl rfl rfl (by assumption) (by omega) | exact y_ldI rfl rfl rfl rfl (by assumption) (by omega) (by omega))) rfl ?_
  refine s_bslice rfl rfl rfl rfl rfl rfl rfl rfl (fun b2 => ?_)
  change J _ _ _ (cb b2 31 ([b].flatMap encBr) :: _) _
  refine s_call (pre := []) (rem := _) rfl rfl tk (fun w N ho hl => size_spec w N (some ⟨b2, 0, none⟩) 1 1 [b] rfl ho (keOfC (fun _ => rfl) hl (by repeat (first | exact List.mem_cons_self | refine List.mem_cons_of_mem _ ?_))) (ok1 hok) (by simp)) rfl ?_
  rintro e L' ⟨z, hz, rfl, rfl⟩
  try simp only [List.nil_append, List.cons_append, List.append_nil]
  refine s_q (y_gtr rfl rfl) rfl ?_
  refine s_done ?_
  refine s_cond rfl (fun h1 => ?_) (fun h1 => ?_)
  · refine s_seq ?_
    refine s_region ?_
    refine s_q (y_assign rfl) rfl ?_
    refine s_done ?_
    exact s_return ⟨rfl, rfl⟩ (res_tmp Try.results4 rfl)
  obtain ⟨_, hz2⟩ := hz.each (by omega)
  have hzb := hz2 b List.mem_cons_self
  refine s_skip ?_
  refine s_seq ?_
  refine s_region ?_
  refine s_q (by (first | exact y_ldN rfl rfl rfl (by rfl) | exact y_ld rfl rfl rfl (by rfl) | exact y_ldN rfl rfl rfl (by rfl) | exact y_ldK rfl rfl rfl rfl (by assumption) (by omega) | exact y_ldI rfl rfl rfl rfl (by assumption) (by omega) (by omega))) rfl ?_
  refine s_call (pre := []) (rem := _) rfl rfl tk (fun w N ho hl => Apart_spec w N b ho (hk.of hl) hok) rfl ?_
  rintro e L' ⟨G, g, rs, rfl, rfl, hrs⟩
  try simp only [List.nil_append, List.cons_append, List.append_nil]
  have hrl : (apartL b).length = rs.length := by rw [← hrs, List.length_map]
  refine s_q (y_assign rfl) rfl ?_
  refine s_done ?_
  refine s_seq ?_
  refine s_region ?_
  refine s_q (by (first | exact y_ldN rfl rfl rfl (by rfl) | exact y_ld rfl rfl rfl (by rfl) | exact y_ldN rfl rfl rfl (by rfl) | exact y_ldK rfl rfl rfl rfl (by assumption) (by omega) | exact y_ldI rfl rfl rfl rfl (by assumption) (by omega) (by omega))) rfl ?_
  refine s_bslice rfl rfl rfl rfl rfl rfl rfl rfl (fun b3 => ?_)
  change J _ _ _ (cb b3 31 ([b].flatMap encBr) :: _) _
  refine s_call (pre := []) (rem := _) rfl rfl tk (fun w N ho hl => Kept_spec w N (some ⟨b3, 0, none⟩) 1 1 [b] rfl ho (kbr1 (keOfC (fun _ => rfl) hl (by repeat (first | exact List.mem_cons_self | refine List.mem_cons_of_mem _ ?_))) (hk.of hl)) (ok1 hok) (by simp)) rfl ?_
  rintro e L' ⟨K, kc, rfl, rfl⟩
  try simp only [List.nil_append, List.cons_append, List.append_nil]
  refine s_q (y_assign rfl) rfl ?_
  refine s_done ?_
  refine s_seq ?_
  refine s_seq ?_
  refine s_region ?_
  refine s_q (by (first | exact y_ldN rfl rfl rfl (by rfl) | exact y_ld rfl rfl rfl (by rfl) | exact y_ldN rfl rfl rfl (by rfl) | exact y_ldK rfl rfl rfl rfl (by assumption) (by omega) | exact y_ldI rfl rfl rfl rfl (by assumption) (by omega) (by omega))) rfl ?_
  refine s_call (pre := []) (rem := _) rfl rfl tk (fun w N ho hl => Right_spec w N b ho (hk.of hl) hok) rfl ?_
  rintro e L' ⟨rfl, rfl⟩
  try simp only [List.nil_append, List.cons_append, List.append_nil]
  cases hr : rightB b with
  | false =>
    have e1 : apartL b = [] := by rw [apartL, hr]; simp
    have e2 : keptL [b] = [] := by rw [keptL]; simp [hr]
    have e3 : rs.length = 0 := by rw [← hrl, e1]; rfl
    have e4 : (keptL [b]).length = 0 := by rw [e2]; rfl
    refine s_q (by (first | exact y_notT rfl | exact y_notF rfl | exact y_notp rfl | exact y_notb rfl)) rfl ?_
    refine s_done ?_
    refine s_condT2 rfl (congrArg Value.bool (by decide)) ?_
    refine s_seq ?_
    refine s_region ?_
    refine s_q (y_move rfl) rfl ?_
    refine s_q (y_lenS rfl rfl rfl) rfl ?_
    refine s_q (by (first | exact y_as (y_eql rfl rfl) (congrArg Value.bool (decide_eq_true (show (rs.length : Int) = 0 by omega))) | exact y_as (y_eql rfl rfl) (congrArg Value.bool (decide_eq_true (show ((keptL [b]).length : Int) = 0 by omega))) | exact y_eql rfl rfl | exact y_eqlB rfl rfl rfl)) rfl ?_
    refine s_q (y_move rfl) rfl ?_
    refine s_guard2 rfl rfl (by with_reducible rfl) ?_
    refine s_q (y_move rfl) rfl ?_
    refine s_guard2 rfl rfl (by with_reducible rfl) ?_
    refine s_q (y_lenS rfl rfl rfl) rfl ?_
    refine s_guard2 rfl rfl (by with_reducible rfl) ?_
    refine s_q (by (first | exact y_as (y_eql rfl rfl) (congrArg Value.bool (decide_eq_true (show (rs.length : Int) = 0 by omega))) | exact y_as (y_eql rfl rfl) (congrArg Value.bool (decide_eq_true (show ((keptL [b]).length : Int) = 0 by omega))) | exact y_eql rfl rfl | exact y_eqlB rfl rfl rfl)) rfl ?_
    refine s_q (by (first | exact y_pickT rfl rfl | exact y_pickF rfl rfl)) rfl ?_
    refine s_q (y_move rfl) rfl ?_
    refine s_guard2 rfl rfl (by with_reducible rfl) ?_
    refine s_q (by (first | exact y_ldN rfl rfl rfl (by rfl) | exact y_ld rfl rfl rfl (by rfl) | exact y_ldN rfl rfl rfl (by rfl) | exact y_ldK rfl rfl rfl rfl (by assumption) (by omega) | exact y_ldI rfl rfl rfl rfl (by assumption) (by omega) (by omega))) rfl ?_
    refine s_guard2 rfl rfl (by with_reducible rfl) ?_
    refine s_call (pre := []) (rem := _) rfl rfl tk (fun w N ho hl => Used_spec w N b ho (hk.of hl) hok) rfl ?_
    rintro e L' ⟨rfl, rfl⟩
    try simp only [List.nil_append, List.cons_append, List.append_nil]
    rw [hrl]
    refine s_guard2 rfl rfl (by with_reducible rfl) ?_
    refine s_q (by (first | exact y_as (y_eql rfl rfl) (congrArg Value.bool (decide_eq_true (show (rs.length : Int) = 0 by omega))) | exact y_eql rfl rfl | exact y_eqlB rfl rfl rfl)) rfl ?_
    refine s_q (by (first | exact y_pickT rfl rfl | exact y_pickF rfl rfl)) rfl ?_
    refine s_q (y_assign rfl) rfl ?_
    refine s_done ?_
    exact s_return ⟨rfl, rfl⟩ (res_tmp Try.results4 rfl)
  | true =>
  have hRB := RB.of hr
  have hlc := hRB.lc
  have hkn := kept_count hr
  have han := apart_count hr
  have hkl2 : (keptL [b]).length < 1000000 := by
    have : (posL b b.vars.length).length ≤ b.vars.length := by rw [posL]; exact Nat.le_trans (List.length_filter_le _ _) (by simp)
    omega
  have hcl : (colL b).length = rs.length := by rw [← hrl, apart_col hr, List.length_map]
  have hrow : ∀ k, k < rs.length → (rs.getD k ⟨none, 0, []⟩).xs = rowOf b.vars b.cols ((colL b).getD k 0) := fun k hk => by
    rw [← getD_map (·.xs) ⟨none, 0, []⟩ [] hk, hrs, apart_col hr, getD_map (rowOf b.vars b.cols) 0 [] (by omega)]
  have hval : ∀ k, k < rs.length → (rs.map Row.val)[k]? = some (.slice (rs.getD k ⟨none, 0, []⟩).A (rs.getD k ⟨none, 0, []⟩).xs.length (rs.getD k ⟨none, 0, []⟩).c) := fun k hk => by
    rw [List.getElem?_map, List.getElem?_eq_getElem hk, List.getD_eq_getElem?_getD, List.getElem?_eq_getElem hk]; rfl
  refine s_q (by (first | exact y_notT rfl | exact y_notF rfl | exact y_notp rfl | exact y_notb rfl)) rfl ?_
  refine s_done ?_
  refine s_condF2 rfl (congrArg Value.bool (by decide)) ?_
  refine s_skip ?_
  refine s_seq ?_
  refine s_region ?_
  refine s_q (y_assign rfl) rfl ?_
  refine s_done ?_
  refine s_seq ?_
  refine s_seq ?_
  refine s_region ?_
  refine s_q (y_assign rfl) rfl ?_
  refine s_done ?_
  refine s_block ?_
  refine s_loopV (σ := Nat) (fun s => [(6, .int .i64 s), (5, .int .i64 (posL b s).length)]) (fun s => []) (fun s => (s ≤ b.vars.length)) (fun s => b.vars.length - s) (0) [(1, _), (3, _), (4, _)] ⟨rfl, rfl, rfl, trivial⟩ ⟨rfl, rfl, trivial⟩ tk (Nat.zero_le _) ?_
  rintro i hi
  try dsimp only [List.cons_append, List.nil_append, List.append_nil] at hi ⊢
  refine s_seq ?_
  refine s_seq ?_
  refine s_region ?_
  refine s_q (y_move rfl) rfl ?_
  refine s_q (by (first | exact y_fieldAddrB rfl rfl rfl rfl rfl rfl | exact y_fieldAddr rfl rfl rfl rfl rfl rfl)) rfl ?_
  refine s_q (by (first | exact y_ld rfl rfl rfl (by rfl) | exact y_ldN rfl rfl rfl (by rfl) | exact y_ldK rfl rfl rfl rfl (by assumption) (by omega) | exact y_ldI rfl rfl rfl rfl (by assumption) (by omega) (by omega))) rfl ?_
  refine s_q (y_lenS rfl rfl rfl) rfl ?_
  refine s_q (y_lss rfl rfl) rfl ?_
  refine s_done ?_
  refine s_cond rfl (fun h => ?_) (fun h => ?_)
  · have hil : i < b.vars.length := by omega
    refine s_skip ?_
    refine s_seq ?_
    refine s_block ?_
    refine s_seq ?_
    refine s_region ?_
    refine s_q (y_assign rfl) rfl ?_
    refine s_done ?_
    refine s_seq ?_
    refine s_seq ?_
    refine s_region ?_
    refine s_q (y_assign rfl) rfl ?_
    refine s_done ?_
    refine s_block ?_
    refine s_loopV (σ := Nat) (fun s => [(8, .int .i64 s), (7, .int .i64 (((colL b).take s).count (b.cols.getD i 0) : Nat))]) (fun s => []) (fun s => (s ≤ rs.length)) (fun s => rs.length - s) (0) [(1, _), (3, _), (4, _), (5, _), (6, _)] ⟨rfl, rfl, rfl, rfl, rfl, trivial⟩ ⟨rfl, rfl, trivial⟩ tk (Nat.zero_le _) ?_
    rintro k hk2
    try dsimp only [List.cons_append, List.nil_append, List.append_nil] at hk2 ⊢
    refine s_seq ?_
    refine s_seq ?_
    refine s_region ?_
    refine s_q (y_move rfl) rfl ?_
    refine s_q (y_move rfl) rfl ?_
    refine s_q (y_lenS rfl rfl rfl) rfl ?_
    refine s_q (y_lss rfl rfl) rfl ?_
    refine s_done ?_
    refine s_cond rfl (fun h2 => ?_) (fun h2 => ?_)
    · have hkl : k < rs.length := by omega
      have hrk := hrow k hkl
      have hlk : (rs.getD k ⟨none, 0, []⟩).xs.length < 1000000 := by rw [hrk]; have := row_len b.vars b.cols ((colL b).getD k 0); omega
      refine s_skip ?_
      refine s_seq ?_
      refine s_block ?_
      refine s_seq ?_
      refine s_seq ?_
      refine d_start ?_
      refine d_take 0 rfl (by kernel_rfl) (by exact y_move rfl) rfl ?_
      refine d_take 1 rfl (by kernel_rfl) (by exact y_move rfl) rfl ?_
      refine d_take 2 rfl (by kernel_rfl) (by (first | exact y_ixO rfl rfl rfl rfl rfl (by omega) (by omega) (by omega) | exact y_ixI rfl rfl rfl rfl rfl hkv rfl (by omega) (by omega) | exact y_ixI rfl rfl rfl rfl rfl (by assumption) rfl (by omega) (by omega))) rfl ?_
      refine d_take 3 rfl (by kernel_rfl) (by (first | exact y_ldOn rfl rfl rfl rfl (hval k hkl) | exact y_ldK rfl rfl rfl rfl hkv (by omega) | exact y_ld rfl rfl rfl (by rfl) | exact y_ldN rfl rfl rfl (by rfl) | exact y_ldK rfl rfl rfl rfl (by assumption) (by omega) | exact y_ldI rfl rfl rfl rfl (by assumption) (by omega) (by omega))) rfl ?_
      refine d_take 4 rfl (by kernel_rfl) (by (first | exact y_fieldAddrB rfl rfl rfl rfl rfl rfl | exact y_fieldAddr rfl rfl rfl rfl rfl rfl)) rfl ?_
      refine d_take 5 rfl (by kernel_rfl) (by (first | exact y_ldOn rfl rfl rfl rfl (hval k hkl) | exact y_ldK rfl rfl rfl rfl hkv (by omega) | exact y_ld rfl rfl rfl (by rfl) | exact y_ldN rfl rfl rfl (by rfl) | exact y_ldK rfl rfl rfl rfl (by assumption) (by omega) | exact y_ldI rfl rfl rfl rfl (by assumption) (by omega) (by omega))) rfl ?_
      refine d_take 6 rfl (by kernel_rfl) (by exact y_move rfl) rfl ?_
      refine d_take 7 rfl (by kernel_rfl) (by (first | exact y_ixO rfl rfl rfl rfl rfl (by omega) (by omega) (by omega) | exact y_ixI rfl rfl rfl rfl rfl hkv rfl (by omega) (by omega) | exact y_ixI rfl rfl rfl rfl rfl (by assumption) rfl (by omega) (by omega))) rfl ?_
      refine d_take 8 rfl (by kernel_rfl) (by (first | exact y_ldOn rfl rfl rfl rfl (hval k hkl) | exact y_ldK rfl rfl rfl rfl hkv (by omega) | exact y_ld rfl rfl rfl (by rfl) | exact y_ldN rfl rfl rfl (by rfl) | exact y_ldK rfl rfl rfl rfl (by assumption) (by omega) | exact y_ldI rfl rfl rfl rfl (by assumption) (by omega) (by omega))) rfl ?_
      refine d_effM 9 [8, 7, 6, 5, 4, 3, 2, 1, 0] [false, true, true, true, true, false, true, true, true] rfl (by kernel_rfl) rfl (by kernel_rfl) (fun K hK => ?_)
      refine s_call (pre := []) (rem := _) rfl rfl tk (fun w N ho hl => at_spec w N _ _ _ _ (b.vars.getD i 0) rfl ho (rowKI hl (by repeat (first | exact List.mem_cons_self | refine List.mem_cons_of_mem _ ?_)) hkl) (by omega)) rfl ?_
      rintro e L' ⟨z1, hz1, rfl, rfl⟩
      try simp only [List.nil_append, List.cons_append, List.append_nil]
      refine s_done ?_
      refine hK _ _ (by refine rm_skip ?_; refine rm_yd rfl (by (first | exact y_ixO rfl rfl rfl rfl rfl (by omega) (by omega) (by omega) | exact y_ixI rfl rfl rfl rfl rfl hkv rfl (by omega) (by omega) | exact y_ixI rfl rfl rfl rfl rfl (by assumption) rfl (by omega) (by omega))) ?_; refine rm_yd rfl (by exact y_move rfl) ?_; refine rm_yd rfl (by (first | exact y_ldOn rfl rfl rfl rfl (hval k hkl) | exact y_ldK rfl rfl rfl rfl hkv (by omega) | exact y_ld rfl rfl rfl (by rfl) | exact y_ldN rfl rfl rfl (by rfl) | exact y_ldK rfl rfl rfl rfl (by assumption) (by omega) | exact y_ldI rfl rfl rfl rfl (by assumption) (by omega) (by omega))) ?_; refine rm_yd rfl (by (first | exact y_fieldAddrB rfl rfl rfl rfl rfl rfl | exact y_fieldAddr rfl rfl rfl rfl rfl rfl)) ?_; refine rm_skip ?_; refine rm_yd rfl (by (first | exact y_ixO rfl rfl rfl rfl rfl (by omega) (by omega) (by omega) | exact y_ixI rfl rfl rfl rfl rfl hkv rfl (by omega) (by omega) | exact y_ixI rfl rfl rfl rfl rfl (by assumption) rfl (by omega) (by omega))) ?_; refine rm_yd rfl (by exact y_move rfl) ?_; refine rm_yd rfl (by exact y_move rfl) ?_; exact rm_nil) ?_
      clear hK K
      refine d_take 10 rfl (by kernel_rfl) (by exact y_lss rfl rfl) rfl ?_
      refine d_done (by kernel_rfl) ?_
      have hz1' := at_mem hz1
      rw [hrk, hRB.mem hil] at hz1'
      have hcnt : ((colL b).take (k + 1)).count (b.cols.getD i 0) = ((colL b).take k).count (b.cols.getD i 0) + (if (colL b).getD k 0 = b.cols.getD i 0 then 1 else 0) := by
        rw [take_D 0 (by omega), List.count_append, List.count_singleton]; simp
      refine s_cond rfl (fun h3 => ?_) (fun h3 => ?_)
      · have hcnt2 : ((colL b).take k).count (b.cols.getD i 0) = ((colL b).take (k + 1)).count (b.cols.getD i 0) := by
          rw [hcnt, if_neg (fun e => by have := hz1'.2 e.symm; omega)]; rfl
        rw [hcnt2]
        refine s_exit rfl ?_
        refine s_region ?_
        refine s_q (y_move rfl) rfl ?_
        refine s_q (y_add rfl rfl (by omega)) rfl ?_
        refine s_q (y_assign rfl) rfl ?_
        refine s_done ?_
        refine s_inv (k + 1) (by (try dsimp only); omega) (by (try dsimp only); omega) ⟨rfl, rfl, rfl, rfl, rfl, rfl, rfl, trivial⟩ tk
      · have hck : (colL b).getD k 0 = b.cols.getD i 0 := (hz1'.1 (by omega)).symm
        rw [if_pos hck] at hcnt
        have hcb := List.count_le_length (a := b.cols.getD i 0) (l := (colL b).take k)
        rw [List.length_take] at hcb
        refine s_skip ?_
        refine s_seq ?_
        refine s_region ?_
        refine s_q (y_move rfl) rfl ?_
        refine s_q (y_add rfl rfl (by omega)) rfl ?_
        refine s_q (y_assign rfl) rfl ?_
        refine s_done ?_
        refine s_seq ?_
        refine s_region ?_
        refine s_q (y_assign rfl) rfl ?_
        refine s_done ?_
        refine s_block ?_
        rw [show (((colL b).take k).count (b.cols.getD i 0) : Int) + 1 = (((colL b).take (k + 1)).count (b.cols.getD i 0) : Nat) by omega]
        refine s_loopV (σ := Nat) (fun s => [(9, .int .i64 s)]) (fun s => []) (fun s => (s ≤ b.vars.length)) (fun s => b.vars.length - s) (0) [(1, _), (3, _), (4, _), (5, _), (6, _), (7, _), (8, _)] ⟨rfl, rfl, rfl, rfl, rfl, rfl, rfl, trivial⟩ ⟨rfl, trivial⟩ tk (Nat.zero_le _) ?_
        rintro j hj
        try dsimp only [List.cons_append, List.nil_append, List.append_nil] at hj ⊢
        refine s_seq ?_
        refine s_seq ?_
        refine s_region ?_
        refine s_q (y_move rfl) rfl ?_
        refine s_q (by (first | exact y_fieldAddrB rfl rfl rfl rfl rfl rfl | exact y_fieldAddr rfl rfl rfl rfl rfl rfl)) rfl ?_
        refine s_q (by (first | exact y_ld rfl rfl rfl (by rfl) | exact y_ldN rfl rfl rfl (by rfl) | exact y_ldK rfl rfl rfl rfl (by assumption) (by omega) | exact y_ldI rfl rfl rfl rfl (by assumption) (by omega) (by omega))) rfl ?_
        refine s_q (y_lenS rfl rfl rfl) rfl ?_
        refine s_q (y_lss rfl rfl) rfl ?_
        refine s_done ?_
        refine s_cond rfl (fun h4 => ?_) (fun h4 => ?_)
        · have hjl : j < b.vars.length := by omega
          refine s_skip ?_
          refine s_seq ?_
          refine s_block ?_
          refine s_seq ?_
          refine d_start ?_
          refine d_take 0 rfl (by kernel_rfl) (by exact y_move rfl) rfl ?_
          refine d_take 1 rfl (by kernel_rfl) (by exact y_move rfl) rfl ?_
          refine d_take 2 rfl (by kernel_rfl) (by (first | exact y_ixO rfl rfl rfl rfl rfl (by omega) (by omega) (by omega) | exact y_ixI rfl rfl rfl rfl rfl hkv rfl (by omega) (by omega) | exact y_ixI rfl rfl rfl rfl rfl hkc rfl (by omega) (by omega) | exact y_ixI rfl rfl rfl rfl rfl (by assumption) rfl (by omega) (by omega))) rfl ?_
          refine d_take 3 rfl (by kernel_rfl) (by (first | exact y_ldOn rfl rfl rfl rfl (hval k hkl) | exact y_ldK rfl rfl rfl rfl hkv (by omega) | exact y_ldK rfl rfl rfl rfl hkc (by omega) | exact y_ld rfl rfl rfl (by rfl) | exact y_ldN rfl rfl rfl (by rfl) | exact y_ldK rfl rfl rfl rfl (by assumption) (by omega) | exact y_ldI rfl rfl rfl rfl (by assumption) (by omega) (by omega))) rfl ?_
          refine d_take 4 rfl (by kernel_rfl) (by (first | exact y_fieldAddrB rfl rfl rfl rfl rfl rfl | exact y_fieldAddr rfl rfl rfl rfl rfl rfl)) rfl ?_
          refine d_take 5 rfl (by kernel_rfl) (by (first | exact y_ldOn rfl rfl rfl rfl (hval k hkl) | exact y_ldK rfl rfl rfl rfl hkv (by omega) | exact y_ldK rfl rfl rfl rfl hkc (by omega) | exact y_ld rfl rfl rfl (by rfl) | exact y_ldN rfl rfl rfl (by rfl) | exact y_ldK rfl rfl rfl rfl (by assumption) (by omega) | exact y_ldI rfl rfl rfl rfl (by assumption) (by omega) (by omega))) rfl ?_
          refine d_take 6 rfl (by kernel_rfl) (by exact y_move rfl) rfl ?_
          refine d_take 7 rfl (by kernel_rfl) (by (first | exact y_ixO rfl rfl rfl rfl rfl (by omega) (by omega) (by omega) | exact y_ixI rfl rfl rfl rfl rfl hkv rfl (by omega) (by omega) | exact y_ixI rfl rfl rfl rfl rfl hkc rfl (by omega) (by omega) | exact y_ixI rfl rfl rfl rfl rfl (by assumption) rfl (by omega) (by omega))) rfl ?_
          refine d_take 8 rfl (by kernel_rfl) (by (first | exact y_ldOn rfl rfl rfl rfl (hval k hkl) | exact y_ldK rfl rfl rfl rfl hkv (by omega) | exact y_ldK rfl rfl rfl rfl hkc (by omega) | exact y_ld rfl rfl rfl (by rfl) | exact y_ldN rfl rfl rfl (by rfl) | exact y_ldK rfl rfl rfl rfl (by assumption) (by omega) | exact y_ldI rfl rfl rfl rfl (by assumption) (by omega) (by omega))) rfl ?_
          refine d_take 11 rfl (by kernel_rfl) (by (first | exact y_fieldAddrB rfl rfl rfl rfl rfl rfl | exact y_fieldAddr rfl rfl rfl rfl rfl rfl)) rfl ?_
          refine d_take 12 rfl (by kernel_rfl) (by (first | exact y_ldOn rfl rfl rfl rfl (hval k hkl) | exact y_ldK rfl rfl rfl rfl hkv (by omega) | exact y_ldK rfl rfl rfl rfl hkc (by omega) | exact y_ld rfl rfl rfl (by rfl) | exact y_ldN rfl rfl rfl (by rfl) | exact y_ldK rfl rfl rfl rfl (by assumption) (by omega) | exact y_ldI rfl rfl rfl rfl (by assumption) (by omega) (by omega))) rfl ?_
          refine d_take 13 rfl (by kernel_rfl) (by exact y_move rfl) rfl ?_
          refine d_take 14 rfl (by kernel_rfl) (by (first | exact y_ixO rfl rfl rfl rfl rfl (by omega) (by omega) (by omega) | exact y_ixI rfl rfl rfl rfl rfl hkv rfl (by omega) (by omega) | exact y_ixI rfl rfl rfl rfl rfl hkc rfl (by omega) (by omega) | exact y_ixI rfl rfl rfl rfl rfl (by assumption) rfl (by omega) (by omega))) rfl ?_
          refine d_take 15 rfl (by kernel_rfl) (by (first | exact y_ldOn rfl rfl rfl rfl (hval k hkl) | exact y_ldK rfl rfl rfl rfl hkv (by omega) | exact y_ldK rfl rfl rfl rfl hkc (by omega) | exact y_ld rfl rfl rfl (by rfl) | exact y_ldN rfl rfl rfl (by rfl) | exact y_ldK rfl rfl rfl rfl (by assumption) (by omega) | exact y_ldI rfl rfl rfl rfl (by assumption) (by omega) (by omega))) rfl ?_
          refine d_take 16 rfl (by kernel_rfl) (by (first | exact y_fieldAddrB rfl rfl rfl rfl rfl rfl | exact y_fieldAddr rfl rfl rfl rfl rfl rfl)) rfl ?_
          refine d_take 17 rfl (by kernel_rfl) (by (first | exact y_ldOn rfl rfl rfl rfl (hval k hkl) | exact y_ldK rfl rfl rfl rfl hkv (by omega) | exact y_ldK rfl rfl rfl rfl hkc (by omega) | exact y_ld rfl rfl rfl (by rfl) | exact y_ldN rfl rfl rfl (by rfl) | exact y_ldK rfl rfl rfl rfl (by assumption) (by omega) | exact y_ldI rfl rfl rfl rfl (by assumption) (by omega) (by omega))) rfl ?_
          refine d_take 18 rfl (by kernel_rfl) (by exact y_move rfl) rfl ?_
          refine d_take 19 rfl (by kernel_rfl) (by (first | exact y_ixO rfl rfl rfl rfl rfl (by omega) (by omega) (by omega) | exact y_ixI rfl rfl rfl rfl rfl hkv rfl (by omega) (by omega) | exact y_ixI rfl rfl rfl rfl rfl hkc rfl (by omega) (by omega) | exact y_ixI rfl rfl rfl rfl rfl (by assumption) rfl (by omega) (by omega))) rfl ?_
          refine d_take 20 rfl (by kernel_rfl) (by (first | exact y_ldOn rfl rfl rfl rfl (hval k hkl) | exact y_ldK rfl rfl rfl rfl hkv (by omega) | exact y_ldK rfl rfl rfl rfl hkc (by omega) | exact y_ld rfl rfl rfl (by rfl) | exact y_ldN rfl rfl rfl (by rfl) | exact y_ldK rfl rfl rfl rfl (by assumption) (by omega) | exact y_ldI rfl rfl rfl rfl (by assumption) (by omega) (by omega))) rfl ?_
          refine d_take 21 rfl (by kernel_rfl) (by (first | exact y_eql rfl rfl | exact y_eqlB rfl rfl rfl)) rfl ?_
          refine d_effM 9 [21, 20, 19, 18, 17, 16, 15, 14, 13, 12, 11, 8, 7, 6, 5, 4, 3, 2, 1, 0] [true, true, true, true, true, true, true, true, true, true, true, false, true, true, true, true, false, true, true, true] rfl (by kernel_rfl) rfl (by kernel_rfl) (fun K hK => ?_)
          refine s_call (pre := []) (rem := _) rfl rfl tk (fun w N ho hl => at_spec w N _ _ _ _ (b.vars.getD j 0) rfl ho (rowKI hl (by repeat (first | exact List.mem_cons_self | refine List.mem_cons_of_mem _ ?_)) hkl) (by omega)) rfl ?_
          rintro e L' ⟨z2, hz2, rfl, rfl⟩
          try simp only [List.nil_append, List.cons_append, List.append_nil]
          refine s_done ?_
          refine hK _ _ (by refine rm_yd rfl (by (first | exact y_eql rfl rfl | exact y_eqlB rfl rfl rfl)) ?_; refine rm_yd rfl (by (first | exact y_ldOn rfl rfl rfl rfl (hval k hkl) | exact y_ldK rfl rfl rfl rfl hkv (by omega) | exact y_ldK rfl rfl rfl rfl hkc (by omega) | exact y_ld rfl rfl rfl (by rfl) | exact y_ldN rfl rfl rfl (by rfl) | exact y_ldK rfl rfl rfl rfl (by assumption) (by omega) | exact y_ldI rfl rfl rfl rfl (by assumption) (by omega) (by omega))) ?_; refine rm_yd rfl (by (first | exact y_ixO rfl rfl rfl rfl rfl (by omega) (by omega) (by omega) | exact y_ixI rfl rfl rfl rfl rfl hkv rfl (by omega) (by omega) | exact y_ixI rfl rfl rfl rfl rfl hkc rfl (by omega) (by omega) | exact y_ixI rfl rfl rfl rfl rfl (by assumption) rfl (by omega) (by omega))) ?_; refine rm_yd rfl (by exact y_move rfl) ?_; refine rm_yd rfl (by (first | exact y_ldOn rfl rfl rfl rfl (hval k hkl) | exact y_ldK rfl rfl rfl rfl hkv (by omega) | exact y_ldK rfl rfl rfl rfl hkc (by omega) | exact y_ld rfl rfl rfl (by rfl) | exact y_ldN rfl rfl rfl (by rfl) | exact y_ldK rfl rfl rfl rfl (by assumption) (by omega) | exact y_ldI rfl rfl rfl rfl (by assumption) (by omega) (by omega))) ?_; refine rm_yd rfl (by (first | exact y_fieldAddrB rfl rfl rfl rfl rfl rfl | exact y_fieldAddr rfl rfl rfl rfl rfl rfl)) ?_; refine rm_yd rfl (by (first | exact y_ldOn rfl rfl rfl rfl (hval k hkl) | exact y_ldK rfl rfl rfl rfl hkv (by omega) | exact y_ldK rfl rfl rfl rfl hkc (by omega) | exact y_ld rfl rfl rfl (by rfl) | exact y_ldN rfl rfl rfl (by rfl) | exact y_ldK rfl rfl rfl rfl (by assumption) (by omega) | exact y_ldI rfl rfl rfl rfl (by assumption) (by omega) (by omega))) ?_; refine rm_yd rfl (by (first | exact y_ixO rfl rfl rfl rfl rfl (by omega) (by omega) (by omega) | exact y_ixI rfl rfl rfl rfl rfl hkv rfl (by omega) (by omega) | exact y_ixI rfl rfl rfl rfl rfl hkc rfl (by omega) (by omega) | exact y_ixI rfl rfl rfl rfl rfl (by assumption) rfl (by omega) (by omega))) ?_; refine rm_yd rfl (by exact y_move rfl) ?_; refine rm_yd rfl (by (first | exact y_ldOn rfl rfl rfl rfl (hval k hkl) | exact y_ldK rfl rfl rfl rfl hkv (by omega) | exact y_ldK rfl rfl rfl rfl hkc (by omega) | exact y_ld rfl rfl rfl (by rfl) | exact y_ldN rfl rfl rfl (by rfl) | exact y_ldK rfl rfl rfl rfl (by assumption) (by omega) | exact y_ldI rfl rfl rfl rfl (by assumption) (by omega) (by omega))) ?_; refine rm_yd rfl (by (first | exact y_fieldAddrB rfl rfl rfl rfl rfl rfl | exact y_fieldAddr rfl rfl rfl rfl rfl rfl)) ?_; refine rm_skip ?_; refine rm_yd rfl (by (first | exact y_ixO rfl rfl rfl rfl rfl (by omega) (by omega) (by omega) | exact y_ixI rfl rfl rfl rfl rfl hkv rfl (by omega) (by omega) | exact y_ixI rfl rfl rfl rfl rfl hkc rfl (by omega) (by omega) | exact y_ixI rfl rfl rfl rfl rfl (by assumption) rfl (by omega) (by omega))) ?_; refine rm_yd rfl (by exact y_move rfl) ?_; refine rm_yd rfl (by (first | exact y_ldOn rfl rfl rfl rfl (hval k hkl) | exact y_ldK rfl rfl rfl rfl hkv (by omega) | exact y_ldK rfl rfl rfl rfl hkc (by omega) | exact y_ld rfl rfl rfl (by rfl) | exact y_ldN rfl rfl rfl (by rfl) | exact y_ldK rfl rfl rfl rfl (by assumption) (by omega) | exact y_ldI rfl rfl rfl rfl (by assumption) (by omega) (by omega))) ?_; refine rm_yd rfl (by (first | exact y_fieldAddrB rfl rfl rfl rfl rfl rfl | exact y_fieldAddr rfl rfl rfl rfl rfl rfl)) ?_; refine rm_skip ?_; refine rm_yd rfl (by (first | exact y_ixO rfl rfl rfl rfl rfl (by omega) (by omega) (by omega) | exact y_ixI rfl rfl rfl rfl rfl hkv rfl (by omega) (by omega) | exact y_ixI rfl rfl rfl rfl rfl hkc rfl (by omega) (by omega) | exact y_ixI rfl rfl rfl rfl rfl (by assumption) rfl (by omega) (by omega))) ?_; refine rm_yd rfl (by exact y_move rfl) ?_; refine rm_yd rfl (by exact y_move rfl) ?_; exact rm_nil) ?_
          clear hK K
          refine d_take 10 rfl (by kernel_rfl) (by exact y_geq rfl rfl) rfl ?_
          refine d_take 22 rfl (by kernel_rfl) (by (first | exact y_neq rfl rfl | exact y_neqB rfl rfl rfl)) rfl ?_
          refine d_done (by kernel_rfl) ?_
          have hz2' := at_mem hz2
          rw [hrk, hRB.mem hjl, hck] at hz2'
          have e0 : (decide (z2 ≥ 0) != decide (b.cols.getD j 0 = b.cols.getD i 0)) = false := by
            have e00 : decide (z2 ≥ 0) = decide (b.cols.getD j 0 = b.cols.getD i 0) := decide_eq_decide.2 hz2'
            rw [e00]; exact bne_self_eq_false _
          rw [e0]
          refine s_condF2 rfl (by with_reducible rfl) ?_
          refine s_skip ?_
          refine s_endb ?_
          refine s_region ?_
          refine s_q (y_move rfl) rfl ?_
          refine s_q (y_add rfl rfl (by omega)) rfl ?_
          refine s_q (y_assign rfl) rfl ?_
          refine s_done ?_
          refine s_inv (j + 1) (by (try dsimp only); omega) (by (try dsimp only); omega) ⟨rfl, rfl, rfl, rfl, rfl, rfl, rfl, rfl, trivial⟩ tk
        · refine s_exit rfl ?_
          refine s_endb ?_
          refine s_region ?_
          refine s_q (y_move rfl) rfl ?_
          refine s_q (y_add rfl rfl (by omega)) rfl ?_
          refine s_q (y_assign rfl) rfl ?_
          refine s_done ?_
          refine s_inv (k + 1) (by (try dsimp only); omega) (by (try dsimp only); omega) ⟨rfl, rfl, rfl, rfl, rfl, rfl, rfl, trivial⟩ tk
    · have hkl : k = rs.length := by omega
      rw [List.take_of_length_le (l := colL b) (by omega), (colL_nodup b).count]
      have hmem := hRB.colL (b.cols.getD i 0)
      have hcol := hRB.col _ (getD_mem 0 (l := b.cols) (k := i) (by omega))
      have hps := posL_succ b i
      have hpb : (posL b i).length ≤ i := by rw [posL]; exact Nat.le_trans (List.length_filter_le _ _) (by simp)
      refine s_exit rfl ?_
      refine s_seq ?_
      refine s_joinV (σ := Unit) (fun s => [(5, .int .i64 (posL b (i + 1)).length)]) [] (fun s => []) (fun s => True) [(1, _), (3, _), (4, _), (6, _), (7, _)] ⟨rfl, rfl, rfl, rfl, rfl, trivial⟩ tk (fun k' hr => ?_) ?_
      · refine s_seq ?_
        refine s_region ?_
        refine s_q (by (first | exact y_fieldAddrB rfl rfl rfl rfl rfl rfl | exact y_fieldAddr rfl rfl rfl rfl rfl rfl)) rfl ?_
        refine s_q (by (first | exact y_ldK rfl rfl rfl rfl hkc (by omega) | exact y_ld rfl rfl rfl (by rfl) | exact y_ldN rfl rfl rfl (by rfl) | exact y_ldK rfl rfl rfl rfl (by assumption) (by omega) | exact y_ldI rfl rfl rfl rfl (by assumption) (by omega) (by omega))) rfl ?_
        refine s_q (y_move rfl) rfl ?_
        refine s_q (by (first | exact y_ixI rfl rfl rfl rfl rfl hkc rfl (by omega) (by omega) | exact y_ixI rfl rfl rfl rfl rfl (by assumption) rfl (by omega) (by omega))) rfl ?_
        refine s_q (by (first | exact y_ldK rfl rfl rfl rfl hkc (by omega) | exact y_ld rfl rfl rfl (by rfl) | exact y_ldN rfl rfl rfl (by rfl) | exact y_ldK rfl rfl rfl rfl (by assumption) (by omega) | exact y_ldI rfl rfl rfl rfl (by assumption) (by omega) (by omega))) rfl ?_
        refine s_q (y_geq rfl rfl) rfl ?_
        refine s_done ?_
        refine s_cond rfl (fun h5 => ?_) (fun h5 => ?_)
        · rw [if_pos (by omega)] at hps
          refine s_region ?_
          refine s_q (y_move rfl) rfl ?_
          refine s_q (y_add rfl rfl (by omega)) rfl ?_
          refine s_q (y_assign rfl) rfl ?_
          refine s_done ?_
          rw [show ((posL b i).length : Int) + 1 = (posL b (i + 1)).length by omega]
          have hr' := hr () trivial
          try dsimp only [List.cons_append, List.nil_append, List.append_nil] at hr'
          exact J.to hr' ⟨rfl, rfl, rfl, rfl, rfl, rfl, trivial⟩ tk
        · rw [if_neg (by omega)] at hps
          refine s_skip ?_
          rw [show ((posL b i).length : Int) = (posL b (i + 1)).length by omega]
          have hr' := hr () trivial
          try dsimp only [List.cons_append, List.nil_append, List.append_nil] at hr'
          exact J.to hr' ⟨rfl, rfl, rfl, rfl, rfl, rfl, trivial⟩ tk
      rintro - -
      dsimp only [List.cons_append, List.nil_append]
      have hkm := mem_kept1 hr (b.vars.getD i 0)
      have hkm : b.vars.getD i 0 ∈ keptL [b] ↔ 0 ≤ b.cols.getD i 0 := hkm.trans ⟨fun ⟨j, h1, h2, h3⟩ => by
        by_cases e : j = i
        · subst e; exact h3
        · exact absurd h2 (risB_ne hRB.ris h1 hil e), fun h => ⟨i, hil, rfl, h⟩⟩
      obtain ⟨q, hq⟩ : ∃ q : Int, ((if b.cols.getD i 0 ∈ colL b then 1 else 0 : Nat) : Int) = q := ⟨_, rfl⟩
      have hq1 : 0 ≤ b.cols.getD i 0 → q = 1 := fun h => by rw [← hq, if_pos (hmem.2 ⟨h, i, hil, rfl⟩)]; rfl
      have hq0 : b.cols.getD i 0 < 0 → q = 0 := fun h => by rw [← hq, if_neg (fun x => by have := (hmem.1 x).1; omega)]; rfl
      rw [hq]
      refine s_seq ?_
      refine s_joinV (σ := Bool) (fun s => [(139, .bool s)]) [] (fun s => []) (fun s => (s = false)) [(1, _), (3, _), (4, _), (5, _), (6, _)] ⟨rfl, rfl, rfl, rfl, rfl, trivial⟩ tk (fun k' hr => ?_) ?_
      · refine d_start ?_
        refine d_take 0 rfl (by kernel_rfl) (y_move rfl) rfl ?_
        refine d_take 1 rfl (by kernel_rfl) (by (first | exact y_neq rfl rfl | exact y_neqB rfl rfl rfl)) rfl ?_
        refine d_take 2 rfl (by kernel_rfl) (y_move rfl) rfl ?_
        first | refine d_split (t := 102) rfl (fun c1 => ?_) (fun c1 => ?_) | refine d_splitb (t := 102) rfl (fun c1 => ?_) (fun c1 => ?_)
        · skip
          first | refine d_known (t := 103) (b := true) rfl (decide_eq_true c1) ?_ | refine d_known (t := 103) (b := true) rfl c1 ?_
          refine d_takeG 3 rfl (by kernel_rfl) rfl rfl (by (first | exact y_fieldAddrB rfl rfl rfl rfl rfl rfl | exact y_fieldAddr rfl rfl rfl rfl rfl rfl)) rfl ?_
          refine d_takeG 4 rfl (by kernel_rfl) rfl rfl (by (first | exact y_ldK rfl rfl rfl rfl hkc (by omega) | exact y_ldK rfl rfl rfl rfl hkv (by omega) | exact y_ld rfl rfl rfl (by rfl) | exact y_ldN rfl rfl rfl (by rfl) | exact y_ldK rfl rfl rfl rfl (by assumption) (by omega) | exact y_ldI rfl rfl rfl rfl (by assumption) (by omega) (by omega))) rfl ?_
          refine d_takeG 5 rfl (by kernel_rfl) rfl rfl (y_move rfl) rfl ?_
          refine d_takeG 6 rfl (by kernel_rfl) rfl rfl (by (first | exact y_ixI rfl rfl rfl rfl rfl hkc rfl (by omega) (by omega) | exact y_ixI rfl rfl rfl rfl rfl hkv rfl (by omega) (by omega) | exact y_ixI rfl rfl rfl rfl rfl (by assumption) rfl (by omega) (by omega))) rfl ?_
          refine d_takeG 7 rfl (by kernel_rfl) rfl rfl (by (first | exact y_ldK rfl rfl rfl rfl hkc (by omega) | exact y_ldK rfl rfl rfl rfl hkv (by omega) | exact y_ld rfl rfl rfl (by rfl) | exact y_ldN rfl rfl rfl (by rfl) | exact y_ldK rfl rfl rfl rfl (by assumption) (by omega) | exact y_ldI rfl rfl rfl rfl (by assumption) (by omega) (by omega))) rfl ?_
          refine d_takeG 8 rfl (by kernel_rfl) rfl rfl (y_geq rfl rfl) rfl ?_
          refine d_take 9 rfl (by kernel_rfl) (y_pickT rfl rfl) rfl ?_
          refine d_take 10 rfl (by kernel_rfl) (y_move rfl) rfl ?_
          first | refine d_split (t := 109) rfl (fun c2 => ?_) (fun c2 => ?_) | refine d_splitb (t := 109) rfl (fun c2 => ?_) (fun c2 => ?_)
          · skip
            first | refine d_known (t := 111) (b := true) rfl (decide_eq_true c2) ?_ | refine d_known (t := 111) (b := true) rfl c2 ?_
            refine d_skip 11 rfl (by kernel_rfl) (fun c e => by cases e) rfl rfl rfl rfl ?_
            refine d_skip 12 rfl (by kernel_rfl) (fun c e => by cases e) rfl rfl rfl rfl ?_
            refine d_skip 13 rfl (by kernel_rfl) (fun c e => by cases e) rfl rfl rfl rfl ?_
            refine d_skipU 14 rfl (by kernel_rfl) (fun c e => by cases e) rfl rfl rfl ?_
            refine d_skipU 15 rfl (by kernel_rfl) (fun c e => by cases e) rfl rfl rfl ?_
            refine d_skipU 16 rfl (by kernel_rfl) (fun c e => by cases e) rfl rfl rfl ?_
            refine d_skipU 17 rfl (by kernel_rfl) (fun c e => by cases e) rfl rfl rfl ?_
            refine d_skipU 18 rfl (by kernel_rfl) (fun c e => by cases e) rfl rfl rfl ?_
            refine d_skipU 19 rfl (by kernel_rfl) (fun c e => by cases e) rfl rfl rfl ?_
            refine d_skip 20 rfl (by kernel_rfl) (fun c e => by cases e) rfl rfl rfl rfl ?_
            refine d_take 21 rfl (by kernel_rfl) (y_pickT rfl rfl) rfl ?_
            refine d_take 22 rfl (by kernel_rfl) (y_move rfl) rfl ?_
            refine d_skip 23 rfl (by kernel_rfl) (fun c e => by cases e) rfl rfl rfl rfl ?_
            refine d_skip 24 rfl (by kernel_rfl) (fun c e => by cases e) rfl rfl rfl rfl ?_
            refine d_skip 25 rfl (by kernel_rfl) (fun c e => by cases e) rfl rfl rfl rfl ?_
            refine d_skip 26 rfl (by kernel_rfl) (fun c e => by cases e) rfl rfl rfl rfl ?_
            refine d_skip 27 rfl (by kernel_rfl) (fun c e => by cases e) rfl rfl rfl rfl ?_
            refine d_skip 28 rfl (by kernel_rfl) (fun c e => by cases e) rfl rfl rfl rfl ?_
            refine d_skip 31 rfl (by kernel_rfl) (fun c e => by cases e) rfl rfl rfl rfl ?_
            refine d_skip 32 rfl (by kernel_rfl) (fun c e => by cases e) rfl rfl rfl rfl ?_
            refine d_skip 33 rfl (by kernel_rfl) (fun c e => by cases e) rfl rfl rfl rfl ?_
            refine d_skip 34 rfl (by kernel_rfl) (fun c e => by cases e) rfl rfl rfl rfl ?_
            refine d_skip 35 rfl (by kernel_rfl) (fun c e => by cases e) rfl rfl rfl rfl ?_
            refine d_skip 36 rfl (by kernel_rfl) (fun c e => by cases e) rfl rfl rfl rfl ?_
            refine d_skip 29 rfl (by kernel_rfl) (fun c e => by cases e) rfl rfl rfl rfl ?_
            refine d_skip 30 rfl (by kernel_rfl) (fun c e => by cases e) rfl rfl rfl rfl ?_
            refine d_skip 37 rfl (by kernel_rfl) (fun c e => by cases e) rfl rfl rfl rfl ?_
            refine d_take 38 rfl (by kernel_rfl) (y_pickT rfl rfl) rfl ?_
            refine d_done (by kernel_rfl) ?_
            have hr' := hr true (by grind)
            try dsimp only [List.cons_append, List.nil_append, List.append_nil] at hr'
            exact J.to hr' ⟨rfl, rfl, rfl, rfl, rfl, rfl, trivial⟩ tk
          first | refine d_known (t := 111) (b := false) rfl (decide_eq_false c2) ?_ | refine d_known (t := 111) (b := false) rfl c2 ?_
          refine d_takeG 11 rfl (by kernel_rfl) rfl rfl (y_move rfl) rfl ?_
          refine d_takeG 12 rfl (by kernel_rfl) rfl rfl (by (first | exact y_neq rfl rfl | exact y_neqB rfl rfl rfl)) rfl ?_
          refine d_takeG 13 rfl (by kernel_rfl) rfl rfl (y_move rfl) rfl ?_
          first | refine d_split (t := 113) rfl (fun c3 => ?_) (fun c3 => ?_) | refine d_splitb (t := 113) rfl (fun c3 => ?_) (fun c3 => ?_)
          · skip
            first | refine d_known (t := 114) (b := true) rfl (decide_eq_true c3) ?_ | refine d_known (t := 114) (b := true) rfl c3 ?_
            refine d_takeG 14 rfl (by kernel_rfl) rfl rfl (by (first | exact y_fieldAddrB rfl rfl rfl rfl rfl rfl | exact y_fieldAddr rfl rfl rfl rfl rfl rfl)) rfl ?_
            refine d_takeG 15 rfl (by kernel_rfl) rfl rfl (by (first | exact y_ldK rfl rfl rfl rfl hkc (by omega) | exact y_ldK rfl rfl rfl rfl hkv (by omega) | exact y_ld rfl rfl rfl (by rfl) | exact y_ldN rfl rfl rfl (by rfl) | exact y_ldK rfl rfl rfl rfl (by assumption) (by omega) | exact y_ldI rfl rfl rfl rfl (by assumption) (by omega) (by omega))) rfl ?_
            refine d_takeG 16 rfl (by kernel_rfl) rfl rfl (y_move rfl) rfl ?_
            refine d_takeG 17 rfl (by kernel_rfl) rfl rfl (by (first | exact y_ixI rfl rfl rfl rfl rfl hkc rfl (by omega) (by omega) | exact y_ixI rfl rfl rfl rfl rfl hkv rfl (by omega) (by omega) | exact y_ixI rfl rfl rfl rfl rfl (by assumption) rfl (by omega) (by omega))) rfl ?_
            refine d_takeG 18 rfl (by kernel_rfl) rfl rfl (by (first | exact y_ldK rfl rfl rfl rfl hkc (by omega) | exact y_ldK rfl rfl rfl rfl hkv (by omega) | exact y_ld rfl rfl rfl (by rfl) | exact y_ldN rfl rfl rfl (by rfl) | exact y_ldK rfl rfl rfl rfl (by assumption) (by omega) | exact y_ldI rfl rfl rfl rfl (by assumption) (by omega) (by omega))) rfl ?_
            refine d_takeG 19 rfl (by kernel_rfl) rfl rfl (y_lss rfl rfl) rfl ?_
            refine d_takeG 20 rfl (by kernel_rfl) rfl rfl (y_pickT rfl rfl) rfl ?_
            refine d_take 21 rfl (by kernel_rfl) (y_pickF rfl rfl) rfl ?_
            refine d_take 22 rfl (by kernel_rfl) (y_move rfl) rfl ?_
            first | refine d_split (t := 120) rfl (fun c4 => ?_) (fun c4 => ?_) | refine d_splitb (t := 120) rfl (fun c4 => ?_) (fun c4 => ?_)
            · skip
              first | refine d_known (t := 123) (b := true) rfl (decide_eq_true c4) ?_ | refine d_known (t := 123) (b := true) rfl c4 ?_
              refine d_skip 23 rfl (by kernel_rfl) (fun c e => by cases e) rfl rfl rfl rfl ?_
              refine d_skip 24 rfl (by kernel_rfl) (fun c e => by cases e) rfl rfl rfl rfl ?_
              refine d_skip 25 rfl (by kernel_rfl) (fun c e => by cases e) rfl rfl rfl rfl ?_
              refine d_skip 26 rfl (by kernel_rfl) (fun c e => by cases e) rfl rfl rfl rfl ?_
              refine d_skip 27 rfl (by kernel_rfl) (fun c e => by cases e) rfl rfl rfl rfl ?_
              refine d_skip 28 rfl (by kernel_rfl) (fun c e => by cases e) rfl rfl rfl rfl ?_
              refine d_skip 31 rfl (by kernel_rfl) (fun c e => by cases e) rfl rfl rfl rfl ?_
              refine d_skip 32 rfl (by kernel_rfl) (fun c e => by cases e) rfl rfl rfl rfl ?_
              refine d_skip 33 rfl (by kernel_rfl) (fun c e => by cases e) rfl rfl rfl rfl ?_
              refine d_skip 34 rfl (by kernel_rfl) (fun c e => by cases e) rfl rfl rfl rfl ?_
              refine d_skip 35 rfl (by kernel_rfl) (fun c e => by cases e) rfl rfl rfl rfl ?_
              refine d_skip 36 rfl (by kernel_rfl) (fun c e => by cases e) rfl rfl rfl rfl ?_
              refine d_skip 29 rfl (by kernel_rfl) (fun c e => by cases e) rfl rfl rfl rfl ?_
              refine d_skip 30 rfl (by kernel_rfl) (fun c e => by cases e) rfl rfl rfl rfl ?_
              refine d_skip 37 rfl (by kernel_rfl) (fun c e => by cases e) rfl rfl rfl rfl ?_
              refine d_take 38 rfl (by kernel_rfl) (y_pickT rfl rfl) rfl ?_
              refine d_done (by kernel_rfl) ?_
              have hr' := hr true (by grind)
              try dsimp only [List.cons_append, List.nil_append, List.append_nil] at hr'
              exact J.to hr' ⟨rfl, rfl, rfl, rfl, rfl, rfl, trivial⟩ tk
            first | refine d_known (t := 123) (b := false) rfl (decide_eq_false c4) ?_ | refine d_known (t := 123) (b := false) rfl c4 ?_
            refine d_takeG 23 rfl (by kernel_rfl) rfl rfl (y_move rfl) rfl ?_
            refine d_takeG 24 rfl (by kernel_rfl) rfl rfl (by (first | exact y_fieldAddrB rfl rfl rfl rfl rfl rfl | exact y_fieldAddr rfl rfl rfl rfl rfl rfl)) rfl ?_
            refine d_takeG 25 rfl (by kernel_rfl) rfl rfl (by (first | exact y_ldK rfl rfl rfl rfl hkc (by omega) | exact y_ldK rfl rfl rfl rfl hkv (by omega) | exact y_ld rfl rfl rfl (by rfl) | exact y_ldN rfl rfl rfl (by rfl) | exact y_ldK rfl rfl rfl rfl (by assumption) (by omega) | exact y_ldI rfl rfl rfl rfl (by assumption) (by omega) (by omega))) rfl ?_
            refine d_takeG 26 rfl (by kernel_rfl) rfl rfl (y_move rfl) rfl ?_
            refine d_takeG 27 rfl (by kernel_rfl) rfl rfl (by (first | exact y_ixI rfl rfl rfl rfl rfl hkc rfl (by omega) (by omega) | exact y_ixI rfl rfl rfl rfl rfl hkv rfl (by omega) (by omega) | exact y_ixI rfl rfl rfl rfl rfl (by assumption) rfl (by omega) (by omega))) rfl ?_
            refine d_takeG 28 rfl (by kernel_rfl) rfl rfl (by (first | exact y_ldK rfl rfl rfl rfl hkc (by omega) | exact y_ldK rfl rfl rfl rfl hkv (by omega) | exact y_ld rfl rfl rfl (by rfl) | exact y_ldN rfl rfl rfl (by rfl) | exact y_ldK rfl rfl rfl rfl (by assumption) (by omega) | exact y_ldI rfl rfl rfl rfl (by assumption) (by omega) (by omega))) rfl ?_
            refine d_takeG 31 rfl (by kernel_rfl) rfl rfl (by (first | exact y_fieldAddrB rfl rfl rfl rfl rfl rfl | exact y_fieldAddr rfl rfl rfl rfl rfl rfl)) rfl ?_
            refine d_takeG 32 rfl (by kernel_rfl) rfl rfl (by (first | exact y_ldK rfl rfl rfl rfl hkc (by omega) | exact y_ldK rfl rfl rfl rfl hkv (by omega) | exact y_ld rfl rfl rfl (by rfl) | exact y_ldN rfl rfl rfl (by rfl) | exact y_ldK rfl rfl rfl rfl (by assumption) (by omega) | exact y_ldI rfl rfl rfl rfl (by assumption) (by omega) (by omega))) rfl ?_
            refine d_takeG 33 rfl (by kernel_rfl) rfl rfl (y_move rfl) rfl ?_
            refine d_takeG 34 rfl (by kernel_rfl) rfl rfl (by (first | exact y_ixI rfl rfl rfl rfl rfl hkc rfl (by omega) (by omega) | exact y_ixI rfl rfl rfl rfl rfl hkv rfl (by omega) (by omega) | exact y_ixI rfl rfl rfl rfl rfl (by assumption) rfl (by omega) (by omega))) rfl ?_
            refine d_takeG 35 rfl (by kernel_rfl) rfl rfl (by (first | exact y_ldK rfl rfl rfl rfl hkc (by omega) | exact y_ldK rfl rfl rfl rfl hkv (by omega) | exact y_ld rfl rfl rfl (by rfl) | exact y_ldN rfl rfl rfl (by rfl) | exact y_ldK rfl rfl rfl rfl (by assumption) (by omega) | exact y_ldI rfl rfl rfl rfl (by assumption) (by omega) (by omega))) rfl ?_
            refine d_takeG 36 rfl (by kernel_rfl) rfl rfl (y_geq rfl rfl) rfl ?_
            refine d_effM 29 [36, 35, 34, 33, 32, 31, 28, 27, 26, 25, 24, 23, 22, 21, 20, 19, 18, 17, 16, 15, 14, 13, 12, 11, 10, 9, 8, 7, 6, 5, 4, 3, 2, 1, 0] [true, true, true, true, true, true, false, true, true, true, true, false, false, true, true, true, true, true, true, true, true, true, true, true, true, true, true, true, true, true, true, true, true, true, true] rfl (by kernel_rfl) rfl (by kernel_rfl) (fun K hK => ?_)
            refine s_guard rfl rfl ?_
            refine s_call (pre := []) (rem := _) rfl rfl tk (fun w N ho hl => at_spec w N _ _ _ _ (b.vars.getD i 0) rfl ho (KI.ofS hl (by repeat (first | exact List.mem_cons_self | refine List.mem_cons_of_mem _ ?_))) (by omega)) rfl ?_
            rintro e L' ⟨z3, hz3, rfl, rfl⟩
            try simp only [List.nil_append, List.cons_append, List.append_nil]
            have hz3' := at_mem hz3
            refine s_done ?_
            refine hK _ _ (by refine rm_yd rfl (by exact y_geq rfl rfl) ?_; refine rm_yd rfl (by (first | exact y_ldK rfl rfl rfl rfl hkc (by omega) | exact y_ldK rfl rfl rfl rfl hkv (by omega) | exact y_ld rfl rfl rfl (by rfl) | exact y_ldN rfl rfl rfl (by rfl) | exact y_ldK rfl rfl rfl rfl (by assumption) (by omega) | exact y_ldI rfl rfl rfl rfl (by assumption) (by omega) (by omega))) ?_; refine rm_yd rfl (by (first | exact y_ixI rfl rfl rfl rfl rfl hkc rfl (by omega) (by omega) | exact y_ixI rfl rfl rfl rfl rfl hkv rfl (by omega) (by omega) | exact y_ixI rfl rfl rfl rfl rfl (by assumption) rfl (by omega) (by omega))) ?_; refine rm_yd rfl (by exact y_move rfl) ?_; refine rm_yd rfl (by (first | exact y_ldK rfl rfl rfl rfl hkc (by omega) | exact y_ldK rfl rfl rfl rfl hkv (by omega) | exact y_ld rfl rfl rfl (by rfl) | exact y_ldN rfl rfl rfl (by rfl) | exact y_ldK rfl rfl rfl rfl (by assumption) (by omega) | exact y_ldI rfl rfl rfl rfl (by assumption) (by omega) (by omega))) ?_; refine rm_yd rfl (by (first | exact y_fieldAddrB rfl rfl rfl rfl rfl rfl | exact y_fieldAddr rfl rfl rfl rfl rfl rfl)) ?_; refine rm_skip ?_; refine rm_yd rfl (by (first | exact y_ixI rfl rfl rfl rfl rfl hkc rfl (by omega) (by omega) | exact y_ixI rfl rfl rfl rfl rfl hkv rfl (by omega) (by omega) | exact y_ixI rfl rfl rfl rfl rfl (by assumption) rfl (by omega) (by omega))) ?_; refine rm_yd rfl (by exact y_move rfl) ?_; refine rm_yd rfl (by (first | exact y_ldK rfl rfl rfl rfl hkc (by omega) | exact y_ldK rfl rfl rfl rfl hkv (by omega) | exact y_ld rfl rfl rfl (by rfl) | exact y_ldN rfl rfl rfl (by rfl) | exact y_ldK rfl rfl rfl rfl (by assumption) (by omega) | exact y_ldI rfl rfl rfl rfl (by assumption) (by omega) (by omega))) ?_; refine rm_yd rfl (by (first | exact y_fieldAddrB rfl rfl rfl rfl rfl rfl | exact y_fieldAddr rfl rfl rfl rfl rfl rfl)) ?_; refine rm_skip ?_; refine rm_skip ?_; refine rm_yd rfl (by (first | exact y_pickT rfl rfl | exact y_pickF rfl rfl)) ?_; refine rm_yd rfl (by (first | exact y_pickT rfl rfl | exact y_pickF rfl rfl)) ?_; refine rm_yd rfl (by exact y_lss rfl rfl) ?_; refine rm_yd rfl (by (first | exact y_ldK rfl rfl rfl rfl hkc (by omega) | exact y_ldK rfl rfl rfl rfl hkv (by omega) | exact y_ld rfl rfl rfl (by rfl) | exact y_ldN rfl rfl rfl (by rfl) | exact y_ldK rfl rfl rfl rfl (by assumption) (by omega) | exact y_ldI rfl rfl rfl rfl (by assumption) (by omega) (by omega))) ?_; refine rm_yd rfl (by (first | exact y_ixI rfl rfl rfl rfl rfl hkc rfl (by omega) (by omega) | exact y_ixI rfl rfl rfl rfl rfl hkv rfl (by omega) (by omega) | exact y_ixI rfl rfl rfl rfl rfl (by assumption) rfl (by omega) (by omega))) ?_; refine rm_yd rfl (by exact y_move rfl) ?_; refine rm_yd rfl (by (first | exact y_ldK rfl rfl rfl rfl hkc (by omega) | exact y_ldK rfl rfl rfl rfl hkv (by omega) | exact y_ld rfl rfl rfl (by rfl) | exact y_ldN rfl rfl rfl (by rfl) | exact y_ldK rfl rfl rfl rfl (by assumption) (by omega) | exact y_ldI rfl rfl rfl rfl (by assumption) (by omega) (by omega))) ?_; refine rm_yd rfl (by (first | exact y_fieldAddrB rfl rfl rfl rfl rfl rfl | exact y_fieldAddr rfl rfl rfl rfl rfl rfl)) ?_; refine rm_yd rfl (by exact y_move rfl) ?_; refine rm_yd rfl (by (first | exact y_neq rfl rfl | exact y_neqB rfl rfl rfl)) ?_; refine rm_yd rfl (by exact y_move rfl) ?_; refine rm_yd rfl (by exact y_move rfl) ?_; refine rm_yd rfl (by (first | exact y_pickT rfl rfl | exact y_pickF rfl rfl)) ?_; refine rm_yd rfl (by exact y_geq rfl rfl) ?_; refine rm_yd rfl (by (first | exact y_ldK rfl rfl rfl rfl hkc (by omega) | exact y_ldK rfl rfl rfl rfl hkv (by omega) | exact y_ld rfl rfl rfl (by rfl) | exact y_ldN rfl rfl rfl (by rfl) | exact y_ldK rfl rfl rfl rfl (by assumption) (by omega) | exact y_ldI rfl rfl rfl rfl (by assumption) (by omega) (by omega))) ?_; refine rm_yd rfl (by (first | exact y_ixI rfl rfl rfl rfl rfl hkc rfl (by omega) (by omega) | exact y_ixI rfl rfl rfl rfl rfl hkv rfl (by omega) (by omega) | exact y_ixI rfl rfl rfl rfl rfl (by assumption) rfl (by omega) (by omega))) ?_; refine rm_yd rfl (by exact y_move rfl) ?_; refine rm_yd rfl (by (first | exact y_ldK rfl rfl rfl rfl hkc (by omega) | exact y_ldK rfl rfl rfl rfl hkv (by omega) | exact y_ld rfl rfl rfl (by rfl) | exact y_ldN rfl rfl rfl (by rfl) | exact y_ldK rfl rfl rfl rfl (by assumption) (by omega) | exact y_ldI rfl rfl rfl rfl (by assumption) (by omega) (by omega))) ?_; refine rm_yd rfl (by (first | exact y_fieldAddrB rfl rfl rfl rfl rfl rfl | exact y_fieldAddr rfl rfl rfl rfl rfl rfl)) ?_; refine rm_yd rfl (by exact y_move rfl) ?_; refine rm_yd rfl (by (first | exact y_neq rfl rfl | exact y_neqB rfl rfl rfl)) ?_; refine rm_yd rfl (by exact y_move rfl) ?_; exact rm_nil) ?_
            clear hK K
            refine d_takeG 30 rfl (by kernel_rfl) rfl rfl (y_geq rfl rfl) rfl ?_
            refine d_takeG 37 rfl (by kernel_rfl) rfl rfl (by (first | exact y_neq rfl rfl | exact y_neqB rfl rfl rfl)) rfl ?_
            refine d_take 38 rfl (by kernel_rfl) (y_pickF rfl rfl) rfl ?_
            refine d_done (by kernel_rfl) ?_
            first | refine J.split (t := 138) rfl (fun c5 => ?_) (fun c5 => ?_) | refine J.splitb (t := 138) rfl (fun c5 => ?_) (fun c5 => ?_)
            · skip
              first | refine J.known (t := 139) (b := true) rfl (decide_eq_true c5) ?_ | refine J.known (t := 139) (b := true) rfl c5 ?_
              have hr' := hr true (by grind)
              try dsimp only [List.cons_append, List.nil_append, List.append_nil] at hr'
              exact J.to hr' ⟨rfl, rfl, rfl, rfl, rfl, rfl, trivial⟩ tk
            first | refine J.known (t := 139) (b := false) rfl (decide_eq_false c5) ?_ | refine J.known (t := 139) (b := false) rfl c5 ?_
            have hr' := hr false (by grind)
            try dsimp only [List.cons_append, List.nil_append, List.append_nil] at hr'
            exact J.to hr' ⟨rfl, rfl, rfl, rfl, rfl, rfl, trivial⟩ tk
          first | refine d_known (t := 114) (b := false) rfl (decide_eq_false c3) ?_ | refine d_known (t := 114) (b := false) rfl c3 ?_
          refine d_skip 14 rfl (by kernel_rfl) (fun c e => by cases e) rfl rfl rfl rfl ?_
          refine d_skip 15 rfl (by kernel_rfl) (fun c e => by cases e) rfl rfl rfl rfl ?_
          refine d_skip 16 rfl (by kernel_rfl) (fun c e => by cases e) rfl rfl rfl rfl ?_
          refine d_skip 17 rfl (by kernel_rfl) (fun c e => by cases e) rfl rfl rfl rfl ?_
          refine d_skip 18 rfl (by kernel_rfl) (fun c e => by cases e) rfl rfl rfl rfl ?_
          refine d_skip 19 rfl (by kernel_rfl) (fun c e => by cases e) rfl rfl rfl rfl ?_
          refine d_takeG 20 rfl (by kernel_rfl) rfl rfl (y_pickF rfl rfl) rfl ?_
          refine d_take 21 rfl (by kernel_rfl) (y_pickF rfl rfl) rfl ?_
          refine d_take 22 rfl (by kernel_rfl) (y_move rfl) rfl ?_
          refine d_takeG 23 rfl (by kernel_rfl) rfl rfl (y_move rfl) rfl ?_
          refine d_takeG 24 rfl (by kernel_rfl) rfl rfl (by (first | exact y_fieldAddrB rfl rfl rfl rfl rfl rfl | exact y_fieldAddr rfl rfl rfl rfl rfl rfl)) rfl ?_
          refine d_takeG 25 rfl (by kernel_rfl) rfl rfl (by (first | exact y_ldK rfl rfl rfl rfl hkc (by omega) | exact y_ldK rfl rfl rfl rfl hkv (by omega) | exact y_ld rfl rfl rfl (by rfl) | exact y_ldN rfl rfl rfl (by rfl) | exact y_ldK rfl rfl rfl rfl (by assumption) (by omega) | exact y_ldI rfl rfl rfl rfl (by assumption) (by omega) (by omega))) rfl ?_
          refine d_takeG 26 rfl (by kernel_rfl) rfl rfl (y_move rfl) rfl ?_
          refine d_takeG 27 rfl (by kernel_rfl) rfl rfl (by (first | exact y_ixI rfl rfl rfl rfl rfl hkc rfl (by omega) (by omega) | exact y_ixI rfl rfl rfl rfl rfl hkv rfl (by omega) (by omega) | exact y_ixI rfl rfl rfl rfl rfl (by assumption) rfl (by omega) (by omega))) rfl ?_
          refine d_takeG 28 rfl (by kernel_rfl) rfl rfl (by (first | exact y_ldK rfl rfl rfl rfl hkc (by omega) | exact y_ldK rfl rfl rfl rfl hkv (by omega) | exact y_ld rfl rfl rfl (by rfl) | exact y_ldN rfl rfl rfl (by rfl) | exact y_ldK rfl rfl rfl rfl (by assumption) (by omega) | exact y_ldI rfl rfl rfl rfl (by assumption) (by omega) (by omega))) rfl ?_
          refine d_takeG 31 rfl (by kernel_rfl) rfl rfl (by (first | exact y_fieldAddrB rfl rfl rfl rfl rfl rfl | exact y_fieldAddr rfl rfl rfl rfl rfl rfl)) rfl ?_
          refine d_takeG 32 rfl (by kernel_rfl) rfl rfl (by (first | exact y_ldK rfl rfl rfl rfl hkc (by omega) | exact y_ldK rfl rfl rfl rfl hkv (by omega) | exact y_ld rfl rfl rfl (by rfl) | exact y_ldN rfl rfl rfl (by rfl) | exact y_ldK rfl rfl rfl rfl (by assumption) (by omega) | exact y_ldI rfl rfl rfl rfl (by assumption) (by omega) (by omega))) rfl ?_
          refine d_takeG 33 rfl (by kernel_rfl) rfl rfl (y_move rfl) rfl ?_
          refine d_takeG 34 rfl (by kernel_rfl) rfl rfl (by (first | exact y_ixI rfl rfl rfl rfl rfl hkc rfl (by omega) (by omega) | exact y_ixI rfl rfl rfl rfl rfl hkv rfl (by omega) (by omega) | exact y_ixI rfl rfl rfl rfl rfl (by assumption) rfl (by omega) (by omega))) rfl ?_
          refine d_takeG 35 rfl (by kernel_rfl) rfl rfl (by (first | exact y_ldK rfl rfl rfl rfl hkc (by omega) | exact y_ldK rfl rfl rfl rfl hkv (by omega) | exact y_ld rfl rfl rfl (by rfl) | exact y_ldN rfl rfl rfl (by rfl) | exact y_ldK rfl rfl rfl rfl (by assumption) (by omega) | exact y_ldI rfl rfl rfl rfl (by assumption) (by omega) (by omega))) rfl ?_
          refine d_takeG 36 rfl (by kernel_rfl) rfl rfl (y_geq rfl rfl) rfl ?_
          refine d_effM 29 [36, 35, 34, 33, 32, 31, 28, 27, 26, 25, 24, 23, 22, 21, 20, 13, 12, 11, 10, 9, 8, 7, 6, 5, 4, 3, 2, 1, 0] [true, true, true, true, true, true, false, true, true, true, true, false, false, true, true, true, true, true, true, true, true, true, true, true, true, true, true, true, true] rfl (by kernel_rfl) rfl (by kernel_rfl) (fun K hK => ?_)
          refine s_guard rfl rfl ?_
          refine s_call (pre := []) (rem := _) rfl rfl tk (fun w N ho hl => at_spec w N _ _ _ _ (b.vars.getD i 0) rfl ho (KI.ofS hl (by repeat (first | exact List.mem_cons_self | refine List.mem_cons_of_mem _ ?_))) (by omega)) rfl ?_
          rintro e L' ⟨z3, hz3, rfl, rfl⟩
          try simp only [List.nil_append, List.cons_append, List.append_nil]
          have hz3' := at_mem hz3
          refine s_done ?_
          refine hK _ _ (by refine rm_yd rfl (by exact y_geq rfl rfl) ?_; refine rm_yd rfl (by (first | exact y_ldK rfl rfl rfl rfl hkc (by omega) | exact y_ldK rfl rfl rfl rfl hkv (by omega) | exact y_ld rfl rfl rfl (by rfl) | exact y_ldN rfl rfl rfl (by rfl) | exact y_ldK rfl rfl rfl rfl (by assumption) (by omega) | exact y_ldI rfl rfl rfl rfl (by assumption) (by omega) (by omega))) ?_; refine rm_yd rfl (by (first | exact y_ixI rfl rfl rfl rfl rfl hkc rfl (by omega) (by omega) | exact y_ixI rfl rfl rfl rfl rfl hkv rfl (by omega) (by omega) | exact y_ixI rfl rfl rfl rfl rfl (by assumption) rfl (by omega) (by omega))) ?_; refine rm_yd rfl (by exact y_move rfl) ?_; refine rm_yd rfl (by (first | exact y_ldK rfl rfl rfl rfl hkc (by omega) | exact y_ldK rfl rfl rfl rfl hkv (by omega) | exact y_ld rfl rfl rfl (by rfl) | exact y_ldN rfl rfl rfl (by rfl) | exact y_ldK rfl rfl rfl rfl (by assumption) (by omega) | exact y_ldI rfl rfl rfl rfl (by assumption) (by omega) (by omega))) ?_; refine rm_yd rfl (by (first | exact y_fieldAddrB rfl rfl rfl rfl rfl rfl | exact y_fieldAddr rfl rfl rfl rfl rfl rfl)) ?_; refine rm_skip ?_; refine rm_yd rfl (by (first | exact y_ixI rfl rfl rfl rfl rfl hkc rfl (by omega) (by omega) | exact y_ixI rfl rfl rfl rfl rfl hkv rfl (by omega) (by omega) | exact y_ixI rfl rfl rfl rfl rfl (by assumption) rfl (by omega) (by omega))) ?_; refine rm_yd rfl (by exact y_move rfl) ?_; refine rm_yd rfl (by (first | exact y_ldK rfl rfl rfl rfl hkc (by omega) | exact y_ldK rfl rfl rfl rfl hkv (by omega) | exact y_ld rfl rfl rfl (by rfl) | exact y_ldN rfl rfl rfl (by rfl) | exact y_ldK rfl rfl rfl rfl (by assumption) (by omega) | exact y_ldI rfl rfl rfl rfl (by assumption) (by omega) (by omega))) ?_; refine rm_yd rfl (by (first | exact y_fieldAddrB rfl rfl rfl rfl rfl rfl | exact y_fieldAddr rfl rfl rfl rfl rfl rfl)) ?_; refine rm_skip ?_; refine rm_skip ?_; refine rm_yd rfl (by (first | exact y_pickT rfl rfl | exact y_pickF rfl rfl)) ?_; refine rm_yd rfl (by (first | exact y_pickT rfl rfl | exact y_pickF rfl rfl)) ?_; refine rm_yd rfl (by exact y_move rfl) ?_; refine rm_yd rfl (by (first | exact y_neq rfl rfl | exact y_neqB rfl rfl rfl)) ?_; refine rm_yd rfl (by exact y_move rfl) ?_; refine rm_yd rfl (by exact y_move rfl) ?_; refine rm_yd rfl (by (first | exact y_pickT rfl rfl | exact y_pickF rfl rfl)) ?_; refine rm_yd rfl (by exact y_geq rfl rfl) ?_; refine rm_yd rfl (by (first | exact y_ldK rfl rfl rfl rfl hkc (by omega) | exact y_ldK rfl rfl rfl rfl hkv (by omega) | exact y_ld rfl rfl rfl (by rfl) | exact y_ldN rfl rfl rfl (by rfl) | exact y_ldK rfl rfl rfl rfl (by assumption) (by omega) | exact y_ldI rfl rfl rfl rfl (by assumption) (by omega) (by omega))) ?_; refine rm_yd rfl (by (first | exact y_ixI rfl rfl rfl rfl rfl hkc rfl (by omega) (by omega) | exact y_ixI rfl rfl rfl rfl rfl hkv rfl (by omega) (by omega) | exact y_ixI rfl rfl rfl rfl rfl (by assumption) rfl (by omega) (by omega))) ?_; refine rm_yd rfl (by exact y_move rfl) ?_; refine rm_yd rfl (by (first | exact y_ldK rfl rfl rfl rfl hkc (by omega) | exact y_ldK rfl rfl rfl rfl hkv (by omega) | exact y_ld rfl rfl rfl (by rfl) | exact y_ldN rfl rfl rfl (by rfl) | exact y_ldK rfl rfl rfl rfl (by assumption) (by omega) | exact y_ldI rfl rfl rfl rfl (by assumption) (by omega) (by omega))) ?_; refine rm_yd rfl (by (first | exact y_fieldAddrB rfl rfl rfl rfl rfl rfl | exact y_fieldAddr rfl rfl rfl rfl rfl rfl)) ?_; refine rm_yd rfl (by exact y_move rfl) ?_; refine rm_yd rfl (by (first | exact y_neq rfl rfl | exact y_neqB rfl rfl rfl)) ?_; refine rm_yd rfl (by exact y_move rfl) ?_; exact rm_nil) ?_
          clear hK K
          refine d_takeG 30 rfl (by kernel_rfl) rfl rfl (y_geq rfl rfl) rfl ?_
          refine d_takeG 37 rfl (by kernel_rfl) rfl rfl (by (first | exact y_neq rfl rfl | exact y_neqB rfl rfl rfl)) rfl ?_
          refine d_take 38 rfl (by kernel_rfl) (y_pickF rfl rfl) rfl ?_
          refine d_done (by kernel_rfl) ?_
          first | refine J.split (t := 138) rfl (fun c4 => ?_) (fun c4 => ?_) | refine J.splitb (t := 138) rfl (fun c4 => ?_) (fun c4 => ?_)
          · skip
            first | refine J.known (t := 139) (b := true) rfl (decide_eq_true c4) ?_ | refine J.known (t := 139) (b := true) rfl c4 ?_
            have hr' := hr true (by grind)
            try dsimp only [List.cons_append, List.nil_append, List.append_nil] at hr'
            exact J.to hr' ⟨rfl, rfl, rfl, rfl, rfl, rfl, trivial⟩ tk
          first | refine J.known (t := 139) (b := false) rfl (decide_eq_false c4) ?_ | refine J.known (t := 139) (b := false) rfl c4 ?_
          have hr' := hr false (by grind)
          try dsimp only [List.cons_append, List.nil_append, List.append_nil] at hr'
          exact J.to hr' ⟨rfl, rfl, rfl, rfl, rfl, rfl, trivial⟩ tk
        first | refine d_known (t := 103) (b := false) rfl (decide_eq_false c1) ?_ | refine d_known (t := 103) (b := false) rfl c1 ?_
        refine d_skip 3 rfl (by kernel_rfl) (fun c e => by cases e) rfl rfl rfl rfl ?_
        refine d_skip 4 rfl (by kernel_rfl) (fun c e => by cases e) rfl rfl rfl rfl ?_
        refine d_skip 5 rfl (by kernel_rfl) (fun c e => by cases e) rfl rfl rfl rfl ?_
        refine d_skip 6 rfl (by kernel_rfl) (fun c e => by cases e) rfl rfl rfl rfl ?_
        refine d_skip 7 rfl (by kernel_rfl) (fun c e => by cases e) rfl rfl rfl rfl ?_
        refine d_skip 8 rfl (by kernel_rfl) (fun c e => by cases e) rfl rfl rfl rfl ?_
        refine d_take 9 rfl (by kernel_rfl) (y_pickF rfl rfl) rfl ?_
        refine d_take 10 rfl (by kernel_rfl) (y_move rfl) rfl ?_
        refine d_takeG 11 rfl (by kernel_rfl) rfl rfl (y_move rfl) rfl ?_
        refine d_takeG 12 rfl (by kernel_rfl) rfl rfl (by (first | exact y_neq rfl rfl | exact y_neqB rfl rfl rfl)) rfl ?_
        refine d_takeG 13 rfl (by kernel_rfl) rfl rfl (y_move rfl) rfl ?_
        first | refine d_split (t := 113) rfl (fun c2 => ?_) (fun c2 => ?_) | refine d_splitb (t := 113) rfl (fun c2 => ?_) (fun c2 => ?_)
        · skip
          first | refine d_known (t := 114) (b := true) rfl (decide_eq_true c2) ?_ | refine d_known (t := 114) (b := true) rfl c2 ?_
          refine d_takeG 14 rfl (by kernel_rfl) rfl rfl (by (first | exact y_fieldAddrB rfl rfl rfl rfl rfl rfl | exact y_fieldAddr rfl rfl rfl rfl rfl rfl)) rfl ?_
          refine d_takeG 15 rfl (by kernel_rfl) rfl rfl (by (first | exact y_ldK rfl rfl rfl rfl hkc (by omega) | exact y_ldK rfl rfl rfl rfl hkv (by omega) | exact y_ld rfl rfl rfl (by rfl) | exact y_ldN rfl rfl rfl (by rfl) | exact y_ldK rfl rfl rfl rfl (by assumption) (by omega) | exact y_ldI rfl rfl rfl rfl (by assumption) (by omega) (by omega))) rfl ?_
          refine d_takeG 16 rfl (by kernel_rfl) rfl rfl (y_move rfl) rfl ?_
          refine d_takeG 17 rfl (by kernel_rfl) rfl rfl (by (first | exact y_ixI rfl rfl rfl rfl rfl hkc rfl (by omega) (by omega) | exact y_ixI rfl rfl rfl rfl rfl hkv rfl (by omega) (by omega) | exact y_ixI rfl rfl rfl rfl rfl (by assumption) rfl (by omega) (by omega))) rfl ?_
          refine d_takeG 18 rfl (by kernel_rfl) rfl rfl (by (first | exact y_ldK rfl rfl rfl rfl hkc (by omega) | exact y_ldK rfl rfl rfl rfl hkv (by omega) | exact y_ld rfl rfl rfl (by rfl) | exact y_ldN rfl rfl rfl (by rfl) | exact y_ldK rfl rfl rfl rfl (by assumption) (by omega) | exact y_ldI rfl rfl rfl rfl (by assumption) (by omega) (by omega))) rfl ?_
          refine d_takeG 19 rfl (by kernel_rfl) rfl rfl (y_lss rfl rfl) rfl ?_
          refine d_takeG 20 rfl (by kernel_rfl) rfl rfl (y_pickT rfl rfl) rfl ?_
          refine d_take 21 rfl (by kernel_rfl) (y_pickF rfl rfl) rfl ?_
          refine d_take 22 rfl (by kernel_rfl) (y_move rfl) rfl ?_
          first | refine d_split (t := 120) rfl (fun c3 => ?_) (fun c3 => ?_) | refine d_splitb (t := 120) rfl (fun c3 => ?_) (fun c3 => ?_)
          · skip
            first | refine d_known (t := 123) (b := true) rfl (decide_eq_true c3) ?_ | refine d_known (t := 123) (b := true) rfl c3 ?_
            refine d_skip 23 rfl (by kernel_rfl) (fun c e => by cases e) rfl rfl rfl rfl ?_
            refine d_skip 24 rfl (by kernel_rfl) (fun c e => by cases e) rfl rfl rfl rfl ?_
            refine d_skip 25 rfl (by kernel_rfl) (fun c e => by cases e) rfl rfl rfl rfl ?_
            refine d_skip 26 rfl (by kernel_rfl) (fun c e => by cases e) rfl rfl rfl rfl ?_
            refine d_skip 27 rfl (by kernel_rfl) (fun c e => by cases e) rfl rfl rfl rfl ?_
            refine d_skip 28 rfl (by kernel_rfl) (fun c e => by cases e) rfl rfl rfl rfl ?_
            refine d_skip 31 rfl (by kernel_rfl) (fun c e => by cases e) rfl rfl rfl rfl ?_
            refine d_skip 32 rfl (by kernel_rfl) (fun c e => by cases e) rfl rfl rfl rfl ?_
            refine d_skip 33 rfl (by kernel_rfl) (fun c e => by cases e) rfl rfl rfl rfl ?_
            refine d_skip 34 rfl (by kernel_rfl) (fun c e => by cases e) rfl rfl rfl rfl ?_
            refine d_skip 35 rfl (by kernel_rfl) (fun c e => by cases e) rfl rfl rfl rfl ?_
            refine d_skip 36 rfl (by kernel_rfl) (fun c e => by cases e) rfl rfl rfl rfl ?_
            refine d_skip 29 rfl (by kernel_rfl) (fun c e => by cases e) rfl rfl rfl rfl ?_
            refine d_skip 30 rfl (by kernel_rfl) (fun c e => by cases e) rfl rfl rfl rfl ?_
            refine d_skip 37 rfl (by kernel_rfl) (fun c e => by cases e) rfl rfl rfl rfl ?_
            refine d_take 38 rfl (by kernel_rfl) (y_pickT rfl rfl) rfl ?_
            refine d_done (by kernel_rfl) ?_
            have hr' := hr true (by grind)
            try dsimp only [List.cons_append, List.nil_append, List.append_nil] at hr'
            exact J.to hr' ⟨rfl, rfl, rfl, rfl, rfl, rfl, trivial⟩ tk
          first | refine d_known (t := 123) (b := false) rfl (decide_eq_false c3) ?_ | refine d_known (t := 123) (b := false) rfl c3 ?_
          refine d_takeG 23 rfl (by kernel_rfl) rfl rfl (y_move rfl) rfl ?_
          refine d_takeG 24 rfl (by kernel_rfl) rfl rfl (by (first | exact y_fieldAddrB rfl rfl rfl rfl rfl rfl | exact y_fieldAddr rfl rfl rfl rfl rfl rfl)) rfl ?_
          refine d_takeG 25 rfl (by kernel_rfl) rfl rfl (by (first | exact y_ldK rfl rfl rfl rfl hkc (by omega) | exact y_ldK rfl rfl rfl rfl hkv (by omega) | exact y_ld rfl rfl rfl (by rfl) | exact y_ldN rfl rfl rfl (by rfl) | exact y_ldK rfl rfl rfl rfl (by assumption) (by omega) | exact y_ldI rfl rfl rfl rfl (by assumption) (by omega) (by omega))) rfl ?_
          refine d_takeG 26 rfl (by kernel_rfl) rfl rfl (y_move rfl) rfl ?_
          refine d_takeG 27 rfl (by kernel_rfl) rfl rfl (by (first | exact y_ixI rfl rfl rfl rfl rfl hkc rfl (by omega) (by omega) | exact y_ixI rfl rfl rfl rfl rfl hkv rfl (by omega) (by omega) | exact y_ixI rfl rfl rfl rfl rfl (by assumption) rfl (by omega) (by omega))) rfl ?_
          refine d_takeG 28 rfl (by kernel_rfl) rfl rfl (by (first | exact y_ldK rfl rfl rfl rfl hkc (by omega) | exact y_ldK rfl rfl rfl rfl hkv (by omega) | exact y_ld rfl rfl rfl (by rfl) | exact y_ldN rfl rfl rfl (by rfl) | exact y_ldK rfl rfl rfl rfl (by assumption) (by omega) | exact y_ldI rfl rfl rfl rfl (by assumption) (by omega) (by omega))) rfl ?_
          refine d_takeG 31 rfl (by kernel_rfl) rfl rfl (by (first | exact y_fieldAddrB rfl rfl rfl rfl rfl rfl | exact y_fieldAddr rfl rfl rfl rfl rfl rfl)) rfl ?_
          refine d_takeG 32 rfl (by kernel_rfl) rfl rfl (by (first | exact y_ldK rfl rfl rfl rfl hkc (by omega) | exact y_ldK rfl rfl rfl rfl hkv (by omega) | exact y_ld rfl rfl rfl (by rfl) | exact y_ldN rfl rfl rfl (by rfl) | exact y_ldK rfl rfl rfl rfl (by assumption) (by omega) | exact y_ldI rfl rfl rfl rfl (by assumption) (by omega) (by omega))) rfl ?_
          refine d_takeG 33 rfl (by kernel_rfl) rfl rfl (y_move rfl) rfl ?_
          refine d_takeG 34 rfl (by kernel_rfl) rfl rfl (by (first | exact y_ixI rfl rfl rfl rfl rfl hkc rfl (by omega) (by omega) | exact y_ixI rfl rfl rfl rfl rfl hkv rfl (by omega) (by omega) | exact y_ixI rfl rfl rfl rfl rfl (by assumption) rfl (by omega) (by omega))) rfl ?_
          refine d_takeG 35 rfl (by kernel_rfl) rfl rfl (by (first | exact y_ldK rfl rfl rfl rfl hkc (by omega) | exact y_ldK rfl rfl rfl rfl hkv (by omega) | exact y_ld rfl rfl rfl (by rfl) | exact y_ldN rfl rfl rfl (by rfl) | exact y_ldK rfl rfl rfl rfl (by assumption) (by omega) | exact y_ldI rfl rfl rfl rfl (by assumption) (by omega) (by omega))) rfl ?_
          refine d_takeG 36 rfl (by kernel_rfl) rfl rfl (y_geq rfl rfl) rfl ?_
          refine d_effM 29 [36, 35, 34, 33, 32, 31, 28, 27, 26, 25, 24, 23, 22, 21, 20, 19, 18, 17, 16, 15, 14, 13, 12, 11, 10, 9, 2, 1, 0] [true, true, true, true, true, true, false, true, true, true, true, false, false, true, true, true, true, true, true, true, true, true, true, true, true, true, true, true, true] rfl (by kernel_rfl) rfl (by kernel_rfl) (fun K hK => ?_)
          refine s_guard rfl rfl ?_
          refine s_call (pre := []) (rem := _) rfl rfl tk (fun w N ho hl => at_spec w N _ _ _ _ (b.vars.getD i 0) rfl ho (KI.ofS hl (by repeat (first | exact List.mem_cons_self | refine List.mem_cons_of_mem _ ?_))) (by omega)) rfl ?_
          rintro e L' ⟨z3, hz3, rfl, rfl⟩
          try simp only [List.nil_append, List.cons_append, List.append_nil]
          have hz3' := at_mem hz3
          refine s_done ?_
          refine hK _ _ (by refine rm_yd rfl (by exact y_geq rfl rfl) ?_; refine rm_yd rfl (by (first | exact y_ldK rfl rfl rfl rfl hkc (by omega) | exact y_ldK rfl rfl rfl rfl hkv (by omega) | exact y_ld rfl rfl rfl (by rfl) | exact y_ldN rfl rfl rfl (by rfl) | exact y_ldK rfl rfl rfl rfl (by assumption) (by omega) | exact y_ldI rfl rfl rfl rfl (by assumption) (by omega) (by omega))) ?_; refine rm_yd rfl (by (first | exact y_ixI rfl rfl rfl rfl rfl hkc rfl (by omega) (by omega) | exact y_ixI rfl rfl rfl rfl rfl hkv rfl (by omega) (by omega) | exact y_ixI rfl rfl rfl rfl rfl (by assumption) rfl (by omega) (by omega))) ?_; refine rm_yd rfl (by exact y_move rfl) ?_; refine rm_yd rfl (by (first | exact y_ldK rfl rfl rfl rfl hkc (by omega) | exact y_ldK rfl rfl rfl rfl hkv (by omega) | exact y_ld rfl rfl rfl (by rfl) | exact y_ldN rfl rfl rfl (by rfl) | exact y_ldK rfl rfl rfl rfl (by assumption) (by omega) | exact y_ldI rfl rfl rfl rfl (by assumption) (by omega) (by omega))) ?_; refine rm_yd rfl (by (first | exact y_fieldAddrB rfl rfl rfl rfl rfl rfl | exact y_fieldAddr rfl rfl rfl rfl rfl rfl)) ?_; refine rm_skip ?_; refine rm_yd rfl (by (first | exact y_ixI rfl rfl rfl rfl rfl hkc rfl (by omega) (by omega) | exact y_ixI rfl rfl rfl rfl rfl hkv rfl (by omega) (by omega) | exact y_ixI rfl rfl rfl rfl rfl (by assumption) rfl (by omega) (by omega))) ?_; refine rm_yd rfl (by exact y_move rfl) ?_; refine rm_yd rfl (by (first | exact y_ldK rfl rfl rfl rfl hkc (by omega) | exact y_ldK rfl rfl rfl rfl hkv (by omega) | exact y_ld rfl rfl rfl (by rfl) | exact y_ldN rfl rfl rfl (by rfl) | exact y_ldK rfl rfl rfl rfl (by assumption) (by omega) | exact y_ldI rfl rfl rfl rfl (by assumption) (by omega) (by omega))) ?_; refine rm_yd rfl (by (first | exact y_fieldAddrB rfl rfl rfl rfl rfl rfl | exact y_fieldAddr rfl rfl rfl rfl rfl rfl)) ?_; refine rm_skip ?_; refine rm_skip ?_; refine rm_yd rfl (by (first | exact y_pickT rfl rfl | exact y_pickF rfl rfl)) ?_; refine rm_yd rfl (by (first | exact y_pickT rfl rfl | exact y_pickF rfl rfl)) ?_; refine rm_yd rfl (by exact y_lss rfl rfl) ?_; refine rm_yd rfl (by (first | exact y_ldK rfl rfl rfl rfl hkc (by omega) | exact y_ldK rfl rfl rfl rfl hkv (by omega) | exact y_ld rfl rfl rfl (by rfl) | exact y_ldN rfl rfl rfl (by rfl) | exact y_ldK rfl rfl rfl rfl (by assumption) (by omega) | exact y_ldI rfl rfl rfl rfl (by assumption) (by omega) (by omega))) ?_; refine rm_yd rfl (by (first | exact y_ixI rfl rfl rfl rfl rfl hkc rfl (by omega) (by omega) | exact y_ixI rfl rfl rfl rfl rfl hkv rfl (by omega) (by omega) | exact y_ixI rfl rfl rfl rfl rfl (by assumption) rfl (by omega) (by omega))) ?_; refine rm_yd rfl (by exact y_move rfl) ?_; refine rm_yd rfl (by (first | exact y_ldK rfl rfl rfl rfl hkc (by omega) | exact y_ldK rfl rfl rfl rfl hkv (by omega) | exact y_ld rfl rfl rfl (by rfl) | exact y_ldN rfl rfl rfl (by rfl) | exact y_ldK rfl rfl rfl rfl (by assumption) (by omega) | exact y_ldI rfl rfl rfl rfl (by assumption) (by omega) (by omega))) ?_; refine rm_yd rfl (by (first | exact y_fieldAddrB rfl rfl rfl rfl rfl rfl | exact y_fieldAddr rfl rfl rfl rfl rfl rfl)) ?_; refine rm_yd rfl (by exact y_move rfl) ?_; refine rm_yd rfl (by (first | exact y_neq rfl rfl | exact y_neqB rfl rfl rfl)) ?_; refine rm_yd rfl (by exact y_move rfl) ?_; refine rm_yd rfl (by exact y_move rfl) ?_; refine rm_yd rfl (by (first | exact y_pickT rfl rfl | exact y_pickF rfl rfl)) ?_; refine rm_yd rfl (by exact y_move rfl) ?_; refine rm_yd rfl (by (first | exact y_neq rfl rfl | exact y_neqB rfl rfl rfl)) ?_; refine rm_yd rfl (by exact y_move rfl) ?_; exact rm_nil) ?_
          clear hK K
          refine d_takeG 30 rfl (by kernel_rfl) rfl rfl (y_geq rfl rfl) rfl ?_
          refine d_takeG 37 rfl (by kernel_rfl) rfl rfl (by (first | exact y_neq rfl rfl | exact y_neqB rfl rfl rfl)) rfl ?_
          refine d_take 38 rfl (by kernel_rfl) (y_pickF rfl rfl) rfl ?_
          refine d_done (by kernel_rfl) ?_
          first | refine J.split (t := 138) rfl (fun c4 => ?_) (fun c4 => ?_) | refine J.splitb (t := 138) rfl (fun c4 => ?_) (fun c4 => ?_)
          · skip
            first | refine J.known (t := 139) (b := true) rfl (decide_eq_true c4) ?_ | refine J.known (t := 139) (b := true) rfl c4 ?_
            have hr' := hr true (by grind)
            try dsimp only [List.cons_append, List.nil_append, List.append_nil] at hr'
            exact J.to hr' ⟨rfl, rfl, rfl, rfl, rfl, rfl, trivial⟩ tk
          first | refine J.known (t := 139) (b := false) rfl (decide_eq_false c4) ?_ | refine J.known (t := 139) (b := false) rfl c4 ?_
          have hr' := hr false (by grind)
          try dsimp only [List.cons_append, List.nil_append, List.append_nil] at hr'
          exact J.to hr' ⟨rfl, rfl, rfl, rfl, rfl, rfl, trivial⟩ tk
        first | refine d_known (t := 114) (b := false) rfl (decide_eq_false c2) ?_ | refine d_known (t := 114) (b := false) rfl c2 ?_
        refine d_skip 14 rfl (by kernel_rfl) (fun c e => by cases e) rfl rfl rfl rfl ?_
        refine d_skip 15 rfl (by kernel_rfl) (fun c e => by cases e) rfl rfl rfl rfl ?_
        refine d_skip 16 rfl (by kernel_rfl) (fun c e => by cases e) rfl rfl rfl rfl ?_
        refine d_skip 17 rfl (by kernel_rfl) (fun c e => by cases e) rfl rfl rfl rfl ?_
        refine d_skip 18 rfl (by kernel_rfl) (fun c e => by cases e) rfl rfl rfl rfl ?_
        refine d_skip 19 rfl (by kernel_rfl) (fun c e => by cases e) rfl rfl rfl rfl ?_
        refine d_takeG 20 rfl (by kernel_rfl) rfl rfl (y_pickF rfl rfl) rfl ?_
        refine d_take 21 rfl (by kernel_rfl) (y_pickF rfl rfl) rfl ?_
        refine d_take 22 rfl (by kernel_rfl) (y_move rfl) rfl ?_
        refine d_takeG 23 rfl (by kernel_rfl) rfl rfl (y_move rfl) rfl ?_
        refine d_takeG 24 rfl (by kernel_rfl) rfl rfl (by (first | exact y_fieldAddrB rfl rfl rfl rfl rfl rfl | exact y_fieldAddr rfl rfl rfl rfl rfl rfl)) rfl ?_
        refine d_takeG 25 rfl (by kernel_rfl) rfl rfl (by (first | exact y_ldK rfl rfl rfl rfl hkc (by omega) | exact y_ldK rfl rfl rfl rfl hkv (by omega) | exact y_ld rfl rfl rfl (by rfl) | exact y_ldN rfl rfl rfl (by rfl) | exact y_ldK rfl rfl rfl rfl (by assumption) (by omega) | exact y_ldI rfl rfl rfl rfl (by assumption) (by omega) (by omega))) rfl ?_
        refine d_takeG 26 rfl (by kernel_rfl) rfl rfl (y_move rfl) rfl ?_
        refine d_takeG 27 rfl (by kernel_rfl) rfl rfl (by (first | exact y_ixI rfl rfl rfl rfl rfl hkc rfl (by omega) (by omega) | exact y_ixI rfl rfl rfl rfl rfl hkv rfl (by omega) (by omega) | exact y_ixI rfl rfl rfl rfl rfl (by assumption) rfl (by omega) (by omega))) rfl ?_
        refine d_takeG 28 rfl (by kernel_rfl) rfl rfl (by (first | exact y_ldK rfl rfl rfl rfl hkc (by omega) | exact y_ldK rfl rfl rfl rfl hkv (by omega) | exact y_ld rfl rfl rfl (by rfl) | exact y_ldN rfl rfl rfl (by rfl) | exact y_ldK rfl rfl rfl rfl (by assumption) (by omega) | exact y_ldI rfl rfl rfl rfl (by assumption) (by omega) (by omega))) rfl ?_
        refine d_takeG 31 rfl (by kernel_rfl) rfl rfl (by (first | exact y_fieldAddrB rfl rfl rfl rfl rfl rfl | exact y_fieldAddr rfl rfl rfl rfl rfl rfl)) rfl ?_
        refine d_takeG 32 rfl (by kernel_rfl) rfl rfl (by (first | exact y_ldK rfl rfl rfl rfl hkc (by omega) | exact y_ldK rfl rfl rfl rfl hkv (by omega) | exact y_ld rfl rfl rfl (by rfl) | exact y_ldN rfl rfl rfl (by rfl) | exact y_ldK rfl rfl rfl rfl (by assumption) (by omega) | exact y_ldI rfl rfl rfl rfl (by assumption) (by omega) (by omega))) rfl ?_
        refine d_takeG 33 rfl (by kernel_rfl) rfl rfl (y_move rfl) rfl ?_
        refine d_takeG 34 rfl (by kernel_rfl) rfl rfl (by (first | exact y_ixI rfl rfl rfl rfl rfl hkc rfl (by omega) (by omega) | exact y_ixI rfl rfl rfl rfl rfl hkv rfl (by omega) (by omega) | exact y_ixI rfl rfl rfl rfl rfl (by assumption) rfl (by omega) (by omega))) rfl ?_
        refine d_takeG 35 rfl (by kernel_rfl) rfl rfl (by (first | exact y_ldK rfl rfl rfl rfl hkc (by omega) | exact y_ldK rfl rfl rfl rfl hkv (by omega) | exact y_ld rfl rfl rfl (by rfl) | exact y_ldN rfl rfl rfl (by rfl) | exact y_ldK rfl rfl rfl rfl (by assumption) (by omega) | exact y_ldI rfl rfl rfl rfl (by assumption) (by omega) (by omega))) rfl ?_
        refine d_takeG 36 rfl (by kernel_rfl) rfl rfl (y_geq rfl rfl) rfl ?_
        refine d_effM 29 [36, 35, 34, 33, 32, 31, 28, 27, 26, 25, 24, 23, 22, 21, 20, 13, 12, 11, 10, 9, 2, 1, 0] [true, true, true, true, true, true, false, true, true, true, true, false, false, true, true, true, true, true, true, true, true, true, true] rfl (by kernel_rfl) rfl (by kernel_rfl) (fun K hK => ?_)
        refine s_guard rfl rfl ?_
        refine s_call (pre := []) (rem := _) rfl rfl tk (fun w N ho hl => at_spec w N _ _ _ _ (b.vars.getD i 0) rfl ho (KI.ofS hl (by repeat (first | exact List.mem_cons_self | refine List.mem_cons_of_mem _ ?_))) (by omega)) rfl ?_
        rintro e L' ⟨z3, hz3, rfl, rfl⟩
        try simp only [List.nil_append, List.cons_append, List.append_nil]
        have hz3' := at_mem hz3
        refine s_done ?_
        refine hK _ _ (by refine rm_yd rfl (by exact y_geq rfl rfl) ?_; refine rm_yd rfl (by (first | exact y_ldK rfl rfl rfl rfl hkc (by omega) | exact y_ldK rfl rfl rfl rfl hkv (by omega) | exact y_ld rfl rfl rfl (by rfl) | exact y_ldN rfl rfl rfl (by rfl) | exact y_ldK rfl rfl rfl rfl (by assumption) (by omega) | exact y_ldI rfl rfl rfl rfl (by assumption) (by omega) (by omega))) ?_; refine rm_yd rfl (by (first | exact y_ixI rfl rfl rfl rfl rfl hkc rfl (by omega) (by omega) | exact y_ixI rfl rfl rfl rfl rfl hkv rfl (by omega) (by omega) | exact y_ixI rfl rfl rfl rfl rfl (by assumption) rfl (by omega) (by omega))) ?_; refine rm_yd rfl (by exact y_move rfl) ?_; refine rm_yd rfl (by (first | exact y_ldK rfl rfl rfl rfl hkc (by omega) | exact y_ldK rfl rfl rfl rfl hkv (by omega) | exact y_ld rfl rfl rfl (by rfl) | exact y_ldN rfl rfl rfl (by rfl) | exact y_ldK rfl rfl rfl rfl (by assumption) (by omega) | exact y_ldI rfl rfl rfl rfl (by assumption) (by omega) (by omega))) ?_; refine rm_yd rfl (by (first | exact y_fieldAddrB rfl rfl rfl rfl rfl rfl | exact y_fieldAddr rfl rfl rfl rfl rfl rfl)) ?_; refine rm_skip ?_; refine rm_yd rfl (by (first | exact y_ixI rfl rfl rfl rfl rfl hkc rfl (by omega) (by omega) | exact y_ixI rfl rfl rfl rfl rfl hkv rfl (by omega) (by omega) | exact y_ixI rfl rfl rfl rfl rfl (by assumption) rfl (by omega) (by omega))) ?_; refine rm_yd rfl (by exact y_move rfl) ?_; refine rm_yd rfl (by (first | exact y_ldK rfl rfl rfl rfl hkc (by omega) | exact y_ldK rfl rfl rfl rfl hkv (by omega) | exact y_ld rfl rfl rfl (by rfl) | exact y_ldN rfl rfl rfl (by rfl) | exact y_ldK rfl rfl rfl rfl (by assumption) (by omega) | exact y_ldI rfl rfl rfl rfl (by assumption) (by omega) (by omega))) ?_; refine rm_yd rfl (by (first | exact y_fieldAddrB rfl rfl rfl rfl rfl rfl | exact y_fieldAddr rfl rfl rfl rfl rfl rfl)) ?_; refine rm_skip ?_; refine rm_skip ?_; refine rm_yd rfl (by (first | exact y_pickT rfl rfl | exact y_pickF rfl rfl)) ?_; refine rm_yd rfl (by (first | exact y_pickT rfl rfl | exact y_pickF rfl rfl)) ?_; refine rm_yd rfl (by exact y_move rfl) ?_; refine rm_yd rfl (by (first | exact y_neq rfl rfl | exact y_neqB rfl rfl rfl)) ?_; refine rm_yd rfl (by exact y_move rfl) ?_; refine rm_yd rfl (by exact y_move rfl) ?_; refine rm_yd rfl (by (first | exact y_pickT rfl rfl | exact y_pickF rfl rfl)) ?_; refine rm_yd rfl (by exact y_move rfl) ?_; refine rm_yd rfl (by (first | exact y_neq rfl rfl | exact y_neqB rfl rfl rfl)) ?_; refine rm_yd rfl (by exact y_move rfl) ?_; exact rm_nil) ?_
        clear hK K
        refine d_takeG 30 rfl (by kernel_rfl) rfl rfl (y_geq rfl rfl) rfl ?_
        refine d_takeG 37 rfl (by kernel_rfl) rfl rfl (by (first | exact y_neq rfl rfl | exact y_neqB rfl rfl rfl)) rfl ?_
        refine d_take 38 rfl (by kernel_rfl) (y_pickF rfl rfl) rfl ?_
        refine d_done (by kernel_rfl) ?_
        first | refine J.split (t := 138) rfl (fun c3 => ?_) (fun c3 => ?_) | refine J.splitb (t := 138) rfl (fun c3 => ?_) (fun c3 => ?_)
        · skip
          first | refine J.known (t := 139) (b := true) rfl (decide_eq_true c3) ?_ | refine J.known (t := 139) (b := true) rfl c3 ?_
          have hr' := hr true (by grind)
          try dsimp only [List.cons_append, List.nil_append, List.append_nil] at hr'
          exact J.to hr' ⟨rfl, rfl, rfl, rfl, rfl, rfl, trivial⟩ tk
        first | refine J.known (t := 139) (b := false) rfl (decide_eq_false c3) ?_ | refine J.known (t := 139) (b := false) rfl c3 ?_
        have hr' := hr false (by grind)
        try dsimp only [List.cons_append, List.nil_append, List.append_nil] at hr'
        exact J.to hr' ⟨rfl, rfl, rfl, rfl, rfl, rfl, trivial⟩ tk
      rintro v hv
      dsimp only [List.cons_append, List.nil_append] at hv ⊢
      subst hv
      refine s_condF2 rfl (by with_reducible rfl) ?_
      refine s_skip ?_
      refine s_endb ?_
      refine s_region ?_
      refine s_q (y_move rfl) rfl ?_
      refine s_q (y_add rfl rfl (by omega)) rfl ?_
      refine s_q (y_assign rfl) rfl ?_
      refine s_done ?_
      refine s_inv (i + 1) (by (try dsimp only); omega) (by (try dsimp only); omega) ⟨rfl, rfl, rfl, rfl, rfl, trivial⟩ tk
  · have hil : i = b.vars.length := by omega
    subst hil
    refine s_exit rfl ?_
    refine s_seq ?_
    refine s_region ?_
    refine s_q (y_move rfl) rfl ?_
    refine s_q (y_lenS rfl rfl rfl) rfl ?_
    refine s_q (y_move rfl) rfl ?_
    refine s_q (by (first | exact y_as (y_eql rfl rfl) (congrArg Value.bool (decide_eq_true (show ((keptL [b]).length : Int) = (posL b b.vars.length).length by omega))) | exact y_eql rfl rfl | exact y_eqlB rfl rfl rfl)) rfl ?_
    refine s_q (y_move rfl) rfl ?_
    refine s_guard2 rfl rfl (by with_reducible rfl) ?_
    refine s_q (by (first | exact y_ldN rfl rfl rfl (by rfl) | exact y_ld rfl rfl rfl (by rfl) | exact y_ldN rfl rfl rfl (by rfl) | exact y_ldK rfl rfl rfl rfl (by assumption) (by omega) | exact y_ldI rfl rfl rfl rfl (by assumption) (by omega) (by omega))) rfl ?_
    refine s_guard2 rfl rfl (by with_reducible rfl) ?_
    refine s_call (pre := []) (rem := _) rfl rfl tk (fun w N ho hl => Used_spec w N b ho (hk.of hl) hok) rfl ?_
    rintro e L' ⟨rfl, rfl⟩
    try simp only [List.nil_append, List.cons_append, List.append_nil]
    rw [hrl]
    refine s_guard2 rfl rfl (by with_reducible rfl) ?_
    refine s_q (y_move rfl) rfl ?_
    refine s_guard2 rfl rfl (by with_reducible rfl) ?_
    refine s_q (y_lenS rfl rfl rfl) rfl ?_
    refine s_guard2 rfl rfl (by with_reducible rfl) ?_
    refine s_q (by (first | exact y_as (y_eql rfl rfl) (congrArg Value.bool (decide_eq_true rfl)) | exact y_eql rfl rfl | exact y_eqlB rfl rfl rfl)) rfl ?_
    refine s_q (by (first | exact y_pickT rfl rfl | exact y_pickF rfl rfl)) rfl ?_
    refine s_q (y_move rfl) rfl ?_
    refine s_guard2 rfl rfl (by with_reducible rfl) ?_
    refine s_q (y_move rfl) rfl ?_
    refine s_guard2 rfl rfl (by with_reducible rfl) ?_
    refine s_q (y_lenS rfl rfl rfl) rfl ?_
    refine s_guard2 rfl rfl (by with_reducible rfl) ?_
    refine s_q (y_move rfl) rfl ?_
    refine s_guard2 rfl rfl (by with_reducible rfl) ?_
    refine s_q (by (first | exact y_as (y_leq rfl rfl) (congrArg Value.bool (decide_eq_true (show (rs.length : Int) ≤ (posL b b.vars.length).length by omega))) | exact y_leq rfl rfl)) rfl ?_
    refine s_q (by (first | exact y_pickT rfl rfl | exact y_pickF rfl rfl)) rfl ?_
    refine s_q (y_assign rfl) rfl ?_
    refine s_done ?_
    exact s_return ⟨rfl, rfl⟩ (res_tmp Try.results4 rfl)
end Go.Proofs.Ytdbnlgknalencaa
