/- Layer 23 (brief): the walk through BriefOrder. -/
import Derived.Test.YtdbnlgknalencaaBrfG
import Derived.Test.YtdbnlgknalencaaBrfKP
import Derived.Test.YtdbnlgknalencaaEEb
set_option linter.unusedVariables false
set_option linter.unusedSimpArgs false
namespace Go.Proofs.Ytdbnlgknalencaa
open Go Go.E
set_option maxRecDepth 4000
set_option maxHeartbeats 1000000
theorem dls_perm {l r : List BrD} (h : l.Perm r) (x : Int) : dls l x = dls r x := by
  induction h with
  | nil => rfl
  | cons b _ ih => simp only [dls, ih]
  | swap a b l => simp only [dls]; omega
  | trans _ _ h1 h2 => rw [h1, h2]
theorem worth_perm {vars weight : List Int} {l r : List BrD} (h : l.Perm r) : worthO vars weight l = worthO vars weight r ∧ worthE vars weight l = worthE vars weight r := by
  have h1 : wrongW vars weight l = wrongW vars weight r := by
    have : l.all rightB = r.all rightB := by rw [Bool.eq_iff_iff, List.all_eq_true, List.all_eq_true]; exact ⟨fun x b hb => x b (h.mem_iff.2 hb), fun x b hb => x b (h.mem_iff.1 hb)⟩
    rw [wrongW, wrongW, this, h.length_eq]
  have h2 : worthL vars weight l = worthL vars weight r := by
    rw [worthL, worthL]; exact List.map_congr_left fun i _ => by rw [dls_perm h]
  exact ⟨by rw [worthO, worthO, h1, h2], by rw [worthE, worthE, h1]⟩
def turnL (l : List BrD) (k m : Nat) : List BrD := (List.range m).map fun q => l.getD ((l.length - 1 - q + k) % l.length) .no
theorem turn_perm (l : List BrD) (k : Nat) : (turnL l k l.length).Perm l := by
  by_cases h0 : l.length = 0
  · have : l = [] := List.eq_nil_of_length_eq_zero h0
    subst this; exact List.Perm.refl _
  have hp : ((List.range l.length).map fun q => (l.length - 1 - q + k) % l.length).Perm (List.range l.length) := by
    have hn : ((List.range l.length).map fun q => (l.length - 1 - q + k) % l.length).Nodup := by
      rw [List.nodup_iff_pairwise_ne, List.pairwise_map]
      refine (List.nodup_range (n := l.length)).imp_of_mem fun {i j} hi hj hne e => hne ?_
      simp only [List.mem_range] at hi hj
      have h1 : (l.length - 1 - i + k + (l.length - k % l.length)) % l.length = (l.length - 1 - j + k + (l.length - k % l.length)) % l.length := by rw [Nat.add_mod, e, ← Nat.add_mod]
      have h2 : ∀ y, y < l.length → (y + k + (l.length - k % l.length)) % l.length = y := fun y hy => by
        have h3 := Nat.mod_lt k (show 0 < l.length by omega)
        have h4 := Nat.mod_add_div k l.length
        rw [show y + k + (l.length - k % l.length) = y + l.length * (k / l.length + 1) by rw [Nat.mul_add]; omega, Nat.add_mul_mod_self_left, Nat.mod_eq_of_lt hy]
      rw [h2 _ (by omega), h2 _ (by omega)] at h1
      omega
    refine (List.perm_ext_iff_of_nodup hn List.nodup_range).2 fun x => ?_
    rw [List.mem_map]
    simp only [List.mem_range]
    constructor
    · rintro ⟨q, hq, rfl⟩; exact Nat.mod_lt _ (by omega)
    · intro hx
      have h3 := Nat.mod_lt k (show 0 < l.length by omega)
      have h4 := Nat.mod_add_div k l.length
      have h5 := Nat.mod_lt (x + (l.length - k % l.length)) (show 0 < l.length by omega)
      refine ⟨l.length - 1 - (x + (l.length - k % l.length)) % l.length, by omega, ?_⟩
      rw [show l.length - 1 - (l.length - 1 - (x + (l.length - k % l.length)) % l.length) = (x + (l.length - k % l.length)) % l.length by omega, Nat.mod_add_mod,
        show x + (l.length - k % l.length) + k = x + l.length * (k / l.length + 1) by rw [Nat.mul_add]; omega, Nat.add_mul_mod_self_left, Nat.mod_eq_of_lt hx]
  have e1 : turnL l k l.length = ((List.range l.length).map fun q => (l.length - 1 - q + k) % l.length).map fun j => l.getD j .no := by rw [List.map_map]; rfl
  have e2 : l = (List.range l.length).map fun j => l.getD j .no := by
    refine List.ext_getElem (by simp) fun i h1 h2 => ?_
    rw [List.getElem_map, List.getElem_range, List.getD_eq_getElem?_getD, List.getElem?_eq_getElem h1]; rfl
  rw [e1]
  exact (hp.map _).trans (by rw [← e2])
/-- What a brief adds, for one that it has. -/
theorem dl_at : ∀ (vs cs es : List Int) (p : Int), risB p vs = true → ∀ j, j < vs.length → j < cs.length → j < es.length → dl vs cs es (vs.getD j 0) = if cs.getD j 0 < 0 then -(es.getD j 0) else es.getD j 0
  | [], _, _, _, _, _, h, _, _ => absurd h (Nat.not_lt_zero _)
  | _ :: _, [], _, _, _, _, _, h, _ => absurd h (Nat.not_lt_zero _)
  | _ :: _, _ :: _, [], _, _, _, _, _, h => absurd h (Nat.not_lt_zero _)
  | v :: vs, c :: cs, e :: es, p, h, j, h1, h2, h3 => by
    simp only [risB, Bool.and_eq_true] at h
    have hlt := (risB_lt vs v h.2).1
    cases j with
    | zero =>
      simp only [List.getD_cons_zero, dl]
      rw [dl_zero vs cs es v (fun hm => by have := hlt v hm; omega)]; simp
    | succ j =>
      simp only [List.getD_cons_succ, dl]
      have hm := getD_mem 0 (l := vs) (k := j) (by simpa using h1)
      have := hlt _ hm
      rw [if_neg (by omega), dl_at vs cs es v h.2 j (by simpa using h1) (by simpa using h2) (by simpa using h3)]; simp
structure RE (b : BrD) : Prop extends RB b where
  le : b.edge.length = b.vars.length
  edge : ∀ e ∈ b.edge, 0 ≤ e ∧ e ≤ 1099511627776
theorem RE.of {b : BrD} (h : rightB b = true) : RE b := by
  refine ⟨RB.of h, ?_, ?_⟩
  · simp only [rightB, Bool.and_eq_true, decide_eq_true_eq] at h; exact h.2.2.1
  · simp only [rightB, Bool.and_eq_true, decide_eq_true_eq, List.all_eq_true, inB] at h; exact h.2.2.2.2
/-- The colors that a variable has in a brief. -/
theorem RE.dl {b : BrD} (h : RE b) (x : Int) : (x ∉ b.vars ∧ dl b.vars b.cols b.edge x = 0) ∨ ∃ j, j < b.vars.length ∧ b.vars.getD j 0 = x ∧ ((b.cols.getD j 0 < 0 ∧ dl b.vars b.cols b.edge x ≤ 0) ∨ (0 ≤ b.cols.getD j 0 ∧ 0 ≤ dl b.vars b.cols b.edge x)) := by
  by_cases hx : x ∈ b.vars
  · right
    obtain ⟨j, hj, rfl⟩ := getD_of_mem 0 hx
    refine ⟨j, hj, rfl, ?_⟩
    have hlc := h.lc
    have hle := h.le
    have he := h.edge _ (getD_mem 0 (l := b.edge) (k := j) (by omega))
    rw [dl_at _ _ _ 0 h.ris j hj (by omega) (by omega)]
    split
    · left; omega
    · right; omega
  · exact .inl ⟨hx, dl_zero _ _ _ _ hx⟩
def hasC (b : BrD) (x : Int) : Prop := ∃ j, j < b.vars.length ∧ b.vars.getD j 0 = x ∧ 0 ≤ b.cols.getD j 0
theorem dls_none {l : List BrD} (h : ∀ b ∈ l, RE b) {x : Int} (hx : ∀ b ∈ l, x ∉ b.vars) : dls l x = 0 := by
  induction l with
  | nil => rfl
  | cons b l ih =>
    rw [dls, ih (fun y hy => h y (List.mem_cons_of_mem _ hy)) (fun y hy => hx y (List.mem_cons_of_mem _ hy)), dl_zero _ _ _ _ (hx b List.mem_cons_self)]; rfl
theorem dls_le {l : List BrD} (h : ∀ b ∈ l, RE b) {x : Int} (hx : ∀ b ∈ l, ¬ hasC b x) : dls l x ≤ 0 := by
  induction l with
  | nil => exact Int.le_refl _
  | cons b l ih =>
    have h1 := ih (fun y hy => h y (List.mem_cons_of_mem _ hy)) (fun y hy => hx y (List.mem_cons_of_mem _ hy))
    have h2 := (h b List.mem_cons_self).dl x
    have h3 := hx b List.mem_cons_self
    rw [dls]
    rcases h2 with ⟨_, e⟩ | ⟨j, hj, e, ⟨_, e2⟩ | ⟨e1, e2⟩⟩
    · omega
    · omega
    · exact absurd ⟨j, hj, e, e1⟩ h3
theorem dls_ge {l : List BrD} (h : ∀ b ∈ l, RE b) {x : Int} (hx : isSp l x = false) : 0 ≤ dls l x := by
  induction l with
  | nil => exact Int.le_refl _
  | cons b l ih =>
    simp only [isSp, List.any_cons, Bool.or_eq_false_iff] at hx
    have h1 := ih (fun y hy => h y (List.mem_cons_of_mem _ hy)) hx.2
    have hb := h b List.mem_cons_self
    rw [dls]
    rcases hb.dl x with ⟨_, e⟩ | ⟨j, hj, e, ⟨e1, e2⟩ | ⟨e1, e2⟩⟩
    · omega
    · exfalso
      have hlc := hb.lc
      have : spB b.vars b.cols x = true := (spB_iff _ _ _).2 ⟨j, hj, by omega, e, e1⟩
      rw [hx.1] at this; cases this
    · omega
theorem kept_sp {l : List BrD} {x : Int} (h : x ∈ keptL l) : isSp l x = false := by
  rw [keptL] at h
  split at h
  · have := (List.mem_filter.1 h).2
    simp only [Bool.and_eq_true, Bool.not_eq_true'] at this
    exact this.2
  · exact absurd h List.not_mem_nil
theorem turnL_succ (l : List BrD) (k m : Nat) : turnL l k (m + 1) = turnL l k m ++ [l.getD ((l.length - 1 - m + k) % l.length) .no] := by
  rw [turnL, List.range_succ, List.map_append]; rfl
theorem turn_mem {l : List BrD} {k m : Nat} (hm : m ≤ l.length) : ∀ b ∈ turnL l k m, b ∈ l := fun b hb => by
  obtain ⟨q, hq, rfl⟩ := List.mem_map.1 hb
  simp only [List.mem_range] at hq
  exact getD_mem BrD.no (Nat.mod_lt _ (by omega))
theorem worth_at {vars weight : List Int} {l : List BrD} {i : Nat} (h : i < vars.length) : (worthL vars weight l).getD i 0 = max (weight.getD i 0 + dls l (vars.getD i 0)) 0 := by
  have e : (List.range vars.length).getD i 0 = i := by rw [List.getD_eq_getElem?_getD, List.getElem?_range h]; rfl
  rw [worthL, getD_map (d := 0) _ _ (by simpa using h), e]
theorem BriefOrder_spec (w : World) (N : Nat → Prop) (A B T : Option Addr) (c d t : Nat) (vars weight : List Int) (l : List BrD) (turn : Int) (ho : Owns w [] N) (hv : KI w N A vars) (hw : KI w N B weight) (hl0 : KBr w N T l) (hok : ∀ b ∈ l, b.ok) (h1 : vars.length < 100000000000000) (h2 : weight.length < 100000000000000) (h3 : l.length < 100000000000000) :
    Ret Try.prog 3 [.slice A vars.length c, .slice B weight.length d, .slice T l.length t, .int .i64 turn] w N fun v L => v = .bool true ∧ L = [] := by
  refine ret_of_J cx Try.func3 rfl (Nat.le_of_ble_eq_true rfl) ho ?_
  refine s_seq ?_
  refine s_region ?_
  refine s_q (y_assign rfl) rfl ?_
  refine s_done ?_
  refine s_seq ?_
  refine s_seq ?_
  refine s_region ?_
  refine s_call (pre := []) (rem := _) rfl rfl tk (fun w N ho hl => awake_spec w N ho) rfl ?_
  rintro e L' ⟨rfl, rfl⟩
  try simp only [List.nil_append, List.cons_append, List.append_nil]
  refine s_q (by (first | exact y_notT rfl | exact y_notF rfl | exact y_notp rfl | exact y_notb rfl)) rfl ?_
  refine s_done ?_
  refine s_condF2 rfl (by with_reducible rfl) ?_
  refine s_skip ?_
  refine s_seq ?_
  refine s_seq ?_
  refine s_region ?_
  refine s_q (y_move rfl) rfl ?_
  refine s_q (y_lenS rfl rfl rfl) rfl ?_
  refine s_q (y_move rfl) rfl ?_
  refine s_q (y_lenS rfl rfl rfl) rfl ?_
  refine s_q (y_add rfl rfl (by omega)) rfl ?_
  refine s_q (y_move rfl) rfl ?_
  refine s_call (pre := []) (rem := _) rfl rfl tk (fun w N ho hl => size_spec w N T t l.length l rfl ho (hl0.blk.of hl) hok h3) rfl ?_
  rintro e L' ⟨z, hz, rfl, rfl⟩
  try simp only [List.nil_append, List.cons_append, List.append_nil]
  have hz0 := hz.pos
  have hz1 := hz.top
  refine s_q (y_add rfl rfl (by omega)) rfl ?_
  refine s_q (y_gtr rfl rfl) rfl ?_
  refine s_done ?_
  refine s_cond rfl (fun g1 => ?_) (fun g1 => ?_)
  · refine s_seq ?_
    refine s_region ?_
    refine s_q (y_assign rfl) rfl ?_
    refine s_done ?_
    exact s_return ⟨rfl, rfl⟩ (res_tmp Try.results3 rfl)
  obtain ⟨hzl, hzb⟩ := hz.each (by omega)
  refine s_skip ?_
  refine s_seq ?_
  refine s_region ?_
  refine s_q (y_move rfl) rfl ?_
  refine s_q (y_move rfl) rfl ?_
  refine s_q (y_move rfl) rfl ?_
  refine s_call (pre := []) (rem := _) rfl rfl tk (fun w N ho hl => Worth_spec w N A B T c d t _ _ _ vars weight l rfl rfl rfl ho (hv.of hl) (hw.of hl) (hl0.of hl) hok h1 h2 h3) rfl ?_
  rintro e L' ⟨G, g, rfl, rfl⟩
  try simp only [List.nil_append, List.cons_append, List.append_nil]
  refine s_q (y_move rfl) rfl ?_
  refine s_q (y_extract rfl rfl) rfl ?_
  refine s_q (y_extract rfl rfl) rfl ?_
  refine s_q (y_assign rfl) rfl ?_
  refine s_q (y_assign rfl) rfl ?_
  refine s_done ?_
  refine s_seq ?_
  refine s_region ?_
  refine s_q (y_move rfl) rfl ?_
  refine s_q (y_move rfl) rfl ?_
  refine s_q (y_lenS rfl rfl rfl) rfl ?_
  refine s_q (y_add rfl rfl (by omega)) rfl ?_
  refine s_call (pre := []) (rem := _) rfl rfl tk (fun w N ho hl => Pick_spec w N turn (l.length + 1) ho (by omega)) rfl ?_
  rintro e L' ⟨k, hk, rfl, rfl⟩
  try simp only [List.nil_append, List.cons_append, List.append_nil]
  refine J.emp (B := Sl 31 3 none 0 0 ((turnL l k 0).flatMap encBr)) (Sl.ofNil _ _) ?_
  refine s_q (y_assign rfl) rfl ?_
  refine s_done ?_
  refine s_seq ?_
  refine s_region ?_
  refine s_q (y_assign rfl) rfl ?_
  refine s_done ?_
  refine s_seq ?_
  refine s_seq ?_
  refine s_region ?_
  refine s_q (y_move rfl) rfl ?_
  refine s_q (y_lenS rfl rfl rfl) rfl ?_
  refine s_q (y_sub rfl rfl (by omega)) rfl ?_
  refine s_q (y_assign rfl) rfl ?_
  refine s_done ?_
  refine s_block ?_
  rw [show (l.length : Int) - 1 = (l.length : Int) - 1 - (0 : Nat) by omega]
  refine s_loopV (σ := Nat × Option Addr × Nat) (fun s => [(13, .int .i64 ((l.length : Int) - 1 - s.1)), (12, .slice s.2.1 s.1 s.2.2)]) (fun s => [Sl 31 3 s.2.1 s.1 s.2.2 ((turnL l k s.1).flatMap encBr)]) (fun s => (s.1 ≤ l.length)) (fun s => l.length - s.1) (0, none, 0) [(0, _), (1, _), (2, _), (9, _), (10, _), (11, _)] ⟨rfl, rfl, rfl, rfl, rfl, rfl, trivial⟩ ⟨rfl, rfl, trivial⟩ tk (Nat.zero_le _) ?_
  rintro ⟨m, O, o⟩ hm
  try dsimp only [List.cons_append, List.nil_append, List.append_nil] at hm ⊢
  refine s_seq ?_
  refine s_seq ?_
  refine s_region ?_
  refine s_q (y_move rfl) rfl ?_
  refine s_q (y_geq rfl rfl) rfl ?_
  refine s_done ?_
  refine s_cond rfl (fun g2 => ?_) (fun g2 => ?_)
  · have hml : m < l.length := by omega
    have e1 : ((l.length : Int) - 1 - m + k) % l.length = (((l.length - 1 - m + k) % l.length : Nat) : Int) := by
      rw [Int.natCast_emod]; congr 1; omega
    have hlt : (l.length - 1 - m + k) % l.length < l.length := Nat.mod_lt _ (by omega)
    refine s_skip ?_
    refine s_seq ?_
    refine s_block ?_
    refine s_region ?_
    refine s_q (y_move rfl) rfl ?_
    refine s_q (y_move rfl) rfl ?_
    refine s_q (y_move rfl) rfl ?_
    refine s_q (y_move rfl) rfl ?_
    refine s_q (y_add rfl rfl (by omega)) rfl ?_
    refine s_q (y_move rfl) rfl ?_
    refine s_q (y_lenS rfl rfl rfl) rfl ?_
    refine s_q (y_as (y_rem rfl rfl (by omega) (by omega)) (congrArg (Value.int .i64) e1)) rfl ?_
    refine s_q (by (first | exact y_ixE hl0.blk rfl rfl rfl rfl rfl rfl (by omega) (by omega) | exact y_ixI rfl rfl rfl rfl rfl (by assumption) rfl (by omega) (by omega))) rfl ?_
    refine s_q (by (first | exact y_ldE hl0.blk rfl rfl rfl (by omega) rfl | exact y_ld rfl rfl rfl (by rfl) | exact y_ldN rfl rfl rfl (by rfl) | exact y_ldK rfl rfl rfl rfl (by assumption) (by omega) | exact y_ldI rfl rfl rfl rfl (by assumption) (by omega) (by omega))) rfl ?_
    refine s_bslice rfl rfl rfl rfl rfl rfl rfl rfl (fun bn => ?_)
    change J _ _ _ (cb bn 31 (encBr (l.getD ((l.length - 1 - m + k) % l.length) .no)) :: _) _
    unfold encBr
    refine s_append rfl rfl rfl rfl rfl rfl rfl rfl rfl (by omega) rfl (fun O' o' => ?_)
    change J _ _ _ (Sl 31 3 O' (m + 1) o' ((turnL l k m).flatMap encBr ++ encBr (l.getD ((l.length - 1 - m + k) % l.length) .no)) :: _) _
    rw [show (turnL l k m).flatMap encBr ++ encBr (l.getD ((l.length - 1 - m + k) % l.length) .no) = (turnL l k (m + 1)).flatMap encBr by rw [turnL_succ]; simp]
    refine s_q (y_assign rfl) rfl ?_
    refine s_done ?_
    refine s_endb ?_
    refine s_region ?_
    refine s_q (y_move rfl) rfl ?_
    refine s_q (y_sub rfl rfl (by omega)) rfl ?_
    refine s_q (y_assign rfl) rfl ?_
    refine s_done ?_
    rw [show (l.length : Int) - 1 - m - 1 = (l.length : Int) - 1 - (m + 1 : Nat) by omega]
    refine s_inv (m + 1, O', o') (by (try dsimp only); omega) (by (try dsimp only); omega) ⟨rfl, rfl, rfl, rfl, rfl, rfl, rfl, rfl, trivial⟩ tk
  have hml : m = l.length := by omega
  subst hml
  have hper := turn_perm l k
  have htl : (turnL l k l.length).length = l.length := by simp [turnL]
  obtain ⟨os, hos⟩ : ∃ os, turnL l k l.length = os := ⟨_, rfl⟩
  have hom : ∀ b ∈ os, b ∈ l := fun b hb => by rw [← hos] at hb; exact turn_mem (Nat.le_refl _) b hb
  rw [hos] at hper htl ⊢
  obtain ⟨hp1, hp2⟩ := worth_perm (vars := vars) (weight := weight) hper
  refine s_exit rfl ?_
  refine s_seq ?_
  refine s_region ?_
  refine s_q (y_move rfl) rfl ?_
  refine s_q (y_move rfl) rfl ?_
  refine s_q (y_move rfl) rfl ?_
  refine s_call (pre := []) (rem := _) rfl rfl tk (fun w N ho hl => Worth_spec w N A B O c d o _ _ _ vars weight os rfl rfl htl.symm ho (hv.of hl) (hw.of hl) ⟨keOfS (fun _ => rfl) (by omega) hl (by repeat (first | exact List.mem_cons_self | refine List.mem_cons_of_mem _ ?_)), fun b hb => (hl0.row b (hom b hb)).of hl⟩ (fun b hb => hok b (hom b hb)) h1 h2 (by omega)) rfl ?_
  rintro e L' ⟨G2, g2, rfl, rfl⟩
  try simp only [List.nil_append, List.cons_append, List.append_nil]
  rw [hp1, hp2]
  have hwl : (worthO vars weight l).length ≤ vars.length := by rw [worthO]; split <;> simp [worthL]
  refine s_q (y_move rfl) rfl ?_
  refine s_q (y_extract rfl rfl) rfl ?_
  refine s_q (y_extract rfl rfl) rfl ?_
  refine s_q (y_assign rfl) rfl ?_
  refine s_q (y_assign rfl) rfl ?_
  refine s_done ?_
  refine s_seq ?_
  refine s_seq ?_
  refine s_region ?_
  refine s_q (y_move rfl) rfl ?_
  refine s_q (y_move rfl) rfl ?_
  refine s_q (by (first | exact y_as (y_neq rfl rfl) (congrArg Value.bool (decide_eq_false (fun h => h rfl))) | exact y_neq rfl rfl | exact y_neqB rfl rfl rfl)) rfl ?_
  refine s_q (y_move rfl) rfl ?_
  refine s_guard2 rfl rfl (by with_reducible rfl) ?_
  refine s_q (y_move rfl) rfl ?_
  refine s_guard2 rfl rfl (by with_reducible rfl) ?_
  refine s_q (y_move rfl) rfl ?_
  refine s_guard2 rfl rfl (by with_reducible rfl) ?_
  refine s_call (pre := []) (rem := _) rfl rfl tk (fun w N ho hl => SameInts_spec w N G G2 g g2 _ _ (worthO vars weight l) (worthO vars weight l) rfl rfl ho (KI.ofS hl (by repeat (first | exact List.mem_cons_self | refine List.mem_cons_of_mem _ ?_))) (KI.ofS hl (by repeat (first | exact List.mem_cons_self | refine List.mem_cons_of_mem _ ?_))) (by omega)) rfl ?_
  rintro e L' ⟨rfl, rfl⟩
  try simp only [List.nil_append, List.cons_append, List.append_nil]
  simp only [decide_true]
  cases hbad : wrongW vars weight l with
  | true =>
    have e1 : worthO vars weight l = [] := by rw [worthO, if_pos hbad]
    have e2 : worthE vars weight l = 2 := by rw [worthE, if_pos hbad]
    rw [e1, e2]
    refine s_guard2 rfl rfl (by with_reducible rfl) ?_
    refine s_q (by (first | exact y_notT rfl | exact y_notF rfl | exact y_notp rfl | exact y_notb rfl)) rfl ?_
    refine s_q (by (first | exact y_pickT rfl rfl | exact y_pickF rfl rfl)) rfl ?_
    refine s_done ?_
    refine s_condF2 rfl (congrArg Value.bool (by decide)) ?_
    refine s_skip ?_
    refine s_seq ?_
    refine s_seq ?_
    refine s_region ?_
    refine s_q (y_move rfl) rfl ?_
    refine s_q (by (first | exact y_as (y_neq rfl rfl) (congrArg Value.bool (decide_eq_true (show (2 : Int) ≠ 0 by decide))) | exact y_neq rfl rfl | exact y_neqB rfl rfl rfl)) rfl ?_
    refine s_done ?_
    refine s_condT2 rfl (by with_reducible rfl) ?_
    refine s_seq ?_
    refine s_region ?_
    refine s_q (y_move rfl) rfl ?_
    refine s_q (by (first | exact y_as (y_eql rfl rfl) (congrArg Value.bool (decide_eq_true rfl)) | exact y_eql rfl rfl | exact y_eqlB rfl rfl rfl)) rfl ?_
    refine s_q (y_move rfl) rfl ?_
    refine s_guard2 rfl rfl (by with_reducible rfl) ?_
    refine s_q (y_move rfl) rfl ?_
    refine s_guard2 rfl rfl (by with_reducible rfl) ?_
    refine s_q (y_lenS rfl rfl rfl) rfl ?_
    refine s_guard2 rfl rfl (by with_reducible rfl) ?_
    refine s_q (by (first | exact y_as (y_eql rfl rfl) (congrArg Value.bool (decide_eq_true rfl)) | exact y_eql rfl rfl | exact y_eqlB rfl rfl rfl)) rfl ?_
    refine s_q (by (first | exact y_pickT rfl rfl | exact y_pickF rfl rfl)) rfl ?_
    refine s_q (y_assign rfl) rfl ?_
    refine s_done ?_
    exact s_return ⟨rfl, rfl⟩ (res_tmp Try.results3 rfl)
  | false =>
  have e1 : worthO vars weight l = worthL vars weight l := by rw [worthO, hbad]; simp
  have e2 : worthE vars weight l = 0 := by rw [worthE, hbad]; simp
  have e3 : (worthL vars weight l).length = vars.length := by simp [worthL]
  simp only [wrongW, Bool.or_eq_false_iff, Bool.not_eq_false', decide_eq_true_eq, decide_eq_false_iff_not, List.all_eq_true] at hbad
  obtain ⟨b1, b2, b3, b4, b5⟩ := hbad
  have hre : ∀ b ∈ l, RE b := fun b hb => RE.of (b5 b hb)
  rw [e1, e2]
  refine s_guard2 rfl rfl (by with_reducible rfl) ?_
  refine s_q (by (first | exact y_notT rfl | exact y_notF rfl | exact y_notp rfl | exact y_notb rfl)) rfl ?_
  refine s_q (by (first | exact y_pickT rfl rfl | exact y_pickF rfl rfl)) rfl ?_
  refine s_done ?_
  refine s_condF2 rfl (congrArg Value.bool (by decide)) ?_
  refine s_skip ?_
  refine s_seq ?_
  refine s_seq ?_
  refine s_region ?_
  refine s_q (y_move rfl) rfl ?_
  refine s_q (by (first | exact y_as (y_neq rfl rfl) (congrArg Value.bool (decide_eq_false (fun h => h rfl))) | exact y_neq rfl rfl | exact y_neqB rfl rfl rfl)) rfl ?_
  refine s_done ?_
  refine s_condF2 rfl (by with_reducible rfl) ?_
  refine s_skip ?_
  refine s_seq ?_
  refine s_region ?_
  refine s_q (y_move rfl) rfl ?_
  refine s_call (pre := []) (rem := _) rfl rfl tk (fun w N ho hl => Kept_spec w N T t l.length l rfl ho (hl0.of hl) hok h3) rfl ?_
  rintro e L' ⟨K, kc, rfl, rfl⟩
  try simp only [List.nil_append, List.cons_append, List.append_nil]
  refine s_q (y_assign rfl) rfl ?_
  refine s_done ?_
  refine s_seq ?_
  refine s_seq ?_
  refine s_region ?_
  refine s_q (y_assign rfl) rfl ?_
  refine s_done ?_
  refine s_block ?_
  have hkl : (keptL l).length ≤ 200 := by
    rw [keptL]; split
    · exact Nat.le_trans (List.length_filter_le _ _) (by simp)
    · simp
  refine s_loopV (σ := Nat) (fun s => [(17, .int .i64 s)]) (fun s => []) (fun s => (s ≤ vars.length)) (fun s => vars.length - s) (0) [(0, _), (1, _), (2, _), (9, _), (16, _)] ⟨rfl, rfl, rfl, rfl, rfl, trivial⟩ ⟨rfl, trivial⟩ tk (Nat.zero_le _) ?_
  rintro i hi
  try dsimp only [List.cons_append, List.nil_append, List.append_nil] at hi ⊢
  refine s_seq ?_
  refine s_seq ?_
  refine s_region ?_
  refine s_q (y_move rfl) rfl ?_
  refine s_q (y_move rfl) rfl ?_
  refine s_q (y_lenS rfl rfl rfl) rfl ?_
  refine s_q (y_lss rfl rfl) rfl ?_
  refine s_done ?_
  refine s_cond rfl (fun g3 => ?_) (fun g3 => ?_)
  · have hil : i < vars.length := by omega
    have hwi := b3 _ (getD_mem 0 (l := weight) (k := i) (by omega))
    simp only [inB, decide_eq_true_eq] at hwi
    obtain ⟨x, hx⟩ : ∃ x, vars.getD i 0 = x := ⟨_, rfl⟩
    refine s_skip ?_
    refine s_seq ?_
    refine s_block ?_
    refine s_seq ?_
    refine s_region ?_
    refine s_q (y_assign rfl) rfl ?_
    refine s_q (y_assign rfl) rfl ?_
    refine s_done ?_
    refine s_seq ?_
    refine s_seq ?_
    refine s_region ?_
    refine s_q (y_assign rfl) rfl ?_
    refine s_done ?_
    refine s_block ?_
    refine s_loopV (σ := Nat × Bool × Bool) (fun s => [(20, .int .i64 s.1), (18, .bool s.2.1), (19, .bool s.2.2)]) (fun s => []) (fun s => (s.1 ≤ l.length) ∧ (s.2.1 = true ↔ ∃ b ∈ l.take s.1, x ∈ b.vars) ∧ (s.2.2 = true ↔ ∃ b ∈ l.take s.1, hasC b x)) (fun s => l.length - s.1) (0, false, false) [(0, _), (1, _), (2, _), (9, _), (16, _), (17, _)] ⟨rfl, rfl, rfl, rfl, rfl, rfl, trivial⟩ ⟨rfl, rfl, rfl, trivial⟩ tk ⟨Nat.zero_le _, by simp, by simp⟩ ?_
    rintro ⟨n, u, v⟩ ⟨hn, hu, hv2⟩
    try dsimp only [List.cons_append, List.nil_append, List.append_nil] at hn hu hv2 ⊢
    refine s_seq ?_
    refine s_seq ?_
    refine s_region ?_
    refine s_q (y_move rfl) rfl ?_
    refine s_q (y_move rfl) rfl ?_
    refine s_q (y_lenS rfl rfl rfl) rfl ?_
    refine s_q (y_lss rfl rfl) rfl ?_
    refine s_done ?_
    refine s_cond rfl (fun g4 => ?_) (fun g4 => ?_)
    · have hnl : n < l.length := by omega
      have hm := getD_mem BrD.no hnl
      obtain ⟨b, hb⟩ : ∃ b, l.getD n .no = b := ⟨_, rfl⟩
      have hrb := hre _ hm
      have hbv := hzb _ hm
      have hrow := hl0.row _ hm
      rw [hb] at hm hrb hbv hrow
      have hlc := hrb.lc
      have hkc := hrow.c
      have htk : l.take (n + 1) = l.take n ++ [b] := by rw [take_D .no hnl, hb]
      refine s_skip ?_
      refine s_seq ?_
      refine s_block ?_
      refine s_seq ?_
      refine d_start ?_
      refine d_take 0 rfl (by kernel_rfl) (by exact y_move rfl) rfl ?_
      refine d_take 1 rfl (by kernel_rfl) (by exact y_move rfl) rfl ?_
      refine d_take 2 rfl (by kernel_rfl) (by (first | exact y_ixE hl0.blk rfl rfl rfl rfl rfl rfl (by omega) (by omega) | exact y_ixI rfl rfl rfl rfl rfl hv rfl (by omega) (by omega) | exact y_ixI rfl rfl rfl rfl rfl (by assumption) rfl (by omega) (by omega))) rfl ?_
      refine d_take 3 rfl (by kernel_rfl) (by (first | exact y_fieldAddrB rfl rfl rfl rfl rfl rfl | exact y_fieldAddr rfl rfl rfl rfl rfl rfl)) rfl ?_
      refine d_take 4 rfl (by kernel_rfl) (by (first | exact y_ldF (off := 0) (v := .slice b.A b.vars.length b.c) hl0.blk rfl rfl rfl (by omega) (by rw [hb]; rfl) | exact y_ldK rfl rfl rfl rfl hv (by omega) | exact y_ld rfl rfl rfl (by rfl) | exact y_ldN rfl rfl rfl (by rfl) | exact y_ldK rfl rfl rfl rfl (by assumption) (by omega) | exact y_ldI rfl rfl rfl rfl (by assumption) (by omega) (by omega))) rfl ?_
      refine d_take 5 rfl (by kernel_rfl) (by exact y_move rfl) rfl ?_
      refine d_take 6 rfl (by kernel_rfl) (by exact y_move rfl) rfl ?_
      refine d_take 7 rfl (by kernel_rfl) (by (first | exact y_ixE hl0.blk rfl rfl rfl rfl rfl rfl (by omega) (by omega) | exact y_ixI rfl rfl rfl rfl rfl hv rfl (by omega) (by omega) | exact y_ixI rfl rfl rfl rfl rfl (by assumption) rfl (by omega) (by omega))) rfl ?_
      refine d_take 8 rfl (by kernel_rfl) (by (first | exact y_ldF (off := 0) (v := .slice b.A b.vars.length b.c) hl0.blk rfl rfl rfl (by omega) (by rw [hb]; rfl) | exact y_ldK rfl rfl rfl rfl hv (by omega) | exact y_ld rfl rfl rfl (by rfl) | exact y_ldN rfl rfl rfl (by rfl) | exact y_ldK rfl rfl rfl rfl (by assumption) (by omega) | exact y_ldI rfl rfl rfl rfl (by assumption) (by omega) (by omega))) rfl ?_
      refine d_effM 9 [8, 7, 6, 5, 4, 3, 2, 1, 0] [false, true, true, true, false, true, true, true, true] rfl (by kernel_rfl) rfl (by kernel_rfl) (fun K hK => ?_)
      refine s_call (pre := []) (rem := _) rfl rfl tk (fun w N ho hl => at_spec w N b.A b.c b.vars.length b.vars (vars.getD i 0) rfl ho (hrow.v.of hl) (by omega)) rfl ?_
      rintro e L' ⟨z1, hz1', rfl, rfl⟩
      try simp only [List.nil_append, List.cons_append, List.append_nil]
      refine s_done ?_
      refine hK _ _ (by refine rm_skip ?_; refine rm_yd rfl (by (first | exact y_ixE hl0.blk rfl rfl rfl rfl rfl rfl (by omega) (by omega) | exact y_ixI rfl rfl rfl rfl rfl hv rfl (by omega) (by omega) | exact y_ixI rfl rfl rfl rfl rfl (by assumption) rfl (by omega) (by omega))) ?_; refine rm_yd rfl (by exact y_move rfl) ?_; refine rm_yd rfl (by exact y_move rfl) ?_; refine rm_skip ?_; refine rm_yd rfl (by (first | exact y_fieldAddrB rfl rfl rfl rfl rfl rfl | exact y_fieldAddr rfl rfl rfl rfl rfl rfl)) ?_; refine rm_yd rfl (by (first | exact y_ixE hl0.blk rfl rfl rfl rfl rfl rfl (by omega) (by omega) | exact y_ixI rfl rfl rfl rfl rfl hv rfl (by omega) (by omega) | exact y_ixI rfl rfl rfl rfl rfl (by assumption) rfl (by omega) (by omega))) ?_; refine rm_yd rfl (by exact y_move rfl) ?_; refine rm_yd rfl (by exact y_move rfl) ?_; exact rm_nil) ?_
      clear hK K
      refine d_take 10 rfl (by kernel_rfl) (by exact y_assign rfl) rfl ?_
      refine d_done (by kernel_rfl) ?_
      rw [hx] at hz1'
      have hmem := at_mem hz1'
      have hcol : ∀ j : Nat, z1 = j → j < b.vars.length ∧ (hasC b x ↔ 0 ≤ b.cols.getD j 0) := fun j hj => by
        rcases hz1' with ⟨e, _⟩ | ⟨j', e, hj', e2⟩
        · omega
        · have : j' = j := by omega
          subst this
          refine ⟨hj', fun ⟨q, q1, q2, q3⟩ => ?_, fun h => ⟨j', hj', e2, h⟩⟩
          by_cases e3 : q = j'
          · subst e3; exact q3
          · exact absurd (q2.trans e2.symm) (risB_ne hrb.ris q1 hj' e3)
      have hnoc : z1 < 0 → ¬ hasC b x := fun h ⟨q, q1, q2, q3⟩ => by
        have : x ∈ b.vars := by rw [← q2]; exact getD_mem 0 q1
        have := hmem.2 this; omega
      have hzlt : 0 ≤ z1 → z1 < b.vars.length := fun h => by have := (hcol z1.toNat (by omega)).1; omega
      have hC : 0 ≤ z1 → (hasC b x ↔ 0 ≤ b.cols.getD z1.toNat 0) := fun h => (hcol z1.toNat (by omega)).2
      have hu' : (∃ b' ∈ l.take (n + 1), x ∈ b'.vars) ↔ (u = true ∨ 0 ≤ z1) := by
        rw [htk, hu, hmem]; simp only [List.mem_append, List.mem_singleton]
        exact ⟨fun ⟨y, h, hy⟩ => h.elim (fun h => .inl ⟨y, h, hy⟩) (fun h => .inr (by rw [← h]; exact hy)), fun h => h.elim (fun ⟨y, h, hy⟩ => ⟨y, .inl h, hy⟩) (fun h => ⟨b, .inr rfl, h⟩)⟩
      have hv' : (∃ b' ∈ l.take (n + 1), hasC b' x) ↔ (v = true ∨ hasC b x) := by
        rw [htk, hv2]; simp only [List.mem_append, List.mem_singleton]
        exact ⟨fun ⟨y, h, hy⟩ => h.elim (fun h => .inl ⟨y, h, hy⟩) (fun h => .inr (by rw [← h]; exact hy)), fun h => h.elim (fun ⟨y, h, hy⟩ => ⟨y, .inl h, hy⟩) (fun h => ⟨b, .inr rfl, h⟩)⟩
      clear hu hv2 hz1' hmem hcol
      refine s_seq ?_
      refine s_region ?_
      refine s_q (y_move rfl) rfl ?_
      refine s_q (y_move rfl) rfl ?_
      first | refine J.split (t := 18) rfl (fun c1 => ?_) (fun c1 => ?_) | refine J.splitb (t := 18) rfl (fun c1 => ?_) (fun c1 => ?_)
      · skip
        first | refine J.known (t := 114) (b := true) rfl (decide_eq_true c1) ?_ | refine J.known (t := 114) (b := true) rfl c1 ?_
        refine s_unguard2 (b := true) rfl rfl rfl rfl rfl ?_
        refine s_unguard2 (b := true) rfl rfl rfl rfl rfl ?_
        refine s_q (y_pickT rfl rfl) rfl ?_
        refine s_q (y_assign rfl) rfl ?_
        refine s_done ?_
        refine s_region ?_
        refine s_q (y_move rfl) rfl ?_
        refine s_q (y_move rfl) rfl ?_
        first | refine J.split (t := 19) rfl (fun c2 => ?_) (fun c2 => ?_) | refine J.splitb (t := 19) rfl (fun c2 => ?_) (fun c2 => ?_)
        · skip
          first | refine J.known (t := 119) (b := true) rfl (decide_eq_true c2) ?_ | refine J.known (t := 119) (b := true) rfl c2 ?_
          refine s_unguard2 (b := true) rfl rfl rfl rfl rfl ?_
          refine s_unguard2 (b := true) rfl rfl rfl rfl rfl ?_
          refine s_unguard2 (b := true) rfl rfl rfl rfl rfl ?_
          refine s_unguardU rfl rfl rfl ?_
          refine s_unguardU rfl rfl rfl ?_
          refine s_unguardU rfl rfl rfl ?_
          refine s_unguardU rfl rfl rfl ?_
          refine s_unguardU rfl rfl rfl ?_
          refine s_unguardU rfl rfl rfl ?_
          refine s_unguardU rfl rfl rfl ?_
          refine s_unguardU rfl rfl rfl ?_
          refine s_unguardU rfl rfl rfl ?_
          refine s_unguard2 (b := true) rfl rfl rfl rfl rfl ?_
          refine s_q (y_pickT rfl rfl) rfl ?_
          refine s_q (y_assign rfl) rfl ?_
          refine s_done ?_
          refine s_endb ?_
          refine s_region ?_
          refine s_q (y_move rfl) rfl ?_
          refine s_q (y_add rfl rfl (by omega)) rfl ?_
          refine s_q (y_assign rfl) rfl ?_
          refine s_done ?_
          refine s_inv (n + 1, true, true) ⟨(by (try dsimp only); omega), by (try dsimp only); rw [hu']; grind, by (try dsimp only); rw [hv']; grind⟩ (by (try dsimp only); omega) ⟨rfl, rfl, rfl, rfl, rfl, rfl, rfl, rfl, rfl, trivial⟩ tk
        first | refine J.known (t := 119) (b := false) rfl (decide_eq_false c2) ?_ | refine J.known (t := 119) (b := false) rfl c2 ?_
        refine s_guard rfl rfl ?_
        refine s_q (y_move rfl) rfl ?_
        refine s_guard rfl rfl ?_
        refine s_q (y_geq rfl rfl) rfl ?_
        refine s_guard rfl rfl ?_
        refine s_q (y_move rfl) rfl ?_
        first | refine J.split (t := 121) rfl (fun c3 => ?_) (fun c3 => ?_) | refine J.splitb (t := 121) rfl (fun c3 => ?_) (fun c3 => ?_)
        · skip
          first | refine J.known (t := 122) (b := true) rfl (decide_eq_true c3) ?_ | refine J.known (t := 122) (b := true) rfl c3 ?_
          refine s_guard rfl rfl ?_
          refine s_q (y_move rfl) rfl ?_
          refine s_guard rfl rfl ?_
          refine s_q (y_move rfl) rfl ?_
          refine s_guard rfl rfl ?_
          refine s_q (by (first | exact y_ixE hl0.blk rfl rfl rfl rfl rfl rfl (by omega) (by omega) | exact y_ixI rfl rfl rfl rfl rfl hkc rfl (by omega) (by omega) | exact y_ixI rfl rfl rfl rfl rfl (by assumption) rfl (by omega) (by omega))) rfl ?_
          refine s_guard rfl rfl ?_
          refine s_q (by (first | exact y_fieldAddrB rfl rfl rfl rfl rfl rfl | exact y_fieldAddr rfl rfl rfl rfl rfl rfl)) rfl ?_
          refine s_guard rfl rfl ?_
          refine s_q (by (first | exact y_ldF (off := 1) (v := .slice b.B b.cols.length b.d) hl0.blk rfl rfl rfl (by omega) (by rw [hb]; rfl) | exact y_ldI rfl rfl rfl rfl hkc (by omega) (by omega) | exact y_ld rfl rfl rfl (by rfl) | exact y_ldN rfl rfl rfl (by rfl) | exact y_ldK rfl rfl rfl rfl (by assumption) (by omega) | exact y_ldI rfl rfl rfl rfl (by assumption) (by omega) (by omega))) rfl ?_
          refine s_guard rfl rfl ?_
          refine s_q (y_move rfl) rfl ?_
          refine s_guard rfl rfl ?_
          refine s_q (by (first | exact y_ixE hl0.blk rfl rfl rfl rfl rfl rfl (by omega) (by omega) | exact y_ixI rfl rfl rfl rfl rfl hkc rfl (by omega) (by omega) | exact y_ixI rfl rfl rfl rfl rfl (by assumption) rfl (by omega) (by omega))) rfl ?_
          refine s_guard rfl rfl ?_
          refine s_q (by (first | exact y_ldF (off := 1) (v := .slice b.B b.cols.length b.d) hl0.blk rfl rfl rfl (by omega) (by rw [hb]; rfl) | exact y_ldI rfl rfl rfl rfl hkc (by omega) (by omega) | exact y_ld rfl rfl rfl (by rfl) | exact y_ldN rfl rfl rfl (by rfl) | exact y_ldK rfl rfl rfl rfl (by assumption) (by omega) | exact y_ldI rfl rfl rfl rfl (by assumption) (by omega) (by omega))) rfl ?_
          refine s_guard rfl rfl ?_
          refine s_q (y_geq rfl rfl) rfl ?_
          refine s_guard rfl rfl ?_
          refine s_q (y_pickT rfl rfl) rfl ?_
          refine s_q (y_pickF rfl rfl) rfl ?_
          refine s_q (y_assign rfl) rfl ?_
          refine s_done ?_
          refine s_endb ?_
          refine s_region ?_
          refine s_q (y_move rfl) rfl ?_
          refine s_q (y_add rfl rfl (by omega)) rfl ?_
          refine s_q (y_assign rfl) rfl ?_
          refine s_done ?_
          first | refine J.split (t := 131) rfl (fun c4 => ?_) (fun c4 => ?_) | refine J.splitb (t := 131) rfl (fun c4 => ?_) (fun c4 => ?_)
          · skip
            first | refine J.known (t := 19) (b := true) rfl (decide_eq_true c4) ?_ | refine J.known (t := 19) (b := true) rfl c4 ?_
            refine s_inv (n + 1, true, true) ⟨(by (try dsimp only); omega), by (try dsimp only); rw [hu']; grind, by (try dsimp only); rw [hv']; grind⟩ (by (try dsimp only); omega) ⟨rfl, rfl, rfl, rfl, rfl, rfl, rfl, rfl, rfl, trivial⟩ tk
          first | refine J.known (t := 19) (b := false) rfl (decide_eq_false c4) ?_ | refine J.known (t := 19) (b := false) rfl c4 ?_
          refine s_inv (n + 1, true, false) ⟨(by (try dsimp only); omega), by (try dsimp only); rw [hu']; grind, by (try dsimp only); rw [hv']; grind⟩ (by (try dsimp only); omega) ⟨rfl, rfl, rfl, rfl, rfl, rfl, rfl, rfl, rfl, trivial⟩ tk
        first | refine J.known (t := 122) (b := false) rfl (decide_eq_false c3) ?_ | refine J.known (t := 122) (b := false) rfl c3 ?_
        refine s_unguard2 (b := false) rfl rfl rfl rfl rfl ?_
        refine s_unguard2 (b := false) rfl rfl rfl rfl rfl ?_
        refine s_unguard2 (b := false) rfl rfl rfl rfl rfl ?_
        refine s_unguard2 (b := false) rfl rfl rfl rfl rfl ?_
        refine s_unguard2 (b := false) rfl rfl rfl rfl rfl ?_
        refine s_unguard2 (b := false) rfl rfl rfl rfl rfl ?_
        refine s_unguard2 (b := false) rfl rfl rfl rfl rfl ?_
        refine s_unguard2 (b := false) rfl rfl rfl rfl rfl ?_
        refine s_unguard2 (b := false) rfl rfl rfl rfl rfl ?_
        refine s_guard rfl rfl ?_
        refine s_q (y_pickF rfl rfl) rfl ?_
        refine s_q (y_pickF rfl rfl) rfl ?_
        refine s_q (y_assign rfl) rfl ?_
        refine s_done ?_
        refine s_endb ?_
        refine s_region ?_
        refine s_q (y_move rfl) rfl ?_
        refine s_q (y_add rfl rfl (by omega)) rfl ?_
        refine s_q (y_assign rfl) rfl ?_
        refine s_done ?_
        refine s_inv (n + 1, true, false) ⟨(by (try dsimp only); omega), by (try dsimp only); rw [hu']; grind, by (try dsimp only); rw [hv']; grind⟩ (by (try dsimp only); omega) ⟨rfl, rfl, rfl, rfl, rfl, rfl, rfl, rfl, rfl, trivial⟩ tk
      first | refine J.known (t := 114) (b := false) rfl (decide_eq_false c1) ?_ | refine J.known (t := 114) (b := false) rfl c1 ?_
      refine s_guard rfl rfl ?_
      refine s_q (y_move rfl) rfl ?_
      refine s_guard rfl rfl ?_
      refine s_q (y_geq rfl rfl) rfl ?_
      refine s_q (y_pickF rfl rfl) rfl ?_
      refine s_q (y_assign rfl) rfl ?_
      refine s_done ?_
      refine s_region ?_
      refine s_q (y_move rfl) rfl ?_
      refine s_q (y_move rfl) rfl ?_
      first | refine J.split (t := 19) rfl (fun c2 => ?_) (fun c2 => ?_) | refine J.splitb (t := 19) rfl (fun c2 => ?_) (fun c2 => ?_)
      · skip
        first | refine J.known (t := 119) (b := true) rfl (decide_eq_true c2) ?_ | refine J.known (t := 119) (b := true) rfl c2 ?_
        refine s_unguard2 (b := true) rfl rfl rfl rfl rfl ?_
        refine s_unguard2 (b := true) rfl rfl rfl rfl rfl ?_
        refine s_unguard2 (b := true) rfl rfl rfl rfl rfl ?_
        refine s_unguardU rfl rfl rfl ?_
        refine s_unguardU rfl rfl rfl ?_
        refine s_unguardU rfl rfl rfl ?_
        refine s_unguardU rfl rfl rfl ?_
        refine s_unguardU rfl rfl rfl ?_
        refine s_unguardU rfl rfl rfl ?_
        refine s_unguardU rfl rfl rfl ?_
        refine s_unguardU rfl rfl rfl ?_
        refine s_unguardU rfl rfl rfl ?_
        refine s_unguard2 (b := true) rfl rfl rfl rfl rfl ?_
        refine s_q (y_pickT rfl rfl) rfl ?_
        refine s_q (y_assign rfl) rfl ?_
        refine s_done ?_
        refine s_endb ?_
        refine s_region ?_
        refine s_q (y_move rfl) rfl ?_
        refine s_q (y_add rfl rfl (by omega)) rfl ?_
        refine s_q (y_assign rfl) rfl ?_
        refine s_done ?_
        first | refine J.split (t := 116) rfl (fun c3 => ?_) (fun c3 => ?_) | refine J.splitb (t := 116) rfl (fun c3 => ?_) (fun c3 => ?_)
        · skip
          first | refine J.known (t := 18) (b := true) rfl (decide_eq_true c3) ?_ | refine J.known (t := 18) (b := true) rfl c3 ?_
          refine s_inv (n + 1, true, true) ⟨(by (try dsimp only); omega), by (try dsimp only); rw [hu']; grind, by (try dsimp only); rw [hv']; grind⟩ (by (try dsimp only); omega) ⟨rfl, rfl, rfl, rfl, rfl, rfl, rfl, rfl, rfl, trivial⟩ tk
        first | refine J.known (t := 18) (b := false) rfl (decide_eq_false c3) ?_ | refine J.known (t := 18) (b := false) rfl c3 ?_
        refine s_inv (n + 1, false, true) ⟨(by (try dsimp only); omega), by (try dsimp only); rw [hu']; grind, by (try dsimp only); rw [hv']; grind⟩ (by (try dsimp only); omega) ⟨rfl, rfl, rfl, rfl, rfl, rfl, rfl, rfl, rfl, trivial⟩ tk
      first | refine J.known (t := 119) (b := false) rfl (decide_eq_false c2) ?_ | refine J.known (t := 119) (b := false) rfl c2 ?_
      refine s_guard rfl rfl ?_
      refine s_q (y_move rfl) rfl ?_
      refine s_guard rfl rfl ?_
      refine s_q (y_geq rfl rfl) rfl ?_
      refine s_guard rfl rfl ?_
      refine s_q (y_move rfl) rfl ?_
      first | refine J.split (t := 121) rfl (fun c3 => ?_) (fun c3 => ?_) | refine J.splitb (t := 121) rfl (fun c3 => ?_) (fun c3 => ?_)
      · skip
        first | refine J.known (t := 122) (b := true) rfl (decide_eq_true c3) ?_ | refine J.known (t := 122) (b := true) rfl c3 ?_
        refine s_guard rfl rfl ?_
        refine s_q (y_move rfl) rfl ?_
        refine s_guard rfl rfl ?_
        refine s_q (y_move rfl) rfl ?_
        refine s_guard rfl rfl ?_
        refine s_q (by (first | exact y_ixE hl0.blk rfl rfl rfl rfl rfl rfl (by omega) (by omega) | exact y_ixI rfl rfl rfl rfl rfl hkc rfl (by omega) (by omega) | exact y_ixI rfl rfl rfl rfl rfl (by assumption) rfl (by omega) (by omega))) rfl ?_
        refine s_guard rfl rfl ?_
        refine s_q (by (first | exact y_fieldAddrB rfl rfl rfl rfl rfl rfl | exact y_fieldAddr rfl rfl rfl rfl rfl rfl)) rfl ?_
        refine s_guard rfl rfl ?_
        refine s_q (by (first | exact y_ldF (off := 1) (v := .slice b.B b.cols.length b.d) hl0.blk rfl rfl rfl (by omega) (by rw [hb]; rfl) | exact y_ldI rfl rfl rfl rfl hkc (by omega) (by omega) | exact y_ld rfl rfl rfl (by rfl) | exact y_ldN rfl rfl rfl (by rfl) | exact y_ldK rfl rfl rfl rfl (by assumption) (by omega) | exact y_ldI rfl rfl rfl rfl (by assumption) (by omega) (by omega))) rfl ?_
        refine s_guard rfl rfl ?_
        refine s_q (y_move rfl) rfl ?_
        refine s_guard rfl rfl ?_
        refine s_q (by (first | exact y_ixE hl0.blk rfl rfl rfl rfl rfl rfl (by omega) (by omega) | exact y_ixI rfl rfl rfl rfl rfl hkc rfl (by omega) (by omega) | exact y_ixI rfl rfl rfl rfl rfl (by assumption) rfl (by omega) (by omega))) rfl ?_
        refine s_guard rfl rfl ?_
        refine s_q (by (first | exact y_ldF (off := 1) (v := .slice b.B b.cols.length b.d) hl0.blk rfl rfl rfl (by omega) (by rw [hb]; rfl) | exact y_ldI rfl rfl rfl rfl hkc (by omega) (by omega) | exact y_ld rfl rfl rfl (by rfl) | exact y_ldN rfl rfl rfl (by rfl) | exact y_ldK rfl rfl rfl rfl (by assumption) (by omega) | exact y_ldI rfl rfl rfl rfl (by assumption) (by omega) (by omega))) rfl ?_
        refine s_guard rfl rfl ?_
        refine s_q (y_geq rfl rfl) rfl ?_
        refine s_guard rfl rfl ?_
        refine s_q (y_pickT rfl rfl) rfl ?_
        refine s_q (y_pickF rfl rfl) rfl ?_
        refine s_q (y_assign rfl) rfl ?_
        refine s_done ?_
        refine s_endb ?_
        refine s_region ?_
        refine s_q (y_move rfl) rfl ?_
        refine s_q (y_add rfl rfl (by omega)) rfl ?_
        refine s_q (y_assign rfl) rfl ?_
        refine s_done ?_
        first | refine J.split (t := 116) rfl (fun c4 => ?_) (fun c4 => ?_) | refine J.splitb (t := 116) rfl (fun c4 => ?_) (fun c4 => ?_)
        · skip
          first | refine J.known (t := 18) (b := true) rfl (decide_eq_true c4) ?_ | refine J.known (t := 18) (b := true) rfl c4 ?_
          first | refine J.split (t := 131) rfl (fun c5 => ?_) (fun c5 => ?_) | refine J.splitb (t := 131) rfl (fun c5 => ?_) (fun c5 => ?_)
          · skip
            first | refine J.known (t := 19) (b := true) rfl (decide_eq_true c5) ?_ | refine J.known (t := 19) (b := true) rfl c5 ?_
            refine s_inv (n + 1, true, true) ⟨(by (try dsimp only); omega), by (try dsimp only); rw [hu']; grind, by (try dsimp only); rw [hv']; grind⟩ (by (try dsimp only); omega) ⟨rfl, rfl, rfl, rfl, rfl, rfl, rfl, rfl, rfl, trivial⟩ tk
          first | refine J.known (t := 19) (b := false) rfl (decide_eq_false c5) ?_ | refine J.known (t := 19) (b := false) rfl c5 ?_
          refine s_inv (n + 1, true, false) ⟨(by (try dsimp only); omega), by (try dsimp only); rw [hu']; grind, by (try dsimp only); rw [hv']; grind⟩ (by (try dsimp only); omega) ⟨rfl, rfl, rfl, rfl, rfl, rfl, rfl, rfl, rfl, trivial⟩ tk
        first | refine J.known (t := 18) (b := false) rfl (decide_eq_false c4) ?_ | refine J.known (t := 18) (b := false) rfl c4 ?_
        first | refine J.split (t := 131) rfl (fun c5 => ?_) (fun c5 => ?_) | refine J.splitb (t := 131) rfl (fun c5 => ?_) (fun c5 => ?_)
        · skip
          first | refine J.known (t := 19) (b := true) rfl (decide_eq_true c5) ?_ | refine J.known (t := 19) (b := true) rfl c5 ?_
          refine s_inv (n + 1, false, true) ⟨(by (try dsimp only); omega), by (try dsimp only); rw [hu']; grind, by (try dsimp only); rw [hv']; grind⟩ (by (try dsimp only); omega) ⟨rfl, rfl, rfl, rfl, rfl, rfl, rfl, rfl, rfl, trivial⟩ tk
        first | refine J.known (t := 19) (b := false) rfl (decide_eq_false c5) ?_ | refine J.known (t := 19) (b := false) rfl c5 ?_
        refine s_inv (n + 1, false, false) ⟨(by (try dsimp only); omega), by (try dsimp only); rw [hu']; grind, by (try dsimp only); rw [hv']; grind⟩ (by (try dsimp only); omega) ⟨rfl, rfl, rfl, rfl, rfl, rfl, rfl, rfl, rfl, trivial⟩ tk
      first | refine J.known (t := 122) (b := false) rfl (decide_eq_false c3) ?_ | refine J.known (t := 122) (b := false) rfl c3 ?_
      refine s_unguard2 (b := false) rfl rfl rfl rfl rfl ?_
      refine s_unguard2 (b := false) rfl rfl rfl rfl rfl ?_
      refine s_unguard2 (b := false) rfl rfl rfl rfl rfl ?_
      refine s_unguard2 (b := false) rfl rfl rfl rfl rfl ?_
      refine s_unguard2 (b := false) rfl rfl rfl rfl rfl ?_
      refine s_unguard2 (b := false) rfl rfl rfl rfl rfl ?_
      refine s_unguard2 (b := false) rfl rfl rfl rfl rfl ?_
      refine s_unguard2 (b := false) rfl rfl rfl rfl rfl ?_
      refine s_unguard2 (b := false) rfl rfl rfl rfl rfl ?_
      refine s_guard rfl rfl ?_
      refine s_q (y_pickF rfl rfl) rfl ?_
      refine s_q (y_pickF rfl rfl) rfl ?_
      refine s_q (y_assign rfl) rfl ?_
      refine s_done ?_
      refine s_endb ?_
      refine s_region ?_
      refine s_q (y_move rfl) rfl ?_
      refine s_q (y_add rfl rfl (by omega)) rfl ?_
      refine s_q (y_assign rfl) rfl ?_
      refine s_done ?_
      first | refine J.split (t := 116) rfl (fun c4 => ?_) (fun c4 => ?_) | refine J.splitb (t := 116) rfl (fun c4 => ?_) (fun c4 => ?_)
      · skip
        first | refine J.known (t := 18) (b := true) rfl (decide_eq_true c4) ?_ | refine J.known (t := 18) (b := true) rfl c4 ?_
        refine s_inv (n + 1, true, false) ⟨(by (try dsimp only); omega), by (try dsimp only); rw [hu']; grind, by (try dsimp only); rw [hv']; grind⟩ (by (try dsimp only); omega) ⟨rfl, rfl, rfl, rfl, rfl, rfl, rfl, rfl, rfl, trivial⟩ tk
      first | refine J.known (t := 18) (b := false) rfl (decide_eq_false c4) ?_ | refine J.known (t := 18) (b := false) rfl c4 ?_
      refine s_inv (n + 1, false, false) ⟨(by (try dsimp only); omega), by (try dsimp only); rw [hu']; grind, by (try dsimp only); rw [hv']; grind⟩ (by (try dsimp only); omega) ⟨rfl, rfl, rfl, rfl, rfl, rfl, rfl, rfl, rfl, trivial⟩ tk
    · have hnl : n = l.length := by omega
      subst hnl
      rw [List.take_length] at hu hv2
      obtain ⟨ai, hai⟩ : ∃ ai, (worthL vars weight l).getD i 0 = ai := ⟨_, rfl⟩
      have hae := hai
      rw [worth_at hil, hx] at hae
      have q1 : 0 ≤ ai := by omega
      have q2 : u = false → ai = weight.getD i 0 := fun h => by
        have := dls_none hre (x := x) (fun b hb hxb => by rw [hu.2 ⟨b, hb, hxb⟩] at h; cases h); omega
      have q3 : x ∈ keptL l → weight.getD i 0 ≤ ai := fun h => by have := dls_ge hre (kept_sp h); omega
      have q4 : v = false → ai ≤ weight.getD i 0 := fun h => by
        have := dls_le hre (x := x) (fun b hb hxb => by rw [hv2.2 ⟨b, hb, hxb⟩] at h; cases h); omega
      refine s_exit rfl ?_
      refine s_seq ?_
      refine s_joinV (σ := Bool) (fun s => [(188, .bool s)]) [] (fun s => []) (fun s => (s = false)) [(0, _), (1, _), (2, _), (9, _), (16, _), (17, _)] ⟨rfl, rfl, rfl, rfl, rfl, rfl, trivial⟩ tk (fun k' hr => ?_) ?_
      · refine d_start ?_
        refine d_take 0 rfl (by kernel_rfl) (y_move rfl) rfl ?_
        refine d_take 1 rfl (by kernel_rfl) (y_move rfl) rfl ?_
        refine d_take 2 rfl (by kernel_rfl) (by (first | exact y_ixO rfl rfl rfl rfl rfl (by omega) (by omega) (by omega) | exact y_ixI rfl rfl rfl rfl rfl hw rfl (by omega) (by omega) | exact y_ixI rfl rfl rfl rfl rfl hv rfl (by omega) (by omega) | exact y_ixI rfl rfl rfl rfl rfl (by assumption) rfl (by omega) (by omega))) rfl ?_
        refine d_take 3 rfl (by kernel_rfl) (by (first | exact y_as (y_ldOi rfl rfl rfl rfl (by omega)) (congrArg (Value.int .i64) hai) | exact y_ldK rfl rfl rfl rfl hw (by omega) | exact y_as (y_ldK rfl rfl rfl rfl hv (by omega)) (congrArg (Value.int .i64) hx) | exact y_ld rfl rfl rfl (by rfl) | exact y_ldN rfl rfl rfl (by rfl) | exact y_ldK rfl rfl rfl rfl (by assumption) (by omega) | exact y_ldI rfl rfl rfl rfl (by assumption) (by omega) (by omega))) rfl ?_
        refine d_take 4 rfl (by kernel_rfl) (y_lss rfl rfl) rfl ?_
        refine d_take 5 rfl (by kernel_rfl) (y_move rfl) rfl ?_
        first | refine d_split (t := 138) rfl (fun c1 => ?_) (fun c1 => ?_) | refine d_splitb (t := 138) rfl (fun c1 => ?_) (fun c1 => ?_)
        · skip
          first | refine d_known (t := 139) (b := true) rfl (decide_eq_true c1) ?_ | refine d_known (t := 139) (b := true) rfl c1 ?_
          refine d_skip 6 rfl (by kernel_rfl) (fun c e => by cases e) rfl rfl rfl rfl ?_
          refine d_skip 7 rfl (by kernel_rfl) (fun c e => by cases e) rfl rfl rfl rfl ?_
          refine d_skip 8 rfl (by kernel_rfl) (fun c e => by cases e) rfl rfl rfl rfl ?_
          refine d_skipU 9 rfl (by kernel_rfl) (fun c e => by cases e) rfl rfl rfl ?_
          refine d_skipU 10 rfl (by kernel_rfl) (fun c e => by cases e) rfl rfl rfl ?_
          refine d_skipU 11 rfl (by kernel_rfl) (fun c e => by cases e) rfl rfl rfl ?_
          refine d_skipU 12 rfl (by kernel_rfl) (fun c e => by cases e) rfl rfl rfl ?_
          refine d_skipU 13 rfl (by kernel_rfl) (fun c e => by cases e) rfl rfl rfl ?_
          refine d_skipU 14 rfl (by kernel_rfl) (fun c e => by cases e) rfl rfl rfl ?_
          refine d_skipU 15 rfl (by kernel_rfl) (fun c e => by cases e) rfl rfl rfl ?_
          refine d_skipU 16 rfl (by kernel_rfl) (fun c e => by cases e) rfl rfl rfl ?_
          refine d_skipU 17 rfl (by kernel_rfl) (fun c e => by cases e) rfl rfl rfl ?_
          refine d_skip 18 rfl (by kernel_rfl) (fun c e => by cases e) rfl rfl rfl rfl ?_
          refine d_take 19 rfl (by kernel_rfl) (y_pickT rfl rfl) rfl ?_
          refine d_take 20 rfl (by kernel_rfl) (y_move rfl) rfl ?_
          refine d_skip 21 rfl (by kernel_rfl) (fun c e => by cases e) rfl rfl rfl rfl ?_
          refine d_skip 22 rfl (by kernel_rfl) (fun c e => by cases e) rfl rfl rfl rfl ?_
          refine d_skip 23 rfl (by kernel_rfl) (fun c e => by cases e) rfl rfl rfl rfl ?_
          refine d_skip 24 rfl (by kernel_rfl) (fun c e => by cases e) rfl rfl rfl rfl ?_
          refine d_skip 25 rfl (by kernel_rfl) (fun c e => by cases e) rfl rfl rfl rfl ?_
          refine d_skip 26 rfl (by kernel_rfl) (fun c e => by cases e) rfl rfl rfl rfl ?_
          refine d_skip 27 rfl (by kernel_rfl) (fun c e => by cases e) rfl rfl rfl rfl ?_
          refine d_skip 28 rfl (by kernel_rfl) (fun c e => by cases e) rfl rfl rfl rfl ?_
          refine d_skipU 29 rfl (by kernel_rfl) (fun c e => by cases e) rfl rfl rfl ?_
          refine d_skipU 30 rfl (by kernel_rfl) (fun c e => by cases e) rfl rfl rfl ?_
          refine d_skipU 31 rfl (by kernel_rfl) (fun c e => by cases e) rfl rfl rfl ?_
          refine d_skipU 32 rfl (by kernel_rfl) (fun c e => by cases e) rfl rfl rfl ?_
          refine d_skipU 33 rfl (by kernel_rfl) (fun c e => by cases e) rfl rfl rfl ?_
          refine d_skipU 34 rfl (by kernel_rfl) (fun c e => by cases e) rfl rfl rfl ?_
          refine d_skipU 35 rfl (by kernel_rfl) (fun c e => by cases e) rfl rfl rfl ?_
          refine d_skipU 36 rfl (by kernel_rfl) (fun c e => by cases e) rfl rfl rfl ?_
          refine d_skipU 37 rfl (by kernel_rfl) (fun c e => by cases e) rfl rfl rfl ?_
          refine d_skip 38 rfl (by kernel_rfl) (fun c e => by cases e) rfl rfl rfl rfl ?_
          refine d_take 39 rfl (by kernel_rfl) (y_pickT rfl rfl) rfl ?_
          refine d_take 40 rfl (by kernel_rfl) (y_move rfl) rfl ?_
          refine d_skip 41 rfl (by kernel_rfl) (fun c e => by cases e) rfl rfl rfl rfl ?_
          refine d_skip 42 rfl (by kernel_rfl) (fun c e => by cases e) rfl rfl rfl rfl ?_
          refine d_skip 43 rfl (by kernel_rfl) (fun c e => by cases e) rfl rfl rfl rfl ?_
          refine d_skipU 44 rfl (by kernel_rfl) (fun c e => by cases e) rfl rfl rfl ?_
          refine d_skipU 45 rfl (by kernel_rfl) (fun c e => by cases e) rfl rfl rfl ?_
          refine d_skipU 46 rfl (by kernel_rfl) (fun c e => by cases e) rfl rfl rfl ?_
          refine d_skipU 47 rfl (by kernel_rfl) (fun c e => by cases e) rfl rfl rfl ?_
          refine d_skipU 48 rfl (by kernel_rfl) (fun c e => by cases e) rfl rfl rfl ?_
          refine d_skipU 49 rfl (by kernel_rfl) (fun c e => by cases e) rfl rfl rfl ?_
          refine d_skipU 50 rfl (by kernel_rfl) (fun c e => by cases e) rfl rfl rfl ?_
          refine d_skipU 51 rfl (by kernel_rfl) (fun c e => by cases e) rfl rfl rfl ?_
          refine d_skipU 52 rfl (by kernel_rfl) (fun c e => by cases e) rfl rfl rfl ?_
          refine d_skip 53 rfl (by kernel_rfl) (fun c e => by cases e) rfl rfl rfl rfl ?_
          refine d_take 54 rfl (by kernel_rfl) (y_pickT rfl rfl) rfl ?_
          refine d_done (by kernel_rfl) ?_
          have hr' := hr true (by grind)
          try dsimp only [List.cons_append, List.nil_append, List.append_nil] at hr'
          exact J.to hr' ⟨rfl, rfl, rfl, rfl, rfl, rfl, rfl, trivial⟩ tk
        first | refine d_known (t := 139) (b := false) rfl (decide_eq_false c1) ?_ | refine d_known (t := 139) (b := false) rfl c1 ?_
        refine d_takeG 6 rfl (by kernel_rfl) rfl rfl (y_move rfl) rfl ?_
        refine d_takeG 7 rfl (by kernel_rfl) rfl rfl (by (first | exact y_notT rfl | exact y_notF rfl | exact y_notp rfl | exact y_notb rfl)) rfl ?_
        refine d_takeG 8 rfl (by kernel_rfl) rfl rfl (y_move rfl) rfl ?_
        first | refine d_split (t := 18) rfl (fun c2 => ?_) (fun c2 => ?_) | refine d_splitb (t := 18) rfl (fun c2 => ?_) (fun c2 => ?_)
        · skip
          first | refine d_known (t := 142) (b := false) rfl (decide_eq_false (not_not_intro c2)) ?_ | refine d_known (t := 142) (b := false) rfl (congrArg not c2) ?_
          refine d_skip 9 rfl (by kernel_rfl) (fun c e => by cases e) rfl rfl rfl rfl ?_
          refine d_skip 10 rfl (by kernel_rfl) (fun c e => by cases e) rfl rfl rfl rfl ?_
          refine d_skip 11 rfl (by kernel_rfl) (fun c e => by cases e) rfl rfl rfl rfl ?_
          refine d_skip 12 rfl (by kernel_rfl) (fun c e => by cases e) rfl rfl rfl rfl ?_
          refine d_skip 13 rfl (by kernel_rfl) (fun c e => by cases e) rfl rfl rfl rfl ?_
          refine d_skip 14 rfl (by kernel_rfl) (fun c e => by cases e) rfl rfl rfl rfl ?_
          refine d_skip 15 rfl (by kernel_rfl) (fun c e => by cases e) rfl rfl rfl rfl ?_
          refine d_skip 16 rfl (by kernel_rfl) (fun c e => by cases e) rfl rfl rfl rfl ?_
          refine d_skip 17 rfl (by kernel_rfl) (fun c e => by cases e) rfl rfl rfl rfl ?_
          refine d_takeG 18 rfl (by kernel_rfl) rfl rfl (y_pickF rfl rfl) rfl ?_
          refine d_take 19 rfl (by kernel_rfl) (y_pickF rfl rfl) rfl ?_
          refine d_take 20 rfl (by kernel_rfl) (y_move rfl) rfl ?_
          refine d_takeG 21 rfl (by kernel_rfl) rfl rfl (y_move rfl) rfl ?_
          refine d_takeG 22 rfl (by kernel_rfl) rfl rfl (y_move rfl) rfl ?_
          refine d_takeG 23 rfl (by kernel_rfl) rfl rfl (y_move rfl) rfl ?_
          refine d_takeG 24 rfl (by kernel_rfl) rfl rfl (by (first | exact y_ixO rfl rfl rfl rfl rfl (by omega) (by omega) (by omega) | exact y_ixI rfl rfl rfl rfl rfl hw rfl (by omega) (by omega) | exact y_ixI rfl rfl rfl rfl rfl hv rfl (by omega) (by omega) | exact y_ixI rfl rfl rfl rfl rfl (by assumption) rfl (by omega) (by omega))) rfl ?_
          refine d_takeG 25 rfl (by kernel_rfl) rfl rfl (by (first | exact y_as (y_ldOi rfl rfl rfl rfl (by omega)) (congrArg (Value.int .i64) hai) | exact y_ldK rfl rfl rfl rfl hw (by omega) | exact y_as (y_ldK rfl rfl rfl rfl hv (by omega)) (congrArg (Value.int .i64) hx) | exact y_ld rfl rfl rfl (by rfl) | exact y_ldN rfl rfl rfl (by rfl) | exact y_ldK rfl rfl rfl rfl (by assumption) (by omega) | exact y_ldI rfl rfl rfl rfl (by assumption) (by omega) (by omega))) rfl ?_
          refine d_effM 26 [25, 24, 23, 22, 21, 20, 19, 18, 8, 7, 6, 5, 4, 3, 2, 1, 0] [false, true, true, true, false, false, true, true, true, true, true, true, true, true, true, true, true] rfl (by kernel_rfl) rfl (by kernel_rfl) (fun K hK => ?_)
          refine s_guard rfl rfl ?_
          refine s_call (pre := []) (rem := _) rfl rfl tk (fun w N ho hl => at_spec w N _ _ _ _ x rfl ho (KI.ofS hl (by repeat (first | exact List.mem_cons_self | refine List.mem_cons_of_mem _ ?_))) (by omega)) rfl ?_
          rintro e L' ⟨z3, hz3, rfl, rfl⟩
          try simp only [List.nil_append, List.cons_append, List.append_nil]
          have hz3' := at_mem hz3
          refine s_done ?_
          refine hK _ _ (by refine rm_skip ?_; refine rm_yd rfl (by (first | exact y_ixO rfl rfl rfl rfl rfl (by omega) (by omega) (by omega) | exact y_ixI rfl rfl rfl rfl rfl hw rfl (by omega) (by omega) | exact y_ixI rfl rfl rfl rfl rfl hv rfl (by omega) (by omega) | exact y_ixI rfl rfl rfl rfl rfl (by assumption) rfl (by omega) (by omega))) ?_; refine rm_yd rfl (by exact y_move rfl) ?_; refine rm_yd rfl (by exact y_move rfl) ?_; refine rm_skip ?_; refine rm_skip ?_; refine rm_yd rfl (by (first | exact y_pickT rfl rfl | exact y_pickF rfl rfl)) ?_; refine rm_yd rfl (by (first | exact y_pickT rfl rfl | exact y_pickF rfl rfl)) ?_; refine rm_yd rfl (by exact y_move rfl) ?_; refine rm_yd rfl (by (first | exact y_notT rfl | exact y_notF rfl | exact y_notp rfl | exact y_notb rfl)) ?_; refine rm_yd rfl (by exact y_move rfl) ?_; refine rm_yd rfl (by exact y_move rfl) ?_; refine rm_yd rfl (by exact y_lss rfl rfl) ?_; refine rm_yd rfl (by (first | exact y_as (y_ldOi rfl rfl rfl rfl (by omega)) (congrArg (Value.int .i64) hai) | exact y_ldK rfl rfl rfl rfl hw (by omega) | exact y_as (y_ldK rfl rfl rfl rfl hv (by omega)) (congrArg (Value.int .i64) hx) | exact y_ld rfl rfl rfl (by rfl) | exact y_ldN rfl rfl rfl (by rfl) | exact y_ldK rfl rfl rfl rfl (by assumption) (by omega) | exact y_ldI rfl rfl rfl rfl (by assumption) (by omega) (by omega))) ?_; refine rm_yd rfl (by (first | exact y_ixO rfl rfl rfl rfl rfl (by omega) (by omega) (by omega) | exact y_ixI rfl rfl rfl rfl rfl hw rfl (by omega) (by omega) | exact y_ixI rfl rfl rfl rfl rfl hv rfl (by omega) (by omega) | exact y_ixI rfl rfl rfl rfl rfl (by assumption) rfl (by omega) (by omega))) ?_; refine rm_yd rfl (by exact y_move rfl) ?_; refine rm_yd rfl (by exact y_move rfl) ?_; exact rm_nil) ?_
          clear hK K
          refine d_takeG 27 rfl (by kernel_rfl) rfl rfl (y_geq rfl rfl) rfl ?_
          refine d_takeG 28 rfl (by kernel_rfl) rfl rfl (y_move rfl) rfl ?_
          first | refine d_split (t := 161) rfl (fun c3 => ?_) (fun c3 => ?_) | refine d_splitb (t := 161) rfl (fun c3 => ?_) (fun c3 => ?_)
          · skip
            first | refine d_known (t := 162) (b := true) rfl (decide_eq_true c3) ?_ | refine d_known (t := 162) (b := true) rfl c3 ?_
            refine d_takeG 29 rfl (by kernel_rfl) rfl rfl (y_move rfl) rfl ?_
            refine d_takeG 30 rfl (by kernel_rfl) rfl rfl (y_move rfl) rfl ?_
            refine d_takeG 31 rfl (by kernel_rfl) rfl rfl (by (first | exact y_ixO rfl rfl rfl rfl rfl (by omega) (by omega) (by omega) | exact y_ixI rfl rfl rfl rfl rfl hw rfl (by omega) (by omega) | exact y_ixI rfl rfl rfl rfl rfl hv rfl (by omega) (by omega) | exact y_ixI rfl rfl rfl rfl rfl (by assumption) rfl (by omega) (by omega))) rfl ?_
            refine d_takeG 32 rfl (by kernel_rfl) rfl rfl (by (first | exact y_as (y_ldOi rfl rfl rfl rfl (by omega)) (congrArg (Value.int .i64) hai) | exact y_ldK rfl rfl rfl rfl hw (by omega) | exact y_as (y_ldK rfl rfl rfl rfl hv (by omega)) (congrArg (Value.int .i64) hx) | exact y_ld rfl rfl rfl (by rfl) | exact y_ldN rfl rfl rfl (by rfl) | exact y_ldK rfl rfl rfl rfl (by assumption) (by omega) | exact y_ldI rfl rfl rfl rfl (by assumption) (by omega) (by omega))) rfl ?_
            refine d_takeG 33 rfl (by kernel_rfl) rfl rfl (y_move rfl) rfl ?_
            refine d_takeG 34 rfl (by kernel_rfl) rfl rfl (y_move rfl) rfl ?_
            refine d_takeG 35 rfl (by kernel_rfl) rfl rfl (by (first | exact y_ixO rfl rfl rfl rfl rfl (by omega) (by omega) (by omega) | exact y_ixI rfl rfl rfl rfl rfl hw rfl (by omega) (by omega) | exact y_ixI rfl rfl rfl rfl rfl hv rfl (by omega) (by omega) | exact y_ixI rfl rfl rfl rfl rfl (by assumption) rfl (by omega) (by omega))) rfl ?_
            refine d_takeG 36 rfl (by kernel_rfl) rfl rfl (by (first | exact y_as (y_ldOi rfl rfl rfl rfl (by omega)) (congrArg (Value.int .i64) hai) | exact y_ldK rfl rfl rfl rfl hw (by omega) | exact y_as (y_ldK rfl rfl rfl rfl hv (by omega)) (congrArg (Value.int .i64) hx) | exact y_ld rfl rfl rfl (by rfl) | exact y_ldN rfl rfl rfl (by rfl) | exact y_ldK rfl rfl rfl rfl (by assumption) (by omega) | exact y_ldI rfl rfl rfl rfl (by assumption) (by omega) (by omega))) rfl ?_
            refine d_takeG 37 rfl (by kernel_rfl) rfl rfl (y_lss rfl rfl) rfl ?_
            refine d_takeG 38 rfl (by kernel_rfl) rfl rfl (y_pickT rfl rfl) rfl ?_
            refine d_take 39 rfl (by kernel_rfl) (y_pickF rfl rfl) rfl ?_
            refine d_take 40 rfl (by kernel_rfl) (y_move rfl) rfl ?_
            first | refine d_split (t := 171) rfl (fun c4 => ?_) (fun c4 => ?_) | refine d_splitb (t := 171) rfl (fun c4 => ?_) (fun c4 => ?_)
            · skip
              first | refine d_known (t := 174) (b := true) rfl (decide_eq_true c4) ?_ | refine d_known (t := 174) (b := true) rfl c4 ?_
              refine d_skip 41 rfl (by kernel_rfl) (fun c e => by cases e) rfl rfl rfl rfl ?_
              refine d_skip 42 rfl (by kernel_rfl) (fun c e => by cases e) rfl rfl rfl rfl ?_
              refine d_skip 43 rfl (by kernel_rfl) (fun c e => by cases e) rfl rfl rfl rfl ?_
              refine d_skipU 44 rfl (by kernel_rfl) (fun c e => by cases e) rfl rfl rfl ?_
              refine d_skipU 45 rfl (by kernel_rfl) (fun c e => by cases e) rfl rfl rfl ?_
              refine d_skipU 46 rfl (by kernel_rfl) (fun c e => by cases e) rfl rfl rfl ?_
              refine d_skipU 47 rfl (by kernel_rfl) (fun c e => by cases e) rfl rfl rfl ?_
              refine d_skipU 48 rfl (by kernel_rfl) (fun c e => by cases e) rfl rfl rfl ?_
              refine d_skipU 49 rfl (by kernel_rfl) (fun c e => by cases e) rfl rfl rfl ?_
              refine d_skipU 50 rfl (by kernel_rfl) (fun c e => by cases e) rfl rfl rfl ?_
              refine d_skipU 51 rfl (by kernel_rfl) (fun c e => by cases e) rfl rfl rfl ?_
              refine d_skipU 52 rfl (by kernel_rfl) (fun c e => by cases e) rfl rfl rfl ?_
              refine d_skip 53 rfl (by kernel_rfl) (fun c e => by cases e) rfl rfl rfl rfl ?_
              refine d_take 54 rfl (by kernel_rfl) (y_pickT rfl rfl) rfl ?_
              refine d_done (by kernel_rfl) ?_
              have hr' := hr true (by grind)
              try dsimp only [List.cons_append, List.nil_append, List.append_nil] at hr'
              exact J.to hr' ⟨rfl, rfl, rfl, rfl, rfl, rfl, rfl, trivial⟩ tk
            first | refine d_known (t := 174) (b := false) rfl (decide_eq_false c4) ?_ | refine d_known (t := 174) (b := false) rfl c4 ?_
            refine d_takeG 41 rfl (by kernel_rfl) rfl rfl (y_move rfl) rfl ?_
            refine d_takeG 42 rfl (by kernel_rfl) rfl rfl (by (first | exact y_notT rfl | exact y_notF rfl | exact y_notp rfl | exact y_notb rfl)) rfl ?_
            refine d_takeG 43 rfl (by kernel_rfl) rfl rfl (y_move rfl) rfl ?_
            first | refine d_split (t := 19) rfl (fun c5 => ?_) (fun c5 => ?_) | refine d_splitb (t := 19) rfl (fun c5 => ?_) (fun c5 => ?_)
            · skip
              first | refine d_known (t := 177) (b := false) rfl (decide_eq_false (not_not_intro c5)) ?_ | refine d_known (t := 177) (b := false) rfl (congrArg not c5) ?_
              refine d_skip 44 rfl (by kernel_rfl) (fun c e => by cases e) rfl rfl rfl rfl ?_
              refine d_skip 45 rfl (by kernel_rfl) (fun c e => by cases e) rfl rfl rfl rfl ?_
              refine d_skip 46 rfl (by kernel_rfl) (fun c e => by cases e) rfl rfl rfl rfl ?_
              refine d_skip 47 rfl (by kernel_rfl) (fun c e => by cases e) rfl rfl rfl rfl ?_
              refine d_skip 48 rfl (by kernel_rfl) (fun c e => by cases e) rfl rfl rfl rfl ?_
              refine d_skip 49 rfl (by kernel_rfl) (fun c e => by cases e) rfl rfl rfl rfl ?_
              refine d_skip 50 rfl (by kernel_rfl) (fun c e => by cases e) rfl rfl rfl rfl ?_
              refine d_skip 51 rfl (by kernel_rfl) (fun c e => by cases e) rfl rfl rfl rfl ?_
              refine d_skip 52 rfl (by kernel_rfl) (fun c e => by cases e) rfl rfl rfl rfl ?_
              refine d_takeG 53 rfl (by kernel_rfl) rfl rfl (y_pickF rfl rfl) rfl ?_
              refine d_take 54 rfl (by kernel_rfl) (y_pickF rfl rfl) rfl ?_
              refine d_done (by kernel_rfl) ?_
              have hr' := hr false (by grind)
              try dsimp only [List.cons_append, List.nil_append, List.append_nil] at hr'
              exact J.to hr' ⟨rfl, rfl, rfl, rfl, rfl, rfl, rfl, trivial⟩ tk
            first | refine d_known (t := 177) (b := true) rfl (decide_eq_true c5) ?_ | refine d_known (t := 177) (b := true) rfl (congrArg not c5) ?_
            refine d_takeG 44 rfl (by kernel_rfl) rfl rfl (y_move rfl) rfl ?_
            refine d_takeG 45 rfl (by kernel_rfl) rfl rfl (y_move rfl) rfl ?_
            refine d_takeG 46 rfl (by kernel_rfl) rfl rfl (by (first | exact y_ixO rfl rfl rfl rfl rfl (by omega) (by omega) (by omega) | exact y_ixI rfl rfl rfl rfl rfl hw rfl (by omega) (by omega) | exact y_ixI rfl rfl rfl rfl rfl hv rfl (by omega) (by omega) | exact y_ixI rfl rfl rfl rfl rfl (by assumption) rfl (by omega) (by omega))) rfl ?_
            refine d_takeG 47 rfl (by kernel_rfl) rfl rfl (by (first | exact y_as (y_ldOi rfl rfl rfl rfl (by omega)) (congrArg (Value.int .i64) hai) | exact y_ldK rfl rfl rfl rfl hw (by omega) | exact y_as (y_ldK rfl rfl rfl rfl hv (by omega)) (congrArg (Value.int .i64) hx) | exact y_ld rfl rfl rfl (by rfl) | exact y_ldN rfl rfl rfl (by rfl) | exact y_ldK rfl rfl rfl rfl (by assumption) (by omega) | exact y_ldI rfl rfl rfl rfl (by assumption) (by omega) (by omega))) rfl ?_
            refine d_takeG 48 rfl (by kernel_rfl) rfl rfl (y_move rfl) rfl ?_
            refine d_takeG 49 rfl (by kernel_rfl) rfl rfl (y_move rfl) rfl ?_
            refine d_takeG 50 rfl (by kernel_rfl) rfl rfl (by (first | exact y_ixO rfl rfl rfl rfl rfl (by omega) (by omega) (by omega) | exact y_ixI rfl rfl rfl rfl rfl hw rfl (by omega) (by omega) | exact y_ixI rfl rfl rfl rfl rfl hv rfl (by omega) (by omega) | exact y_ixI rfl rfl rfl rfl rfl (by assumption) rfl (by omega) (by omega))) rfl ?_
            refine d_takeG 51 rfl (by kernel_rfl) rfl rfl (by (first | exact y_as (y_ldOi rfl rfl rfl rfl (by omega)) (congrArg (Value.int .i64) hai) | exact y_ldK rfl rfl rfl rfl hw (by omega) | exact y_as (y_ldK rfl rfl rfl rfl hv (by omega)) (congrArg (Value.int .i64) hx) | exact y_ld rfl rfl rfl (by rfl) | exact y_ldN rfl rfl rfl (by rfl) | exact y_ldK rfl rfl rfl rfl (by assumption) (by omega) | exact y_ldI rfl rfl rfl rfl (by assumption) (by omega) (by omega))) rfl ?_
            refine d_takeG 52 rfl (by kernel_rfl) rfl rfl (y_gtr rfl rfl) rfl ?_
            refine d_takeG 53 rfl (by kernel_rfl) rfl rfl (y_pickT rfl rfl) rfl ?_
            refine d_take 54 rfl (by kernel_rfl) (y_pickF rfl rfl) rfl ?_
            refine d_done (by kernel_rfl) ?_
            first | refine J.split (t := 186) rfl (fun c6 => ?_) (fun c6 => ?_) | refine J.splitb (t := 186) rfl (fun c6 => ?_) (fun c6 => ?_)
            · skip
              first | refine J.known (t := 188) (b := true) rfl (decide_eq_true c6) ?_ | refine J.known (t := 188) (b := true) rfl c6 ?_
              have hr' := hr true (by grind)
              try dsimp only [List.cons_append, List.nil_append, List.append_nil] at hr'
              exact J.to hr' ⟨rfl, rfl, rfl, rfl, rfl, rfl, rfl, trivial⟩ tk
            first | refine J.known (t := 188) (b := false) rfl (decide_eq_false c6) ?_ | refine J.known (t := 188) (b := false) rfl c6 ?_
            have hr' := hr false (by grind)
            try dsimp only [List.cons_append, List.nil_append, List.append_nil] at hr'
            exact J.to hr' ⟨rfl, rfl, rfl, rfl, rfl, rfl, rfl, trivial⟩ tk
          first | refine d_known (t := 162) (b := false) rfl (decide_eq_false c3) ?_ | refine d_known (t := 162) (b := false) rfl c3 ?_
          refine d_skip 29 rfl (by kernel_rfl) (fun c e => by cases e) rfl rfl rfl rfl ?_
          refine d_skip 30 rfl (by kernel_rfl) (fun c e => by cases e) rfl rfl rfl rfl ?_
          refine d_skip 31 rfl (by kernel_rfl) (fun c e => by cases e) rfl rfl rfl rfl ?_
          refine d_skip 32 rfl (by kernel_rfl) (fun c e => by cases e) rfl rfl rfl rfl ?_
          refine d_skip 33 rfl (by kernel_rfl) (fun c e => by cases e) rfl rfl rfl rfl ?_
          refine d_skip 34 rfl (by kernel_rfl) (fun c e => by cases e) rfl rfl rfl rfl ?_
          refine d_skip 35 rfl (by kernel_rfl) (fun c e => by cases e) rfl rfl rfl rfl ?_
          refine d_skip 36 rfl (by kernel_rfl) (fun c e => by cases e) rfl rfl rfl rfl ?_
          refine d_skip 37 rfl (by kernel_rfl) (fun c e => by cases e) rfl rfl rfl rfl ?_
          refine d_takeG 38 rfl (by kernel_rfl) rfl rfl (y_pickF rfl rfl) rfl ?_
          refine d_take 39 rfl (by kernel_rfl) (y_pickF rfl rfl) rfl ?_
          refine d_take 40 rfl (by kernel_rfl) (y_move rfl) rfl ?_
          refine d_takeG 41 rfl (by kernel_rfl) rfl rfl (y_move rfl) rfl ?_
          refine d_takeG 42 rfl (by kernel_rfl) rfl rfl (by (first | exact y_notT rfl | exact y_notF rfl | exact y_notp rfl | exact y_notb rfl)) rfl ?_
          refine d_takeG 43 rfl (by kernel_rfl) rfl rfl (y_move rfl) rfl ?_
          first | refine d_split (t := 19) rfl (fun c4 => ?_) (fun c4 => ?_) | refine d_splitb (t := 19) rfl (fun c4 => ?_) (fun c4 => ?_)
          · skip
            first | refine d_known (t := 177) (b := false) rfl (decide_eq_false (not_not_intro c4)) ?_ | refine d_known (t := 177) (b := false) rfl (congrArg not c4) ?_
            refine d_skip 44 rfl (by kernel_rfl) (fun c e => by cases e) rfl rfl rfl rfl ?_
            refine d_skip 45 rfl (by kernel_rfl) (fun c e => by cases e) rfl rfl rfl rfl ?_
            refine d_skip 46 rfl (by kernel_rfl) (fun c e => by cases e) rfl rfl rfl rfl ?_
            refine d_skip 47 rfl (by kernel_rfl) (fun c e => by cases e) rfl rfl rfl rfl ?_
            refine d_skip 48 rfl (by kernel_rfl) (fun c e => by cases e) rfl rfl rfl rfl ?_
            refine d_skip 49 rfl (by kernel_rfl) (fun c e => by cases e) rfl rfl rfl rfl ?_
            refine d_skip 50 rfl (by kernel_rfl) (fun c e => by cases e) rfl rfl rfl rfl ?_
            refine d_skip 51 rfl (by kernel_rfl) (fun c e => by cases e) rfl rfl rfl rfl ?_
            refine d_skip 52 rfl (by kernel_rfl) (fun c e => by cases e) rfl rfl rfl rfl ?_
            refine d_takeG 53 rfl (by kernel_rfl) rfl rfl (y_pickF rfl rfl) rfl ?_
            refine d_take 54 rfl (by kernel_rfl) (y_pickF rfl rfl) rfl ?_
            refine d_done (by kernel_rfl) ?_
            have hr' := hr false (by grind)
            try dsimp only [List.cons_append, List.nil_append, List.append_nil] at hr'
            exact J.to hr' ⟨rfl, rfl, rfl, rfl, rfl, rfl, rfl, trivial⟩ tk
          first | refine d_known (t := 177) (b := true) rfl (decide_eq_true c4) ?_ | refine d_known (t := 177) (b := true) rfl (congrArg not c4) ?_
          refine d_takeG 44 rfl (by kernel_rfl) rfl rfl (y_move rfl) rfl ?_
          refine d_takeG 45 rfl (by kernel_rfl) rfl rfl (y_move rfl) rfl ?_
          refine d_takeG 46 rfl (by kernel_rfl) rfl rfl (by (first | exact y_ixO rfl rfl rfl rfl rfl (by omega) (by omega) (by omega) | exact y_ixI rfl rfl rfl rfl rfl hw rfl (by omega) (by omega) | exact y_ixI rfl rfl rfl rfl rfl hv rfl (by omega) (by omega) | exact y_ixI rfl rfl rfl rfl rfl (by assumption) rfl (by omega) (by omega))) rfl ?_
          refine d_takeG 47 rfl (by kernel_rfl) rfl rfl (by (first | exact y_as (y_ldOi rfl rfl rfl rfl (by omega)) (congrArg (Value.int .i64) hai) | exact y_ldK rfl rfl rfl rfl hw (by omega) | exact y_as (y_ldK rfl rfl rfl rfl hv (by omega)) (congrArg (Value.int .i64) hx) | exact y_ld rfl rfl rfl (by rfl) | exact y_ldN rfl rfl rfl (by rfl) | exact y_ldK rfl rfl rfl rfl (by assumption) (by omega) | exact y_ldI rfl rfl rfl rfl (by assumption) (by omega) (by omega))) rfl ?_
          refine d_takeG 48 rfl (by kernel_rfl) rfl rfl (y_move rfl) rfl ?_
          refine d_takeG 49 rfl (by kernel_rfl) rfl rfl (y_move rfl) rfl ?_
          refine d_takeG 50 rfl (by kernel_rfl) rfl rfl (by (first | exact y_ixO rfl rfl rfl rfl rfl (by omega) (by omega) (by omega) | exact y_ixI rfl rfl rfl rfl rfl hw rfl (by omega) (by omega) | exact y_ixI rfl rfl rfl rfl rfl hv rfl (by omega) (by omega) | exact y_ixI rfl rfl rfl rfl rfl (by assumption) rfl (by omega) (by omega))) rfl ?_
          refine d_takeG 51 rfl (by kernel_rfl) rfl rfl (by (first | exact y_as (y_ldOi rfl rfl rfl rfl (by omega)) (congrArg (Value.int .i64) hai) | exact y_ldK rfl rfl rfl rfl hw (by omega) | exact y_as (y_ldK rfl rfl rfl rfl hv (by omega)) (congrArg (Value.int .i64) hx) | exact y_ld rfl rfl rfl (by rfl) | exact y_ldN rfl rfl rfl (by rfl) | exact y_ldK rfl rfl rfl rfl (by assumption) (by omega) | exact y_ldI rfl rfl rfl rfl (by assumption) (by omega) (by omega))) rfl ?_
          refine d_takeG 52 rfl (by kernel_rfl) rfl rfl (y_gtr rfl rfl) rfl ?_
          refine d_takeG 53 rfl (by kernel_rfl) rfl rfl (y_pickT rfl rfl) rfl ?_
          refine d_take 54 rfl (by kernel_rfl) (y_pickF rfl rfl) rfl ?_
          refine d_done (by kernel_rfl) ?_
          first | refine J.split (t := 186) rfl (fun c5 => ?_) (fun c5 => ?_) | refine J.splitb (t := 186) rfl (fun c5 => ?_) (fun c5 => ?_)
          · skip
            first | refine J.known (t := 188) (b := true) rfl (decide_eq_true c5) ?_ | refine J.known (t := 188) (b := true) rfl c5 ?_
            have hr' := hr true (by grind)
            try dsimp only [List.cons_append, List.nil_append, List.append_nil] at hr'
            exact J.to hr' ⟨rfl, rfl, rfl, rfl, rfl, rfl, rfl, trivial⟩ tk
          first | refine J.known (t := 188) (b := false) rfl (decide_eq_false c5) ?_ | refine J.known (t := 188) (b := false) rfl c5 ?_
          have hr' := hr false (by grind)
          try dsimp only [List.cons_append, List.nil_append, List.append_nil] at hr'
          exact J.to hr' ⟨rfl, rfl, rfl, rfl, rfl, rfl, rfl, trivial⟩ tk
        first | refine d_known (t := 142) (b := true) rfl (decide_eq_true c2) ?_ | refine d_known (t := 142) (b := true) rfl (congrArg not c2) ?_
        refine d_takeG 9 rfl (by kernel_rfl) rfl rfl (y_move rfl) rfl ?_
        refine d_takeG 10 rfl (by kernel_rfl) rfl rfl (y_move rfl) rfl ?_
        refine d_takeG 11 rfl (by kernel_rfl) rfl rfl (by (first | exact y_ixO rfl rfl rfl rfl rfl (by omega) (by omega) (by omega) | exact y_ixI rfl rfl rfl rfl rfl hw rfl (by omega) (by omega) | exact y_ixI rfl rfl rfl rfl rfl hv rfl (by omega) (by omega) | exact y_ixI rfl rfl rfl rfl rfl (by assumption) rfl (by omega) (by omega))) rfl ?_
        refine d_takeG 12 rfl (by kernel_rfl) rfl rfl (by (first | exact y_as (y_ldOi rfl rfl rfl rfl (by omega)) (congrArg (Value.int .i64) hai) | exact y_ldK rfl rfl rfl rfl hw (by omega) | exact y_as (y_ldK rfl rfl rfl rfl hv (by omega)) (congrArg (Value.int .i64) hx) | exact y_ld rfl rfl rfl (by rfl) | exact y_ldN rfl rfl rfl (by rfl) | exact y_ldK rfl rfl rfl rfl (by assumption) (by omega) | exact y_ldI rfl rfl rfl rfl (by assumption) (by omega) (by omega))) rfl ?_
        refine d_takeG 13 rfl (by kernel_rfl) rfl rfl (y_move rfl) rfl ?_
        refine d_takeG 14 rfl (by kernel_rfl) rfl rfl (y_move rfl) rfl ?_
        refine d_takeG 15 rfl (by kernel_rfl) rfl rfl (by (first | exact y_ixO rfl rfl rfl rfl rfl (by omega) (by omega) (by omega) | exact y_ixI rfl rfl rfl rfl rfl hw rfl (by omega) (by omega) | exact y_ixI rfl rfl rfl rfl rfl hv rfl (by omega) (by omega) | exact y_ixI rfl rfl rfl rfl rfl (by assumption) rfl (by omega) (by omega))) rfl ?_
        refine d_takeG 16 rfl (by kernel_rfl) rfl rfl (by (first | exact y_as (y_ldOi rfl rfl rfl rfl (by omega)) (congrArg (Value.int .i64) hai) | exact y_ldK rfl rfl rfl rfl hw (by omega) | exact y_as (y_ldK rfl rfl rfl rfl hv (by omega)) (congrArg (Value.int .i64) hx) | exact y_ld rfl rfl rfl (by rfl) | exact y_ldN rfl rfl rfl (by rfl) | exact y_ldK rfl rfl rfl rfl (by assumption) (by omega) | exact y_ldI rfl rfl rfl rfl (by assumption) (by omega) (by omega))) rfl ?_
        refine d_takeG 17 rfl (by kernel_rfl) rfl rfl (by (first | exact y_neq rfl rfl | exact y_neqB rfl rfl rfl)) rfl ?_
        refine d_takeG 18 rfl (by kernel_rfl) rfl rfl (y_pickT rfl rfl) rfl ?_
        refine d_take 19 rfl (by kernel_rfl) (y_pickF rfl rfl) rfl ?_
        refine d_take 20 rfl (by kernel_rfl) (y_move rfl) rfl ?_
        first | refine d_split (t := 151) rfl (fun c3 => ?_) (fun c3 => ?_) | refine d_splitb (t := 151) rfl (fun c3 => ?_) (fun c3 => ?_)
        · skip
          first | refine d_known (t := 154) (b := true) rfl (decide_eq_true c3) ?_ | refine d_known (t := 154) (b := true) rfl c3 ?_
          refine d_skip 21 rfl (by kernel_rfl) (fun c e => by cases e) rfl rfl rfl rfl ?_
          refine d_skip 22 rfl (by kernel_rfl) (fun c e => by cases e) rfl rfl rfl rfl ?_
          refine d_skip 23 rfl (by kernel_rfl) (fun c e => by cases e) rfl rfl rfl rfl ?_
          refine d_skip 24 rfl (by kernel_rfl) (fun c e => by cases e) rfl rfl rfl rfl ?_
          refine d_skip 25 rfl (by kernel_rfl) (fun c e => by cases e) rfl rfl rfl rfl ?_
          refine d_skip 26 rfl (by kernel_rfl) (fun c e => by cases e) rfl rfl rfl rfl ?_
          refine d_skip 27 rfl (by kernel_rfl) (fun c e => by cases e) rfl rfl rfl rfl ?_
          refine d_skip 28 rfl (by kernel_rfl) (fun c e => by cases e) rfl rfl rfl rfl ?_
          refine d_skipU 29 rfl (by kernel_rfl) (fun c e => by cases e) rfl rfl rfl ?_
          refine d_skipU 30 rfl (by kernel_rfl) (fun c e => by cases e) rfl rfl rfl ?_
          refine d_skipU 31 rfl (by kernel_rfl) (fun c e => by cases e) rfl rfl rfl ?_
          refine d_skipU 32 rfl (by kernel_rfl) (fun c e => by cases e) rfl rfl rfl ?_
          refine d_skipU 33 rfl (by kernel_rfl) (fun c e => by cases e) rfl rfl rfl ?_
          refine d_skipU 34 rfl (by kernel_rfl) (fun c e => by cases e) rfl rfl rfl ?_
          refine d_skipU 35 rfl (by kernel_rfl) (fun c e => by cases e) rfl rfl rfl ?_
          refine d_skipU 36 rfl (by kernel_rfl) (fun c e => by cases e) rfl rfl rfl ?_
          refine d_skipU 37 rfl (by kernel_rfl) (fun c e => by cases e) rfl rfl rfl ?_
          refine d_skip 38 rfl (by kernel_rfl) (fun c e => by cases e) rfl rfl rfl rfl ?_
          refine d_take 39 rfl (by kernel_rfl) (y_pickT rfl rfl) rfl ?_
          refine d_take 40 rfl (by kernel_rfl) (y_move rfl) rfl ?_
          refine d_skip 41 rfl (by kernel_rfl) (fun c e => by cases e) rfl rfl rfl rfl ?_
          refine d_skip 42 rfl (by kernel_rfl) (fun c e => by cases e) rfl rfl rfl rfl ?_
          refine d_skip 43 rfl (by kernel_rfl) (fun c e => by cases e) rfl rfl rfl rfl ?_
          refine d_skipU 44 rfl (by kernel_rfl) (fun c e => by cases e) rfl rfl rfl ?_
          refine d_skipU 45 rfl (by kernel_rfl) (fun c e => by cases e) rfl rfl rfl ?_
          refine d_skipU 46 rfl (by kernel_rfl) (fun c e => by cases e) rfl rfl rfl ?_
          refine d_skipU 47 rfl (by kernel_rfl) (fun c e => by cases e) rfl rfl rfl ?_
          refine d_skipU 48 rfl (by kernel_rfl) (fun c e => by cases e) rfl rfl rfl ?_
          refine d_skipU 49 rfl (by kernel_rfl) (fun c e => by cases e) rfl rfl rfl ?_
          refine d_skipU 50 rfl (by kernel_rfl) (fun c e => by cases e) rfl rfl rfl ?_
          refine d_skipU 51 rfl (by kernel_rfl) (fun c e => by cases e) rfl rfl rfl ?_
          refine d_skipU 52 rfl (by kernel_rfl) (fun c e => by cases e) rfl rfl rfl ?_
          refine d_skip 53 rfl (by kernel_rfl) (fun c e => by cases e) rfl rfl rfl rfl ?_
          refine d_take 54 rfl (by kernel_rfl) (y_pickT rfl rfl) rfl ?_
          refine d_done (by kernel_rfl) ?_
          have hr' := hr true (by grind)
          try dsimp only [List.cons_append, List.nil_append, List.append_nil] at hr'
          exact J.to hr' ⟨rfl, rfl, rfl, rfl, rfl, rfl, rfl, trivial⟩ tk
        first | refine d_known (t := 154) (b := false) rfl (decide_eq_false c3) ?_ | refine d_known (t := 154) (b := false) rfl c3 ?_
        refine d_takeG 21 rfl (by kernel_rfl) rfl rfl (y_move rfl) rfl ?_
        refine d_takeG 22 rfl (by kernel_rfl) rfl rfl (y_move rfl) rfl ?_
        refine d_takeG 23 rfl (by kernel_rfl) rfl rfl (y_move rfl) rfl ?_
        refine d_takeG 24 rfl (by kernel_rfl) rfl rfl (by (first | exact y_ixO rfl rfl rfl rfl rfl (by omega) (by omega) (by omega) | exact y_ixI rfl rfl rfl rfl rfl hw rfl (by omega) (by omega) | exact y_ixI rfl rfl rfl rfl rfl hv rfl (by omega) (by omega) | exact y_ixI rfl rfl rfl rfl rfl (by assumption) rfl (by omega) (by omega))) rfl ?_
        refine d_takeG 25 rfl (by kernel_rfl) rfl rfl (by (first | exact y_as (y_ldOi rfl rfl rfl rfl (by omega)) (congrArg (Value.int .i64) hai) | exact y_ldK rfl rfl rfl rfl hw (by omega) | exact y_as (y_ldK rfl rfl rfl rfl hv (by omega)) (congrArg (Value.int .i64) hx) | exact y_ld rfl rfl rfl (by rfl) | exact y_ldN rfl rfl rfl (by rfl) | exact y_ldK rfl rfl rfl rfl (by assumption) (by omega) | exact y_ldI rfl rfl rfl rfl (by assumption) (by omega) (by omega))) rfl ?_
        refine d_effM 26 [25, 24, 23, 22, 21, 20, 19, 18, 17, 16, 15, 14, 13, 12, 11, 10, 9, 8, 7, 6, 5, 4, 3, 2, 1, 0] [false, true, true, true, false, false, true, true, true, true, true, true, true, true, true, true, true, true, true, true, true, true, true, true, true, true] rfl (by kernel_rfl) rfl (by kernel_rfl) (fun K hK => ?_)
        refine s_guard rfl rfl ?_
        refine s_call (pre := []) (rem := _) rfl rfl tk (fun w N ho hl => at_spec w N _ _ _ _ x rfl ho (KI.ofS hl (by repeat (first | exact List.mem_cons_self | refine List.mem_cons_of_mem _ ?_))) (by omega)) rfl ?_
        rintro e L' ⟨z3, hz3, rfl, rfl⟩
        try simp only [List.nil_append, List.cons_append, List.append_nil]
        have hz3' := at_mem hz3
        refine s_done ?_
        refine hK _ _ (by refine rm_skip ?_; refine rm_yd rfl (by (first | exact y_ixO rfl rfl rfl rfl rfl (by omega) (by omega) (by omega) | exact y_ixI rfl rfl rfl rfl rfl hw rfl (by omega) (by omega) | exact y_ixI rfl rfl rfl rfl rfl hv rfl (by omega) (by omega) | exact y_ixI rfl rfl rfl rfl rfl (by assumption) rfl (by omega) (by omega))) ?_; refine rm_yd rfl (by exact y_move rfl) ?_; refine rm_yd rfl (by exact y_move rfl) ?_; refine rm_skip ?_; refine rm_skip ?_; refine rm_yd rfl (by (first | exact y_pickT rfl rfl | exact y_pickF rfl rfl)) ?_; refine rm_yd rfl (by (first | exact y_pickT rfl rfl | exact y_pickF rfl rfl)) ?_; refine rm_yd rfl (by (first | exact y_neq rfl rfl | exact y_neqB rfl rfl rfl)) ?_; refine rm_yd rfl (by (first | exact y_as (y_ldOi rfl rfl rfl rfl (by omega)) (congrArg (Value.int .i64) hai) | exact y_ldK rfl rfl rfl rfl hw (by omega) | exact y_as (y_ldK rfl rfl rfl rfl hv (by omega)) (congrArg (Value.int .i64) hx) | exact y_ld rfl rfl rfl (by rfl) | exact y_ldN rfl rfl rfl (by rfl) | exact y_ldK rfl rfl rfl rfl (by assumption) (by omega) | exact y_ldI rfl rfl rfl rfl (by assumption) (by omega) (by omega))) ?_; refine rm_yd rfl (by (first | exact y_ixO rfl rfl rfl rfl rfl (by omega) (by omega) (by omega) | exact y_ixI rfl rfl rfl rfl rfl hw rfl (by omega) (by omega) | exact y_ixI rfl rfl rfl rfl rfl hv rfl (by omega) (by omega) | exact y_ixI rfl rfl rfl rfl rfl (by assumption) rfl (by omega) (by omega))) ?_; refine rm_yd rfl (by exact y_move rfl) ?_; refine rm_yd rfl (by exact y_move rfl) ?_; refine rm_yd rfl (by (first | exact y_as (y_ldOi rfl rfl rfl rfl (by omega)) (congrArg (Value.int .i64) hai) | exact y_ldK rfl rfl rfl rfl hw (by omega) | exact y_as (y_ldK rfl rfl rfl rfl hv (by omega)) (congrArg (Value.int .i64) hx) | exact y_ld rfl rfl rfl (by rfl) | exact y_ldN rfl rfl rfl (by rfl) | exact y_ldK rfl rfl rfl rfl (by assumption) (by omega) | exact y_ldI rfl rfl rfl rfl (by assumption) (by omega) (by omega))) ?_; refine rm_yd rfl (by (first | exact y_ixO rfl rfl rfl rfl rfl (by omega) (by omega) (by omega) | exact y_ixI rfl rfl rfl rfl rfl hw rfl (by omega) (by omega) | exact y_ixI rfl rfl rfl rfl rfl hv rfl (by omega) (by omega) | exact y_ixI rfl rfl rfl rfl rfl (by assumption) rfl (by omega) (by omega))) ?_; refine rm_yd rfl (by exact y_move rfl) ?_; refine rm_yd rfl (by exact y_move rfl) ?_; refine rm_yd rfl (by exact y_move rfl) ?_; refine rm_yd rfl (by (first | exact y_notT rfl | exact y_notF rfl | exact y_notp rfl | exact y_notb rfl)) ?_; refine rm_yd rfl (by exact y_move rfl) ?_; refine rm_yd rfl (by exact y_move rfl) ?_; refine rm_yd rfl (by exact y_lss rfl rfl) ?_; refine rm_yd rfl (by (first | exact y_as (y_ldOi rfl rfl rfl rfl (by omega)) (congrArg (Value.int .i64) hai) | exact y_ldK rfl rfl rfl rfl hw (by omega) | exact y_as (y_ldK rfl rfl rfl rfl hv (by omega)) (congrArg (Value.int .i64) hx) | exact y_ld rfl rfl rfl (by rfl) | exact y_ldN rfl rfl rfl (by rfl) | exact y_ldK rfl rfl rfl rfl (by assumption) (by omega) | exact y_ldI rfl rfl rfl rfl (by assumption) (by omega) (by omega))) ?_; refine rm_yd rfl (by (first | exact y_ixO rfl rfl rfl rfl rfl (by omega) (by omega) (by omega) | exact y_ixI rfl rfl rfl rfl rfl hw rfl (by omega) (by omega) | exact y_ixI rfl rfl rfl rfl rfl hv rfl (by omega) (by omega) | exact y_ixI rfl rfl rfl rfl rfl (by assumption) rfl (by omega) (by omega))) ?_; refine rm_yd rfl (by exact y_move rfl) ?_; refine rm_yd rfl (by exact y_move rfl) ?_; exact rm_nil) ?_
        clear hK K
        refine d_takeG 27 rfl (by kernel_rfl) rfl rfl (y_geq rfl rfl) rfl ?_
        refine d_takeG 28 rfl (by kernel_rfl) rfl rfl (y_move rfl) rfl ?_
        first | refine d_split (t := 161) rfl (fun c4 => ?_) (fun c4 => ?_) | refine d_splitb (t := 161) rfl (fun c4 => ?_) (fun c4 => ?_)
        · skip
          first | refine d_known (t := 162) (b := true) rfl (decide_eq_true c4) ?_ | refine d_known (t := 162) (b := true) rfl c4 ?_
          refine d_takeG 29 rfl (by kernel_rfl) rfl rfl (y_move rfl) rfl ?_
          refine d_takeG 30 rfl (by kernel_rfl) rfl rfl (y_move rfl) rfl ?_
          refine d_takeG 31 rfl (by kernel_rfl) rfl rfl (by (first | exact y_ixO rfl rfl rfl rfl rfl (by omega) (by omega) (by omega) | exact y_ixI rfl rfl rfl rfl rfl hw rfl (by omega) (by omega) | exact y_ixI rfl rfl rfl rfl rfl hv rfl (by omega) (by omega) | exact y_ixI rfl rfl rfl rfl rfl (by assumption) rfl (by omega) (by omega))) rfl ?_
          refine d_takeG 32 rfl (by kernel_rfl) rfl rfl (by (first | exact y_as (y_ldOi rfl rfl rfl rfl (by omega)) (congrArg (Value.int .i64) hai) | exact y_ldK rfl rfl rfl rfl hw (by omega) | exact y_as (y_ldK rfl rfl rfl rfl hv (by omega)) (congrArg (Value.int .i64) hx) | exact y_ld rfl rfl rfl (by rfl) | exact y_ldN rfl rfl rfl (by rfl) | exact y_ldK rfl rfl rfl rfl (by assumption) (by omega) | exact y_ldI rfl rfl rfl rfl (by assumption) (by omega) (by omega))) rfl ?_
          refine d_takeG 33 rfl (by kernel_rfl) rfl rfl (y_move rfl) rfl ?_
          refine d_takeG 34 rfl (by kernel_rfl) rfl rfl (y_move rfl) rfl ?_
          refine d_takeG 35 rfl (by kernel_rfl) rfl rfl (by (first | exact y_ixO rfl rfl rfl rfl rfl (by omega) (by omega) (by omega) | exact y_ixI rfl rfl rfl rfl rfl hw rfl (by omega) (by omega) | exact y_ixI rfl rfl rfl rfl rfl hv rfl (by omega) (by omega) | exact y_ixI rfl rfl rfl rfl rfl (by assumption) rfl (by omega) (by omega))) rfl ?_
          refine d_takeG 36 rfl (by kernel_rfl) rfl rfl (by (first | exact y_as (y_ldOi rfl rfl rfl rfl (by omega)) (congrArg (Value.int .i64) hai) | exact y_ldK rfl rfl rfl rfl hw (by omega) | exact y_as (y_ldK rfl rfl rfl rfl hv (by omega)) (congrArg (Value.int .i64) hx) | exact y_ld rfl rfl rfl (by rfl) | exact y_ldN rfl rfl rfl (by rfl) | exact y_ldK rfl rfl rfl rfl (by assumption) (by omega) | exact y_ldI rfl rfl rfl rfl (by assumption) (by omega) (by omega))) rfl ?_
          refine d_takeG 37 rfl (by kernel_rfl) rfl rfl (y_lss rfl rfl) rfl ?_
          refine d_takeG 38 rfl (by kernel_rfl) rfl rfl (y_pickT rfl rfl) rfl ?_
          refine d_take 39 rfl (by kernel_rfl) (y_pickF rfl rfl) rfl ?_
          refine d_take 40 rfl (by kernel_rfl) (y_move rfl) rfl ?_
          first | refine d_split (t := 171) rfl (fun c5 => ?_) (fun c5 => ?_) | refine d_splitb (t := 171) rfl (fun c5 => ?_) (fun c5 => ?_)
          · skip
            first | refine d_known (t := 174) (b := true) rfl (decide_eq_true c5) ?_ | refine d_known (t := 174) (b := true) rfl c5 ?_
            refine d_skip 41 rfl (by kernel_rfl) (fun c e => by cases e) rfl rfl rfl rfl ?_
            refine d_skip 42 rfl (by kernel_rfl) (fun c e => by cases e) rfl rfl rfl rfl ?_
            refine d_skip 43 rfl (by kernel_rfl) (fun c e => by cases e) rfl rfl rfl rfl ?_
            refine d_skipU 44 rfl (by kernel_rfl) (fun c e => by cases e) rfl rfl rfl ?_
            refine d_skipU 45 rfl (by kernel_rfl) (fun c e => by cases e) rfl rfl rfl ?_
            refine d_skipU 46 rfl (by kernel_rfl) (fun c e => by cases e) rfl rfl rfl ?_
            refine d_skipU 47 rfl (by kernel_rfl) (fun c e => by cases e) rfl rfl rfl ?_
            refine d_skipU 48 rfl (by kernel_rfl) (fun c e => by cases e) rfl rfl rfl ?_
            refine d_skipU 49 rfl (by kernel_rfl) (fun c e => by cases e) rfl rfl rfl ?_
            refine d_skipU 50 rfl (by kernel_rfl) (fun c e => by cases e) rfl rfl rfl ?_
            refine d_skipU 51 rfl (by kernel_rfl) (fun c e => by cases e) rfl rfl rfl ?_
            refine d_skipU 52 rfl (by kernel_rfl) (fun c e => by cases e) rfl rfl rfl ?_
            refine d_skip 53 rfl (by kernel_rfl) (fun c e => by cases e) rfl rfl rfl rfl ?_
            refine d_take 54 rfl (by kernel_rfl) (y_pickT rfl rfl) rfl ?_
            refine d_done (by kernel_rfl) ?_
            have hr' := hr true (by grind)
            try dsimp only [List.cons_append, List.nil_append, List.append_nil] at hr'
            exact J.to hr' ⟨rfl, rfl, rfl, rfl, rfl, rfl, rfl, trivial⟩ tk
          first | refine d_known (t := 174) (b := false) rfl (decide_eq_false c5) ?_ | refine d_known (t := 174) (b := false) rfl c5 ?_
          refine d_takeG 41 rfl (by kernel_rfl) rfl rfl (y_move rfl) rfl ?_
          refine d_takeG 42 rfl (by kernel_rfl) rfl rfl (by (first | exact y_notT rfl | exact y_notF rfl | exact y_notp rfl | exact y_notb rfl)) rfl ?_
          refine d_takeG 43 rfl (by kernel_rfl) rfl rfl (y_move rfl) rfl ?_
          first | refine d_split (t := 19) rfl (fun c6 => ?_) (fun c6 => ?_) | refine d_splitb (t := 19) rfl (fun c6 => ?_) (fun c6 => ?_)
          · skip
            first | refine d_known (t := 177) (b := false) rfl (decide_eq_false (not_not_intro c6)) ?_ | refine d_known (t := 177) (b := false) rfl (congrArg not c6) ?_
            refine d_skip 44 rfl (by kernel_rfl) (fun c e => by cases e) rfl rfl rfl rfl ?_
            refine d_skip 45 rfl (by kernel_rfl) (fun c e => by cases e) rfl rfl rfl rfl ?_
            refine d_skip 46 rfl (by kernel_rfl) (fun c e => by cases e) rfl rfl rfl rfl ?_
            refine d_skip 47 rfl (by kernel_rfl) (fun c e => by cases e) rfl rfl rfl rfl ?_
            refine d_skip 48 rfl (by kernel_rfl) (fun c e => by cases e) rfl rfl rfl rfl ?_
            refine d_skip 49 rfl (by kernel_rfl) (fun c e => by cases e) rfl rfl rfl rfl ?_
            refine d_skip 50 rfl (by kernel_rfl) (fun c e => by cases e) rfl rfl rfl rfl ?_
            refine d_skip 51 rfl (by kernel_rfl) (fun c e => by cases e) rfl rfl rfl rfl ?_
            refine d_skip 52 rfl (by kernel_rfl) (fun c e => by cases e) rfl rfl rfl rfl ?_
            refine d_takeG 53 rfl (by kernel_rfl) rfl rfl (y_pickF rfl rfl) rfl ?_
            refine d_take 54 rfl (by kernel_rfl) (y_pickF rfl rfl) rfl ?_
            refine d_done (by kernel_rfl) ?_
            have hr' := hr false (by grind)
            try dsimp only [List.cons_append, List.nil_append, List.append_nil] at hr'
            exact J.to hr' ⟨rfl, rfl, rfl, rfl, rfl, rfl, rfl, trivial⟩ tk
          first | refine d_known (t := 177) (b := true) rfl (decide_eq_true c6) ?_ | refine d_known (t := 177) (b := true) rfl (congrArg not c6) ?_
          refine d_takeG 44 rfl (by kernel_rfl) rfl rfl (y_move rfl) rfl ?_
          refine d_takeG 45 rfl (by kernel_rfl) rfl rfl (y_move rfl) rfl ?_
          refine d_takeG 46 rfl (by kernel_rfl) rfl rfl (by (first | exact y_ixO rfl rfl rfl rfl rfl (by omega) (by omega) (by omega) | exact y_ixI rfl rfl rfl rfl rfl hw rfl (by omega) (by omega) | exact y_ixI rfl rfl rfl rfl rfl hv rfl (by omega) (by omega) | exact y_ixI rfl rfl rfl rfl rfl (by assumption) rfl (by omega) (by omega))) rfl ?_
          refine d_takeG 47 rfl (by kernel_rfl) rfl rfl (by (first | exact y_as (y_ldOi rfl rfl rfl rfl (by omega)) (congrArg (Value.int .i64) hai) | exact y_ldK rfl rfl rfl rfl hw (by omega) | exact y_as (y_ldK rfl rfl rfl rfl hv (by omega)) (congrArg (Value.int .i64) hx) | exact y_ld rfl rfl rfl (by rfl) | exact y_ldN rfl rfl rfl (by rfl) | exact y_ldK rfl rfl rfl rfl (by assumption) (by omega) | exact y_ldI rfl rfl rfl rfl (by assumption) (by omega) (by omega))) rfl ?_
          refine d_takeG 48 rfl (by kernel_rfl) rfl rfl (y_move rfl) rfl ?_
          refine d_takeG 49 rfl (by kernel_rfl) rfl rfl (y_move rfl) rfl ?_
          refine d_takeG 50 rfl (by kernel_rfl) rfl rfl (by (first | exact y_ixO rfl rfl rfl rfl rfl (by omega) (by omega) (by omega) | exact y_ixI rfl rfl rfl rfl rfl hw rfl (by omega) (by omega) | exact y_ixI rfl rfl rfl rfl rfl hv rfl (by omega) (by omega) | exact y_ixI rfl rfl rfl rfl rfl (by assumption) rfl (by omega) (by omega))) rfl ?_
          refine d_takeG 51 rfl (by kernel_rfl) rfl rfl (by (first | exact y_as (y_ldOi rfl rfl rfl rfl (by omega)) (congrArg (Value.int .i64) hai) | exact y_ldK rfl rfl rfl rfl hw (by omega) | exact y_as (y_ldK rfl rfl rfl rfl hv (by omega)) (congrArg (Value.int .i64) hx) | exact y_ld rfl rfl rfl (by rfl) | exact y_ldN rfl rfl rfl (by rfl) | exact y_ldK rfl rfl rfl rfl (by assumption) (by omega) | exact y_ldI rfl rfl rfl rfl (by assumption) (by omega) (by omega))) rfl ?_
          refine d_takeG 52 rfl (by kernel_rfl) rfl rfl (y_gtr rfl rfl) rfl ?_
          refine d_takeG 53 rfl (by kernel_rfl) rfl rfl (y_pickT rfl rfl) rfl ?_
          refine d_take 54 rfl (by kernel_rfl) (y_pickF rfl rfl) rfl ?_
          refine d_done (by kernel_rfl) ?_
          first | refine J.split (t := 186) rfl (fun c7 => ?_) (fun c7 => ?_) | refine J.splitb (t := 186) rfl (fun c7 => ?_) (fun c7 => ?_)
          · skip
            first | refine J.known (t := 188) (b := true) rfl (decide_eq_true c7) ?_ | refine J.known (t := 188) (b := true) rfl c7 ?_
            have hr' := hr true (by grind)
            try dsimp only [List.cons_append, List.nil_append, List.append_nil] at hr'
            exact J.to hr' ⟨rfl, rfl, rfl, rfl, rfl, rfl, rfl, trivial⟩ tk
          first | refine J.known (t := 188) (b := false) rfl (decide_eq_false c7) ?_ | refine J.known (t := 188) (b := false) rfl c7 ?_
          have hr' := hr false (by grind)
          try dsimp only [List.cons_append, List.nil_append, List.append_nil] at hr'
          exact J.to hr' ⟨rfl, rfl, rfl, rfl, rfl, rfl, rfl, trivial⟩ tk
        first | refine d_known (t := 162) (b := false) rfl (decide_eq_false c4) ?_ | refine d_known (t := 162) (b := false) rfl c4 ?_
        refine d_skip 29 rfl (by kernel_rfl) (fun c e => by cases e) rfl rfl rfl rfl ?_
        refine d_skip 30 rfl (by kernel_rfl) (fun c e => by cases e) rfl rfl rfl rfl ?_
        refine d_skip 31 rfl (by kernel_rfl) (fun c e => by cases e) rfl rfl rfl rfl ?_
        refine d_skip 32 rfl (by kernel_rfl) (fun c e => by cases e) rfl rfl rfl rfl ?_
        refine d_skip 33 rfl (by kernel_rfl) (fun c e => by cases e) rfl rfl rfl rfl ?_
        refine d_skip 34 rfl (by kernel_rfl) (fun c e => by cases e) rfl rfl rfl rfl ?_
        refine d_skip 35 rfl (by kernel_rfl) (fun c e => by cases e) rfl rfl rfl rfl ?_
        refine d_skip 36 rfl (by kernel_rfl) (fun c e => by cases e) rfl rfl rfl rfl ?_
        refine d_skip 37 rfl (by kernel_rfl) (fun c e => by cases e) rfl rfl rfl rfl ?_
        refine d_takeG 38 rfl (by kernel_rfl) rfl rfl (y_pickF rfl rfl) rfl ?_
        refine d_take 39 rfl (by kernel_rfl) (y_pickF rfl rfl) rfl ?_
        refine d_take 40 rfl (by kernel_rfl) (y_move rfl) rfl ?_
        refine d_takeG 41 rfl (by kernel_rfl) rfl rfl (y_move rfl) rfl ?_
        refine d_takeG 42 rfl (by kernel_rfl) rfl rfl (by (first | exact y_notT rfl | exact y_notF rfl | exact y_notp rfl | exact y_notb rfl)) rfl ?_
        refine d_takeG 43 rfl (by kernel_rfl) rfl rfl (y_move rfl) rfl ?_
        first | refine d_split (t := 19) rfl (fun c5 => ?_) (fun c5 => ?_) | refine d_splitb (t := 19) rfl (fun c5 => ?_) (fun c5 => ?_)
        · skip
          first | refine d_known (t := 177) (b := false) rfl (decide_eq_false (not_not_intro c5)) ?_ | refine d_known (t := 177) (b := false) rfl (congrArg not c5) ?_
          refine d_skip 44 rfl (by kernel_rfl) (fun c e => by cases e) rfl rfl rfl rfl ?_
          refine d_skip 45 rfl (by kernel_rfl) (fun c e => by cases e) rfl rfl rfl rfl ?_
          refine d_skip 46 rfl (by kernel_rfl) (fun c e => by cases e) rfl rfl rfl rfl ?_
          refine d_skip 47 rfl (by kernel_rfl) (fun c e => by cases e) rfl rfl rfl rfl ?_
          refine d_skip 48 rfl (by kernel_rfl) (fun c e => by cases e) rfl rfl rfl rfl ?_
          refine d_skip 49 rfl (by kernel_rfl) (fun c e => by cases e) rfl rfl rfl rfl ?_
          refine d_skip 50 rfl (by kernel_rfl) (fun c e => by cases e) rfl rfl rfl rfl ?_
          refine d_skip 51 rfl (by kernel_rfl) (fun c e => by cases e) rfl rfl rfl rfl ?_
          refine d_skip 52 rfl (by kernel_rfl) (fun c e => by cases e) rfl rfl rfl rfl ?_
          refine d_takeG 53 rfl (by kernel_rfl) rfl rfl (y_pickF rfl rfl) rfl ?_
          refine d_take 54 rfl (by kernel_rfl) (y_pickF rfl rfl) rfl ?_
          refine d_done (by kernel_rfl) ?_
          have hr' := hr false (by grind)
          try dsimp only [List.cons_append, List.nil_append, List.append_nil] at hr'
          exact J.to hr' ⟨rfl, rfl, rfl, rfl, rfl, rfl, rfl, trivial⟩ tk
        first | refine d_known (t := 177) (b := true) rfl (decide_eq_true c5) ?_ | refine d_known (t := 177) (b := true) rfl (congrArg not c5) ?_
        refine d_takeG 44 rfl (by kernel_rfl) rfl rfl (y_move rfl) rfl ?_
        refine d_takeG 45 rfl (by kernel_rfl) rfl rfl (y_move rfl) rfl ?_
        refine d_takeG 46 rfl (by kernel_rfl) rfl rfl (by (first | exact y_ixO rfl rfl rfl rfl rfl (by omega) (by omega) (by omega) | exact y_ixI rfl rfl rfl rfl rfl hw rfl (by omega) (by omega) | exact y_ixI rfl rfl rfl rfl rfl hv rfl (by omega) (by omega) | exact y_ixI rfl rfl rfl rfl rfl (by assumption) rfl (by omega) (by omega))) rfl ?_
        refine d_takeG 47 rfl (by kernel_rfl) rfl rfl (by (first | exact y_as (y_ldOi rfl rfl rfl rfl (by omega)) (congrArg (Value.int .i64) hai) | exact y_ldK rfl rfl rfl rfl hw (by omega) | exact y_as (y_ldK rfl rfl rfl rfl hv (by omega)) (congrArg (Value.int .i64) hx) | exact y_ld rfl rfl rfl (by rfl) | exact y_ldN rfl rfl rfl (by rfl) | exact y_ldK rfl rfl rfl rfl (by assumption) (by omega) | exact y_ldI rfl rfl rfl rfl (by assumption) (by omega) (by omega))) rfl ?_
        refine d_takeG 48 rfl (by kernel_rfl) rfl rfl (y_move rfl) rfl ?_
        refine d_takeG 49 rfl (by kernel_rfl) rfl rfl (y_move rfl) rfl ?_
        refine d_takeG 50 rfl (by kernel_rfl) rfl rfl (by (first | exact y_ixO rfl rfl rfl rfl rfl (by omega) (by omega) (by omega) | exact y_ixI rfl rfl rfl rfl rfl hw rfl (by omega) (by omega) | exact y_ixI rfl rfl rfl rfl rfl hv rfl (by omega) (by omega) | exact y_ixI rfl rfl rfl rfl rfl (by assumption) rfl (by omega) (by omega))) rfl ?_
        refine d_takeG 51 rfl (by kernel_rfl) rfl rfl (by (first | exact y_as (y_ldOi rfl rfl rfl rfl (by omega)) (congrArg (Value.int .i64) hai) | exact y_ldK rfl rfl rfl rfl hw (by omega) | exact y_as (y_ldK rfl rfl rfl rfl hv (by omega)) (congrArg (Value.int .i64) hx) | exact y_ld rfl rfl rfl (by rfl) | exact y_ldN rfl rfl rfl (by rfl) | exact y_ldK rfl rfl rfl rfl (by assumption) (by omega) | exact y_ldI rfl rfl rfl rfl (by assumption) (by omega) (by omega))) rfl ?_
        refine d_takeG 52 rfl (by kernel_rfl) rfl rfl (y_gtr rfl rfl) rfl ?_
        refine d_takeG 53 rfl (by kernel_rfl) rfl rfl (y_pickT rfl rfl) rfl ?_
        refine d_take 54 rfl (by kernel_rfl) (y_pickF rfl rfl) rfl ?_
        refine d_done (by kernel_rfl) ?_
        first | refine J.split (t := 186) rfl (fun c6 => ?_) (fun c6 => ?_) | refine J.splitb (t := 186) rfl (fun c6 => ?_) (fun c6 => ?_)
        · skip
          first | refine J.known (t := 188) (b := true) rfl (decide_eq_true c6) ?_ | refine J.known (t := 188) (b := true) rfl c6 ?_
          have hr' := hr true (by grind)
          try dsimp only [List.cons_append, List.nil_append, List.append_nil] at hr'
          exact J.to hr' ⟨rfl, rfl, rfl, rfl, rfl, rfl, rfl, trivial⟩ tk
        first | refine J.known (t := 188) (b := false) rfl (decide_eq_false c6) ?_ | refine J.known (t := 188) (b := false) rfl c6 ?_
        have hr' := hr false (by grind)
        try dsimp only [List.cons_append, List.nil_append, List.append_nil] at hr'
        exact J.to hr' ⟨rfl, rfl, rfl, rfl, rfl, rfl, rfl, trivial⟩ tk
      rintro vv hvv
      dsimp only [List.cons_append, List.nil_append] at hvv ⊢
      subst hvv
      refine s_condF2 rfl (by with_reducible rfl) ?_
      refine s_skip ?_
      refine s_endb ?_
      refine s_region ?_
      refine s_q (y_move rfl) rfl ?_
      refine s_q (y_add rfl rfl (by omega)) rfl ?_
      refine s_q (y_assign rfl) rfl ?_
      refine s_done ?_
      refine s_inv (i + 1) (by (try dsimp only); omega) (by (try dsimp only); omega) ⟨rfl, rfl, rfl, rfl, rfl, rfl, trivial⟩ tk
  · refine s_exit rfl ?_
    refine s_seq ?_
    refine s_region ?_
    refine s_q (y_assign rfl) rfl ?_
    refine s_done ?_
    exact s_return ⟨rfl, rfl⟩ (res_tmp Try.results3 rfl)
end Go.Proofs.Ytdbnlgknalencaa
