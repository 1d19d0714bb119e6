/- Layer 23 (brief), the laws: the chapter's example; how many variables briefs have. -/
import Derived.Test.YtdbnlgknalencaaGreatBrgBE
import Derived.Test.YtdbnlgknalencaaGreatBrgKS
import Derived.Test.YtdbnlgknalencaaGreatEEb
set_option linter.unusedVariables false
set_option linter.unusedSimpArgs false
namespace Go.Proofs.YtdbnlgknalencaaGreat
open Go Go.E
set_option maxRecDepth 4000
set_option maxHeartbeats 1000000
def smp (x y z : Nat) : BrD := ⟨some ⟨x, 0, none⟩, 2, [1, 2], some ⟨y, 0, none⟩, 2, [4, -1], some ⟨z, 0, none⟩, 2, [5, 9]⟩
theorem sample_spec (w : World) (N : Nat → Prop) (ho : Owns w [] N) : Ret Tryz.prog 26 [] w N fun v L => ∃ x y z, v = .agg (encBr (smp x y z)).toArray ∧ L = [cb x 3 (ints [1, 2]), cb y 3 (ints [4, -1]), cb z 3 (ints [5, 9])] := by
  refine ret_of_J cx Tryz.func26 rfl (Nat.le_of_ble_eq_true rfl) ho ?_
  refine s_seq ?_
  refine s_region ?_
  refine s_alloc rfl rfl (fun b => ?_)
  refine s_done ?_
  refine s_seq ?_
  refine s_region ?_
  refine s_bslice rfl rfl rfl rfl rfl rfl rfl rfl (fun x => ?_)
  change J _ _ _ (cb x 3 (ints [1, 2]) :: _) _
  refine s_bslice rfl rfl rfl rfl rfl rfl rfl rfl (fun y => ?_)
  change J _ _ _ (cb y 3 (ints [4, -1]) :: _) _
  refine s_bslice rfl rfl rfl rfl rfl rfl rfl rfl (fun z => ?_)
  change J _ _ _ (cb z 3 (ints [5, 9]) :: _) _
  refine s_q (y_build rfl rfl rfl rfl) rfl ?_
  first | (refine s_storeW rfl rfl rfl rfl rfl (by rfl) ?_) | (refine s_storeN rfl rfl rfl rfl rfl (by rfl) ?_)
  refine s_done ?_
  exact s_return (R := fun v L => ∃ x y z, v = .agg (encBr (smp x y z)).toArray ∧ L = [cb x 3 (ints [1, 2]), cb y 3 (ints [4, -1]), cb z 3 (ints [5, 9])]) ⟨x, y, z, rfl, rfl⟩ (res_cellN Tryz.results26 rfl rfl rfl rfl)
/-- What a count of briefs tells. -/
structure Sized (l : List BrD) (n : Int) : Prop where
  pos : 0 ≤ n
  top : n ≤ 1000000000000000
  each : n ≤ 400 → (l.length : Int) ≤ n ∧ ∀ b ∈ l, (b.vars.length : Int) ≤ n ∧ (b.cols.length : Int) ≤ n ∧ (b.edge.length : Int) ≤ n
theorem size_spec (w : World) (N : Nat → Prop) (T : Option Addr) (t n : Nat) (l : List BrD) (hn : n = l.length) (ho : Owns w [] N) (hl0 : KE 3 encBr .no w N T l) (hok : ∀ b ∈ l, b.ok) (h3 : l.length < 100000000000000) :
    Ret Tryz.prog 6 [.slice T n t] w N fun v L => ∃ z : Int, Sized l z ∧ v = .int .i64 z ∧ L = [] := by
  subst hn
  refine ret_of_J cx Tryz.func6 rfl (Nat.le_of_ble_eq_true rfl) ho ?_
  refine s_seq ?_
  refine s_region ?_
  refine s_q (y_assign rfl) rfl ?_
  refine s_done ?_
  refine s_seq ?_
  refine s_region ?_
  refine s_q (y_move rfl) rfl ?_
  refine s_q (y_lenS rfl rfl rfl) rfl ?_
  refine s_q (y_assign rfl) rfl ?_
  refine s_done ?_
  refine s_seq ?_
  refine s_seq ?_
  refine s_region ?_
  refine s_q (y_assign rfl) rfl ?_
  refine s_done ?_
  refine s_block ?_
  refine s_loopV (σ := Nat × Int) (fun s => [(4, .int .i64 s.1), (3, .int .i64 s.2)]) (fun s => []) (fun s => (s.1 ≤ l.length) ∧ (0 ≤ s.2) ∧ (s.2 ≤ 1000000000000000) ∧ (s.2 ≤ 400 → (l.length : Int) ≤ s.2 ∧ ∀ b ∈ l.take s.1, (b.vars.length : Int) ≤ s.2 ∧ (b.cols.length : Int) ≤ s.2 ∧ (b.edge.length : Int) ≤ s.2)) (fun s => l.length - s.1) (0, l.length) [(0, _)] ⟨rfl, trivial⟩ ⟨rfl, rfl, trivial⟩ tk ⟨Nat.zero_le _, (by (try dsimp only); omega), (by (try dsimp only); omega), fun _ => ⟨Int.le_refl _, fun b hb => by simp at hb⟩⟩ ?_
  rintro ⟨i, z⟩ ⟨hi, h0, h1, he⟩
  try dsimp only [List.cons_append, List.nil_append, List.append_nil] at hi h0 h1 he ⊢
  have fin : (¬ ((i : Int) < (l.length : Int)) ∨ ¬ z ≤ 400) → Sized l z := fun h => ⟨h0, h1, fun hz => by
    have h2 := he hz
    rw [List.take_of_length_le (by omega)] at h2
    exact h2⟩
  refine s_seq ?_
  refine s_seq ?_
  refine s_region ?_
  refine s_q (y_move rfl) rfl ?_
  refine s_q (y_move rfl) rfl ?_
  refine s_q (y_lenS rfl rfl rfl) rfl ?_
  refine s_q (y_lss rfl rfl) rfl ?_
  refine s_q (y_move rfl) rfl ?_
  first | refine J.split (t := 10) rfl (fun c1 => ?_) (fun c1 => ?_) | refine J.splitb (t := 10) rfl (fun c1 => ?_) (fun c1 => ?_)
  rotate_left
  · skip
    first | refine J.known (t := 11) (b := false) rfl (decide_eq_false c1) ?_ | refine J.known (t := 11) (b := false) rfl c1 ?_
    refine s_unguard2 (b := false) rfl rfl rfl rfl rfl ?_
    refine s_unguard2 (b := false) rfl rfl rfl rfl rfl ?_
    refine s_q (y_pickF rfl rfl) rfl ?_
    refine s_done ?_
    refine s_condF rfl ?_
    refine s_exit rfl ?_
    refine s_seq ?_
    refine s_region ?_
    refine s_q (y_move rfl) rfl ?_
    refine s_q (y_assign rfl) rfl ?_
    refine s_done ?_
    first | exact s_return ⟨z, fin (.inr c2), rfl, rfl⟩ (res_tmp Tryz.results6 rfl) | exact s_return ⟨z, fin (.inl c1), rfl, rfl⟩ (res_tmp Tryz.results6 rfl)
  first | refine J.known (t := 11) (b := true) rfl (decide_eq_true c1) ?_ | refine J.known (t := 11) (b := true) rfl c1 ?_
  refine s_guard rfl rfl ?_
  refine s_q (y_move rfl) rfl ?_
  refine s_guard rfl rfl ?_
  refine s_q (y_leq rfl rfl) rfl ?_
  refine s_q (y_pickT rfl rfl) rfl ?_
  refine s_done ?_
  first | refine J.split (t := 13) rfl (fun c2 => ?_) (fun c2 => ?_) | refine J.splitb (t := 13) rfl (fun c2 => ?_) (fun c2 => ?_)
  rotate_left
  · skip
    first | refine J.known (t := 14) (b := false) rfl (decide_eq_false c2) ?_ | refine J.known (t := 14) (b := false) rfl c2 ?_
    refine s_condF rfl ?_
    refine s_exit rfl ?_
    refine s_seq ?_
    refine s_region ?_
    refine s_q (y_move rfl) rfl ?_
    refine s_q (y_assign rfl) rfl ?_
    refine s_done ?_
    first | exact s_return ⟨z, fin (.inr c2), rfl, rfl⟩ (res_tmp Tryz.results6 rfl) | exact s_return ⟨z, fin (.inl c1), rfl, rfl⟩ (res_tmp Tryz.results6 rfl)
  first | refine J.known (t := 14) (b := true) rfl (decide_eq_true c2) ?_ | refine J.known (t := 14) (b := true) rfl c2 ?_
  refine s_condT rfl ?_
  refine s_skip ?_
  refine s_seq ?_
  refine s_block ?_
  have hil : i < l.length := by omega
  have hm := getD_mem BrD.no hil
  obtain ⟨b, hb⟩ : ∃ b, l.getD i .no = b := ⟨_, rfl⟩
  have hbk := hok _ hm
  rw [hb] at hm hbk
  have k1 := hbk.v
  have k2 := hbk.c
  have k3 := hbk.e
  refine d_start ?_
  refine d_take 0 rfl (by kernel_rfl) (by exact y_move rfl) rfl ?_
  refine d_take 1 rfl (by kernel_rfl) (by exact y_move rfl) rfl ?_
  refine d_take 2 rfl (by kernel_rfl) (by exact y_move rfl) rfl ?_
  refine d_take 3 rfl (by kernel_rfl) (by (first | exact y_ixE hl0 rfl rfl rfl rfl rfl rfl (by omega) (by omega) | exact y_ixI rfl rfl rfl rfl rfl (by assumption) rfl (by omega) (by omega))) rfl ?_
  refine d_take 4 rfl (by kernel_rfl) (by (first | exact y_fieldAddrB rfl rfl rfl rfl rfl rfl | exact y_fieldAddr rfl rfl rfl rfl rfl rfl)) rfl ?_
  refine d_take 5 rfl (by kernel_rfl) (by (first | exact y_ldF (off := 0) (v := .slice b.A b.vars.length b.c) hl0 rfl rfl rfl (by omega) (by rw [hb]; rfl) | exact y_ldF (off := 1) (v := .slice b.B b.cols.length b.d) hl0 rfl rfl rfl (by omega) (by rw [hb]; rfl) | exact y_ldF (off := 2) (v := .slice b.C b.edge.length b.e) hl0 rfl rfl rfl (by omega) (by rw [hb]; rfl) | exact y_ld rfl rfl rfl (by rfl) | exact y_ldN rfl rfl rfl (by rfl) | exact y_ldK rfl rfl rfl rfl (by assumption) (by omega) | exact y_ldI rfl rfl rfl rfl (by assumption) (by omega) (by omega))) rfl ?_
  refine d_take 6 rfl (by kernel_rfl) (by exact y_lenS rfl rfl rfl) rfl ?_
  refine d_take 7 rfl (by kernel_rfl) (by exact y_add rfl rfl (by omega)) rfl ?_
  refine d_take 8 rfl (by kernel_rfl) (by exact y_move rfl) rfl ?_
  refine d_take 9 rfl (by kernel_rfl) (by exact y_move rfl) rfl ?_
  refine d_take 10 rfl (by kernel_rfl) (by (first | exact y_ixE hl0 rfl rfl rfl rfl rfl rfl (by omega) (by omega) | exact y_ixI rfl rfl rfl rfl rfl (by assumption) rfl (by omega) (by omega))) rfl ?_
  refine d_take 11 rfl (by kernel_rfl) (by (first | exact y_fieldAddrB rfl rfl rfl rfl rfl rfl | exact y_fieldAddr rfl rfl rfl rfl rfl rfl)) rfl ?_
  refine d_take 12 rfl (by kernel_rfl) (by (first | exact y_ldF (off := 0) (v := .slice b.A b.vars.length b.c) hl0 rfl rfl rfl (by omega) (by rw [hb]; rfl) | exact y_ldF (off := 1) (v := .slice b.B b.cols.length b.d) hl0 rfl rfl rfl (by omega) (by rw [hb]; rfl) | exact y_ldF (off := 2) (v := .slice b.C b.edge.length b.e) hl0 rfl rfl rfl (by omega) (by rw [hb]; rfl) | exact y_ld rfl rfl rfl (by rfl) | exact y_ldN rfl rfl rfl (by rfl) | exact y_ldK rfl rfl rfl rfl (by assumption) (by omega) | exact y_ldI rfl rfl rfl rfl (by assumption) (by omega) (by omega))) rfl ?_
  refine d_take 13 rfl (by kernel_rfl) (by exact y_lenS rfl rfl rfl) rfl ?_
  refine d_take 14 rfl (by kernel_rfl) (by exact y_add rfl rfl (by omega)) rfl ?_
  refine d_take 15 rfl (by kernel_rfl) (by exact y_move rfl) rfl ?_
  refine d_take 16 rfl (by kernel_rfl) (by exact y_move rfl) rfl ?_
  refine d_take 17 rfl (by kernel_rfl) (by (first | exact y_ixE hl0 rfl rfl rfl rfl rfl rfl (by omega) (by omega) | exact y_ixI rfl rfl rfl rfl rfl (by assumption) rfl (by omega) (by omega))) rfl ?_
  refine d_take 18 rfl (by kernel_rfl) (by (first | exact y_fieldAddrB rfl rfl rfl rfl rfl rfl | exact y_fieldAddr rfl rfl rfl rfl rfl rfl)) rfl ?_
  refine d_take 19 rfl (by kernel_rfl) (by (first | exact y_ldF (off := 0) (v := .slice b.A b.vars.length b.c) hl0 rfl rfl rfl (by omega) (by rw [hb]; rfl) | exact y_ldF (off := 1) (v := .slice b.B b.cols.length b.d) hl0 rfl rfl rfl (by omega) (by rw [hb]; rfl) | exact y_ldF (off := 2) (v := .slice b.C b.edge.length b.e) hl0 rfl rfl rfl (by omega) (by rw [hb]; rfl) | exact y_ld rfl rfl rfl (by rfl) | exact y_ldN rfl rfl rfl (by rfl) | exact y_ldK rfl rfl rfl rfl (by assumption) (by omega) | exact y_ldI rfl rfl rfl rfl (by assumption) (by omega) (by omega))) rfl ?_
  refine d_take 20 rfl (by kernel_rfl) (by exact y_lenS rfl rfl rfl) rfl ?_
  refine d_take 21 rfl (by kernel_rfl) (by exact y_add rfl rfl (by omega)) rfl ?_
  refine d_take 22 rfl (by kernel_rfl) (by exact y_assign rfl) rfl ?_
  refine d_done (by kernel_rfl) ?_
  refine s_endb ?_
  refine s_region ?_
  refine s_q (y_move rfl) rfl ?_
  refine s_q (y_add rfl rfl (by omega)) rfl ?_
  refine s_q (y_assign rfl) rfl ?_
  refine s_done ?_
  refine s_inv (i + 1, z + b.vars.length + b.cols.length + b.edge.length) ⟨(by (try dsimp only); omega), (by (try dsimp only); omega), (by (try dsimp only); omega), fun hz => ?_⟩ (by (try dsimp only); omega) ⟨rfl, rfl, rfl, trivial⟩ tk
  dsimp only at hz ⊢
  have h2 := he c2
  refine ⟨by omega, fun x hx => ?_⟩
  rw [take_D .no hil, hb] at hx
  rcases List.mem_append.1 hx with hx | hx
  · have := h2.2 x hx; omega
  · rw [List.mem_singleton.1 hx]; omega
theorem smp_ok (x y z : Nat) : (smp x y z).ok := ⟨by simp [smp], by simp [smp], by simp [smp]⟩
theorem smp_right (x y z : Nat) : rightB (smp x y z) = true := by simp [smp, rightB, risB, inB]
theorem smp_worth (x y z : Nat) : worthO [1, 2] [10, 3] [smp x y z] = [15, 0] ∧ worthE [1, 2] [10, 3] [smp x y z] = 0 := by
  have h : wrongW [1, 2] [10, 3] [smp x y z] = false := by simp [wrongW, smp, rightB, risB, inB]
  rw [worthO, worthE, h]
  simp [worthL, dls, dl, smp, List.range_succ]
  decide
theorem smp_apart (x y z : Nat) : apartL (smp x y z) = [[1]] := by
  rw [apartL, if_pos (smp_right x y z)]; simp [smp, rowOf]; decide
theorem smp_kept (x y z : Nat) : keptL [smp x y z] = [1] := by
  rw [keptL, if_pos (by simp [smp_right])]; simp [smp, isSp, spB]; decide
theorem smp_kr {w : World} {N : Nat → Prop} {L : List HP} {base : World} {M : Nat → Prop} {x y z : Nat} (hl : ∀ w', Since w N w' → Sat base M L w') (h1 : cb x 3 (ints [1, 2]) ∈ L) (h2 : cb y 3 (ints [4, -1]) ∈ L) (h3 : cb z 3 (ints [5, 9]) ∈ L) : KR w N (smp x y z) := ⟨kiOfC hl h1, kiOfC hl h2, kiOfC hl h3⟩
theorem kbr1 {w : World} {N : Nat → Prop} {T : Option Addr} {b : BrD} (h : KE 3 encBr .no w N T [b]) (hb : KR w N b) : KBr w N T [b] := ⟨h, fun x hx => by rw [List.mem_singleton.1 hx]; exact hb⟩
theorem ok1 {b : BrD} (h : b.ok) : ∀ x ∈ [b], x.ok := fun x hx => by rw [List.mem_singleton.1 hx]; exact h
theorem awake_spec (w : World) (N : Nat → Prop) (ho : Owns w [] N) : Ret Tryz.prog 7 [] w N fun v L => v = .bool true ∧ L = [] := by
  refine ret_of_J cx Tryz.func7 rfl (Nat.le_of_ble_eq_true rfl) ho ?_
  refine s_seq ?_
  refine s_region ?_
  refine s_q (y_assign rfl) rfl ?_
  refine s_done ?_
  refine s_seq ?_
  refine s_region ?_
  refine s_bslice rfl rfl rfl rfl rfl rfl rfl rfl (fun b1 => ?_)
  change J _ _ _ (cb b1 3 (ints [1, 2]) :: _) _
  refine s_bslice rfl rfl rfl rfl rfl rfl rfl rfl (fun b2 => ?_)
  change J _ _ _ (cb b2 3 (ints [10, 3]) :: _) _
  refine s_call (pre := []) (rem := _) rfl rfl tk (fun w N ho hl => sample_spec w N ho) rfl ?_
  rintro e L' ⟨x, y, z, rfl, rfl⟩
  try simp only [List.nil_append, List.cons_append, List.append_nil]
  refine s_bslice rfl rfl rfl rfl rfl rfl rfl rfl (fun b3 => ?_)
  change J _ _ _ (cb b3 43 ([smp x y z].flatMap encBr) :: _) _
  refine s_call (pre := []) (rem := _) rfl rfl tk (fun w N ho hl => Worth_spec w N (some ⟨b1, 0, none⟩) (some ⟨b2, 0, none⟩) (some ⟨b3, 0, none⟩) 2 2 1 2 2 1 [1, 2] [10, 3] [smp x y z] rfl rfl rfl ho (kiOfC hl (by repeat (first | exact List.mem_cons_self | refine List.mem_cons_of_mem _ ?_))) (kiOfC hl (by repeat (first | exact List.mem_cons_self | refine List.mem_cons_of_mem _ ?_))) (kbr1 (keOfC (fun _ => rfl) hl (by repeat (first | exact List.mem_cons_self | refine List.mem_cons_of_mem _ ?_))) (smp_kr hl (by repeat (first | exact List.mem_cons_self | refine List.mem_cons_of_mem _ ?_)) (by repeat (first | exact List.mem_cons_self | refine List.mem_cons_of_mem _ ?_)) (by repeat (first | exact List.mem_cons_self | refine List.mem_cons_of_mem _ ?_)))) (ok1 (smp_ok x y z)) (by decide) (by decide) (by simp)) rfl ?_
  rintro e L' ⟨G, g, rfl, rfl⟩
  try simp only [List.nil_append, List.cons_append, List.append_nil]
  obtain ⟨e1, e2⟩ := smp_worth x y z
  rw [e1, e2]
  refine s_q (y_move rfl) rfl ?_
  refine s_q (y_extract rfl rfl) rfl ?_
  refine s_q (y_extract rfl rfl) rfl ?_
  refine s_q (y_assign rfl) rfl ?_
  refine s_q (y_assign rfl) rfl ?_
  refine s_done ?_
  refine s_seq ?_
  refine s_region ?_
  refine s_q (y_move rfl) rfl ?_
  refine s_q (by (first | exact y_as (y_eql rfl rfl) (congrArg Value.bool (decide_eq_true rfl)) | exact y_eql rfl rfl | exact y_eqlB rfl rfl rfl)) rfl ?_
  refine s_q (y_move rfl) rfl ?_
  refine s_guard2 rfl rfl (by with_reducible rfl) ?_
  refine s_q (y_move rfl) rfl ?_
  refine s_guard2 rfl rfl (by with_reducible rfl) ?_
  refine s_bslice rfl rfl rfl rfl rfl rfl rfl rfl (fun b4 => ?_)
  change J _ _ _ (cb b4 3 (ints [15, 0]) :: _) _
  refine s_guard2 rfl rfl (by with_reducible rfl) ?_
  refine s_call (pre := []) (rem := _) rfl rfl tk (fun w N ho hl => SameInts_spec w N G (some ⟨b4, 0, none⟩) g 2 2 2 [15, 0] [15, 0] rfl rfl ho (KI.ofS hl (by repeat (first | exact List.mem_cons_self | refine List.mem_cons_of_mem _ ?_))) (kiOfC hl (by repeat (first | exact List.mem_cons_self | refine List.mem_cons_of_mem _ ?_))) (by decide)) rfl ?_
  rintro e L' ⟨rfl, rfl⟩
  try simp only [List.nil_append, List.cons_append, List.append_nil]
  simp only [decide_true]
  refine s_q (by (first | exact y_pickT rfl rfl | exact y_pickF rfl rfl)) rfl ?_
  refine s_q (y_move rfl) rfl ?_
  refine s_guard2 rfl rfl (by with_reducible rfl) ?_
  refine s_call (pre := []) (rem := _) rfl rfl tk (fun w N ho hl => sample_spec w N ho) rfl ?_
  rintro e L' ⟨x2, y2, z2, rfl, rfl⟩
  try simp only [List.nil_append, List.cons_append, List.append_nil]
  refine s_guard2 rfl rfl (by with_reducible rfl) ?_
  refine s_call (pre := []) (rem := _) rfl rfl tk (fun w N ho hl => Used_spec w N (smp x2 y2 z2) ho (smp_kr hl (by repeat (first | exact List.mem_cons_self | refine List.mem_cons_of_mem _ ?_)) (by repeat (first | exact List.mem_cons_self | refine List.mem_cons_of_mem _ ?_)) (by repeat (first | exact List.mem_cons_self | refine List.mem_cons_of_mem _ ?_))) (smp_ok x2 y2 z2)) rfl ?_
  rintro e L' ⟨rfl, rfl⟩
  try simp only [List.nil_append, List.cons_append, List.append_nil]
  rw [smp_apart]
  refine s_guard2 rfl rfl (by with_reducible rfl) ?_
  refine s_q (by (first | exact y_as (y_eql rfl rfl) (congrArg Value.bool (decide_eq_true rfl)) | exact y_eql rfl rfl | exact y_eqlB rfl rfl rfl)) rfl ?_
  refine s_q (by (first | exact y_pickT rfl rfl | exact y_pickF rfl rfl)) rfl ?_
  refine s_q (y_move rfl) rfl ?_
  refine s_guard2 rfl rfl (by with_reducible rfl) ?_
  refine s_call (pre := []) (rem := _) rfl rfl tk (fun w N ho hl => sample_spec w N ho) rfl ?_
  rintro e L' ⟨x3, y3, z3, rfl, rfl⟩
  try simp only [List.nil_append, List.cons_append, List.append_nil]
  refine s_guard2 rfl rfl (by with_reducible rfl) ?_
  refine s_bslice rfl rfl rfl rfl rfl rfl rfl rfl (fun b5 => ?_)
  change J _ _ _ (cb b5 43 ([smp x3 y3 z3].flatMap encBr) :: _) _
  refine s_guard2 rfl rfl (by with_reducible rfl) ?_
  refine s_call (pre := []) (rem := _) rfl rfl tk (fun w N ho hl => Kept_spec w N (some ⟨b5, 0, none⟩) 1 1 [smp x3 y3 z3] rfl ho (kbr1 (keOfC (fun _ => rfl) hl (by repeat (first | exact List.mem_cons_self | refine List.mem_cons_of_mem _ ?_))) (smp_kr hl (by repeat (first | exact List.mem_cons_self | refine List.mem_cons_of_mem _ ?_)) (by repeat (first | exact List.mem_cons_self | refine List.mem_cons_of_mem _ ?_)) (by repeat (first | exact List.mem_cons_self | refine List.mem_cons_of_mem _ ?_)))) (ok1 (smp_ok x3 y3 z3)) (by simp)) rfl ?_
  rintro e L' ⟨G5, g5, rfl, rfl⟩
  try simp only [List.nil_append, List.cons_append, List.append_nil]
  rw [smp_kept]
  refine s_guard2 rfl rfl (by with_reducible rfl) ?_
  refine s_bslice rfl rfl rfl rfl rfl rfl rfl rfl (fun b6 => ?_)
  change J _ _ _ (cb b6 3 (ints [1]) :: _) _
  refine s_guard2 rfl rfl (by with_reducible rfl) ?_
  refine s_call (pre := []) (rem := _) rfl rfl tk (fun w N ho hl => SameInts_spec w N G5 (some ⟨b6, 0, none⟩) g5 1 1 1 [1] [1] rfl rfl ho (KI.ofS hl (by repeat (first | exact List.mem_cons_self | refine List.mem_cons_of_mem _ ?_))) (kiOfC hl (by repeat (first | exact List.mem_cons_self | refine List.mem_cons_of_mem _ ?_))) (by decide)) rfl ?_
  rintro e L' ⟨rfl, rfl⟩
  try simp only [List.nil_append, List.cons_append, List.append_nil]
  simp only [decide_true]
  refine s_q (by (first | exact y_pickT rfl rfl | exact y_pickF rfl rfl)) rfl ?_
  refine s_q (y_assign rfl) rfl ?_
  refine s_done ?_
  exact s_return ⟨rfl, rfl⟩ (res_tmp Tryz.results7 rfl)
end Go.Proofs.YtdbnlgknalencaaGreat
