/- Layer 23 (brief), the document's: Worth. -/
import Derived.Test.YtdbnlgknalencaaGreatBrgR
import Derived.Test.YtdbnlgknalencaaGreatEEb
set_option linter.unusedVariables false
set_option linter.unusedSimpArgs false
namespace Go.Proofs.YtdbnlgknalencaaGreat
open Go Go.E
set_option maxRecDepth 4000
set_option maxHeartbeats 1000000
abbrev AtZ (l : List Int) (n z : Int) : Prop := (z = -1 ∧ n ∉ l) ∨ ∃ j : Nat, z = j ∧ j < l.length ∧ l.getD j 0 = n
theorem at_lt {l : List Int} {n z : Int} (h : AtZ l n z) : z < l.length := by
  rcases h with ⟨rfl, _⟩ | ⟨j, rfl, hj, _⟩ <;> omega
theorem at_dl {b : BrD} {x z : Int} (hb : RE b) (h : AtZ b.vars x z) : dl b.vars b.cols b.edge x = if 0 ≤ z then (if b.cols.getD z.toNat 0 < 0 then -(b.edge.getD z.toNat 0) else b.edge.getD z.toNat 0) else 0 := by
  rcases h with ⟨rfl, h⟩ | ⟨j, rfl, hj, rfl⟩
  · rw [dl_zero _ _ _ _ h]; simp
  · rw [dl_at _ _ _ 0 hb.ris j hj (by rw [hb.lc]; exact hj) (by rw [hb.le]; exact hj)]; simp
theorem at_sp {b : BrD} {x z : Int} (hb : RE b) (h : AtZ b.vars x z) : spB b.vars b.cols x = (decide (0 ≤ z) && decide (b.cols.getD z.toNat 0 < 0)) := by
  rw [Bool.eq_iff_iff]
  simp only [Bool.and_eq_true, decide_eq_true_eq]
  rcases h with ⟨rfl, h⟩ | ⟨j, rfl, hj, rfl⟩
  · rw [spB_iff]
    constructor
    · rintro ⟨j, h1, h2, h3, h4⟩; exact absurd (h3 ▸ getD_mem 0 h1) h
    · intro ⟨h, _⟩; omega
  · rw [hb.toRB.sp hj]; simp
theorem rWorth_spec (w : World) (N : Nat → Prop) (A B T : Option Addr) (c d t n p q : Nat) (vars weight : List Int) (l : List BrD) (hn : n = vars.length) (hp : p = weight.length) (hq : q = l.length) (ho : Owns w [] N) (hv : KI w N A vars) (hw : KI w N B weight) (hl0 : KBr w N T l) (hok : ∀ b ∈ l, b.ok) (h1 : vars.length < 100000000000000) (h2 : weight.length < 100000000000000) (h3 : l.length < 100000000000000) :
    Ret Tryz.prog 11 [.slice A n c, .slice B p d, .slice T q t] w N (WorthPost vars weight l) := by
  subst hn hp hq
  refine ret_of_J cx Tryz.func11 rfl (Nat.le_of_ble_eq_true rfl) ho ?_
  have bad : wrongW vars weight l = true → worthO vars weight l = [] ∧ worthE vars weight l = 2 := fun h => ⟨by rw [worthO, if_pos h], by rw [worthE, if_pos h]⟩
  refine s_seq ?_
  refine s_region ?_
  refine s_q (y_assign rfl) rfl ?_
  refine s_q (y_assign rfl) rfl ?_
  refine s_done ?_
  refine s_seq ?_
  refine s_seq ?_
  refine s_region ?_
  refine s_q (y_move rfl) rfl ?_
  refine s_call (pre := []) (rem := _) rfl rfl tk (fun w N ho hl => rRising_spec w N A c _ vars rfl ho (hv.of hl) h1) rfl ?_
  rintro e L' ⟨rfl, rfl⟩
  try simp only [List.nil_append, List.cons_append, List.append_nil]
  refine s_q (by (first | exact y_notT rfl | exact y_notF rfl | exact y_notp rfl | exact y_notb rfl)) rfl ?_
  refine s_q (y_move rfl) rfl ?_
  first | refine J.split (t := 14) rfl (fun c1 => ?_) (fun c1 => ?_) | refine J.splitb (t := 14) rfl (fun c1 => ?_) (fun c1 => ?_)
  rotate_left
  · skip
    first | refine J.known (t := 16) (b := true) rfl (decide_eq_true c1) ?_ | refine J.known (t := 16) (b := true) rfl (congrArg not c1) ?_
    refine s_unguard2 (b := true) rfl rfl rfl rfl rfl ?_
    refine s_unguard2 (b := true) rfl rfl rfl rfl rfl ?_
    refine s_unguard2 (b := true) rfl rfl rfl rfl rfl ?_
    refine s_unguard2 (b := true) rfl rfl rfl rfl rfl ?_
    refine s_unguard2 (b := true) rfl rfl rfl rfl rfl ?_
    refine s_q (y_pickT rfl rfl) rfl ?_
    refine s_q (y_move rfl) rfl ?_
    refine s_unguard2 (b := true) rfl rfl rfl rfl rfl ?_
    refine s_unguard2 (b := true) rfl rfl rfl rfl rfl ?_
    refine s_unguard2 (b := true) rfl rfl rfl rfl rfl ?_
    refine s_q (y_pickT rfl rfl) rfl ?_
    refine s_q (y_move rfl) rfl ?_
    refine s_unguard2 (b := true) rfl rfl rfl rfl rfl ?_
    refine s_unguard2 (b := true) rfl rfl rfl rfl rfl ?_
    refine s_unguard2 (b := true) rfl rfl rfl rfl rfl ?_
    refine s_q (y_pickT rfl rfl) rfl ?_
    refine s_q (y_move rfl) rfl ?_
    refine s_unguard2 (b := true) rfl rfl rfl rfl rfl ?_
    refine s_unguard2 (b := true) rfl rfl rfl rfl rfl ?_
    refine s_unguard2 (b := true) rfl rfl rfl rfl rfl ?_
    refine s_q (y_pickT rfl rfl) rfl ?_
    refine s_done ?_
    refine s_condT rfl ?_
    refine s_seq ?_
    refine s_region ?_
    refine s_q (y_assign rfl) rfl ?_
    refine s_q (y_assign rfl) rfl ?_
    refine s_done ?_
    obtain ⟨e1, e2⟩ := bad (by simp only [wrongW]; first | (simp_all [Int.ofNat_inj, -List.all_eq_true, -List.all_eq_false]; done) | (simp_all [Int.ofNat_inj, -List.all_eq_true, -List.all_eq_false]; first | omega | (left; omega)))
    refine J.emp (B := Sl 3 1 none 0 0 (ints [])) (Sl.ofNil _ _) ?_
    exact s_return (R := WorthPost vars weight l) ⟨none, 0, by rw [e1, e2, List.length_nil], by rw [e1, List.length_nil]⟩ (res_tmp2 Tryz.results11 rfl rfl)
  first | refine J.known (t := 16) (b := false) rfl (decide_eq_false (not_not_intro c1)) ?_ | refine J.known (t := 16) (b := false) rfl (congrArg not c1) ?_
  refine s_guard rfl rfl ?_
  refine s_q (y_move rfl) rfl ?_
  refine s_guard rfl rfl ?_
  refine s_q (y_lenS rfl rfl rfl) rfl ?_
  refine s_guard rfl rfl ?_
  refine s_q (y_move rfl) rfl ?_
  refine s_guard rfl rfl ?_
  refine s_q (y_lenS rfl rfl rfl) rfl ?_
  refine s_guard rfl rfl ?_
  refine s_q (by (first | exact y_neq rfl rfl | exact y_neqB rfl rfl rfl)) rfl ?_
  refine s_q (y_pickF rfl rfl) rfl ?_
  refine s_q (y_move rfl) rfl ?_
  first | refine J.split (t := 21) rfl (fun c2 => ?_) (fun c2 => ?_) | refine J.splitb (t := 21) rfl (fun c2 => ?_) (fun c2 => ?_)
  · skip
    first | refine J.known (t := 23) (b := true) rfl (decide_eq_true c2) ?_ | refine J.known (t := 23) (b := true) rfl c2 ?_
    refine s_unguard2 (b := true) rfl rfl rfl rfl rfl ?_
    refine s_unguard2 (b := true) rfl rfl rfl rfl rfl ?_
    refine s_unguard2 (b := true) rfl rfl rfl rfl rfl ?_
    refine s_q (y_pickT rfl rfl) rfl ?_
    refine s_q (y_move rfl) rfl ?_
    refine s_unguard2 (b := true) rfl rfl rfl rfl rfl ?_
    refine s_unguard2 (b := true) rfl rfl rfl rfl rfl ?_
    refine s_unguard2 (b := true) rfl rfl rfl rfl rfl ?_
    refine s_q (y_pickT rfl rfl) rfl ?_
    refine s_q (y_move rfl) rfl ?_
    refine s_unguard2 (b := true) rfl rfl rfl rfl rfl ?_
    refine s_unguard2 (b := true) rfl rfl rfl rfl rfl ?_
    refine s_unguard2 (b := true) rfl rfl rfl rfl rfl ?_
    refine s_q (y_pickT rfl rfl) rfl ?_
    refine s_done ?_
    refine s_condT rfl ?_
    refine s_seq ?_
    refine s_region ?_
    refine s_q (y_assign rfl) rfl ?_
    refine s_q (y_assign rfl) rfl ?_
    refine s_done ?_
    obtain ⟨e1, e2⟩ := bad (by simp only [wrongW]; first | (simp_all [Int.ofNat_inj, -List.all_eq_true, -List.all_eq_false]; done) | (simp_all [Int.ofNat_inj, -List.all_eq_true, -List.all_eq_false]; first | omega | (left; omega)))
    refine J.emp (B := Sl 3 1 none 0 0 (ints [])) (Sl.ofNil _ _) ?_
    exact s_return (R := WorthPost vars weight l) ⟨none, 0, by rw [e1, e2, List.length_nil], by rw [e1, List.length_nil]⟩ (res_tmp2 Tryz.results11 rfl rfl)
  first | refine J.known (t := 23) (b := false) rfl (decide_eq_false c2) ?_ | refine J.known (t := 23) (b := false) rfl c2 ?_
  refine s_guard rfl rfl ?_
  refine s_q (y_move rfl) rfl ?_
  refine s_guard rfl rfl ?_
  refine s_call (pre := []) (rem := _) rfl rfl tk (fun w N ho hl => rWithin_spec w N B d _ weight 0 1099511627776 rfl ho (hw.of hl) h2) rfl ?_
  rintro e L' ⟨rfl, rfl⟩
  try simp only [List.nil_append, List.cons_append, List.append_nil]
  refine s_guard rfl rfl ?_
  refine s_q (by (first | exact y_notT rfl | exact y_notF rfl | exact y_notp rfl | exact y_notb rfl)) rfl ?_
  refine s_q (y_pickF rfl rfl) rfl ?_
  refine s_q (y_move rfl) rfl ?_
  first | refine J.split (t := 25) rfl (fun c3 => ?_) (fun c3 => ?_) | refine J.splitb (t := 25) rfl (fun c3 => ?_) (fun c3 => ?_)
  rotate_left
  · skip
    first | refine J.known (t := 28) (b := true) rfl (decide_eq_true c3) ?_ | refine J.known (t := 28) (b := true) rfl (congrArg not c3) ?_
    refine s_unguard2 (b := true) rfl rfl rfl rfl rfl ?_
    refine s_unguard2 (b := true) rfl rfl rfl rfl rfl ?_
    refine s_unguard2 (b := true) rfl rfl rfl rfl rfl ?_
    refine s_q (y_pickT rfl rfl) rfl ?_
    refine s_q (y_move rfl) rfl ?_
    refine s_unguard2 (b := true) rfl rfl rfl rfl rfl ?_
    refine s_unguard2 (b := true) rfl rfl rfl rfl rfl ?_
    refine s_unguard2 (b := true) rfl rfl rfl rfl rfl ?_
    refine s_q (y_pickT rfl rfl) rfl ?_
    refine s_done ?_
    refine s_condT rfl ?_
    refine s_seq ?_
    refine s_region ?_
    refine s_q (y_assign rfl) rfl ?_
    refine s_q (y_assign rfl) rfl ?_
    refine s_done ?_
    obtain ⟨e1, e2⟩ := bad (by simp only [wrongW]; first | (simp_all [Int.ofNat_inj, -List.all_eq_true, -List.all_eq_false]; done) | (simp_all [Int.ofNat_inj, -List.all_eq_true, -List.all_eq_false]; first | omega | (left; omega)))
    refine J.emp (B := Sl 3 1 none 0 0 (ints [])) (Sl.ofNil _ _) ?_
    exact s_return (R := WorthPost vars weight l) ⟨none, 0, by rw [e1, e2, List.length_nil], by rw [e1, List.length_nil]⟩ (res_tmp2 Tryz.results11 rfl rfl)
  first | refine J.known (t := 28) (b := false) rfl (decide_eq_false (not_not_intro c3)) ?_ | refine J.known (t := 28) (b := false) rfl (congrArg not c3) ?_
  refine s_guard rfl rfl ?_
  refine s_q (y_move rfl) rfl ?_
  refine s_guard rfl rfl ?_
  refine s_q (y_lenS rfl rfl rfl) rfl ?_
  refine s_guard rfl rfl ?_
  refine s_q (y_gtr rfl rfl) rfl ?_
  refine s_q (y_pickF rfl rfl) rfl ?_
  refine s_q (y_move rfl) rfl ?_
  first | refine J.split (t := 31) rfl (fun c4 => ?_) (fun c4 => ?_) | refine J.splitb (t := 31) rfl (fun c4 => ?_) (fun c4 => ?_)
  · skip
    first | refine J.known (t := 33) (b := true) rfl (decide_eq_true c4) ?_ | refine J.known (t := 33) (b := true) rfl c4 ?_
    refine s_unguard2 (b := true) rfl rfl rfl rfl rfl ?_
    refine s_unguard2 (b := true) rfl rfl rfl rfl rfl ?_
    refine s_unguard2 (b := true) rfl rfl rfl rfl rfl ?_
    refine s_q (y_pickT rfl rfl) rfl ?_
    refine s_done ?_
    refine s_condT rfl ?_
    refine s_seq ?_
    refine s_region ?_
    refine s_q (y_assign rfl) rfl ?_
    refine s_q (y_assign rfl) rfl ?_
    refine s_done ?_
    obtain ⟨e1, e2⟩ := bad (by simp only [wrongW]; first | (simp_all [Int.ofNat_inj, -List.all_eq_true, -List.all_eq_false]; done) | (simp_all [Int.ofNat_inj, -List.all_eq_true, -List.all_eq_false]; first | omega | (left; omega)))
    refine J.emp (B := Sl 3 1 none 0 0 (ints [])) (Sl.ofNil _ _) ?_
    exact s_return (R := WorthPost vars weight l) ⟨none, 0, by rw [e1, e2, List.length_nil], by rw [e1, List.length_nil]⟩ (res_tmp2 Tryz.results11 rfl rfl)
  first | refine J.known (t := 33) (b := false) rfl (decide_eq_false c4) ?_ | refine J.known (t := 33) (b := false) rfl c4 ?_
  refine s_guard rfl rfl ?_
  refine s_q (y_move rfl) rfl ?_
  refine s_guard rfl rfl ?_
  refine s_call (pre := []) (rem := _) rfl rfl tk (fun w N ho hl => rAll_spec w N T t _ l rfl ho (hl0.of hl) hok (by omega)) rfl ?_
  rintro e L' ⟨rfl, rfl⟩
  try simp only [List.nil_append, List.cons_append, List.append_nil]
  refine s_guard rfl rfl ?_
  refine s_q (by (first | exact y_notT rfl | exact y_notF rfl | exact y_notp rfl | exact y_notb rfl)) rfl ?_
  refine s_q (y_pickF rfl rfl) rfl ?_
  refine s_done ?_
  first | refine J.split (t := 35) rfl (fun c5 => ?_) (fun c5 => ?_) | refine J.splitb (t := 35) rfl (fun c5 => ?_) (fun c5 => ?_)
  rotate_left
  · skip
    first | refine J.known (t := 37) (b := true) rfl (decide_eq_true c5) ?_ | refine J.known (t := 37) (b := true) rfl (congrArg not c5) ?_
    refine s_condT rfl ?_
    refine s_seq ?_
    refine s_region ?_
    refine s_q (y_assign rfl) rfl ?_
    refine s_q (y_assign rfl) rfl ?_
    refine s_done ?_
    obtain ⟨e1, e2⟩ := bad (by simp only [wrongW]; first | (simp_all [Int.ofNat_inj, -List.all_eq_true, -List.all_eq_false]; done) | (simp_all [Int.ofNat_inj, -List.all_eq_true, -List.all_eq_false]; first | omega | (left; omega)))
    refine J.emp (B := Sl 3 1 none 0 0 (ints [])) (Sl.ofNil _ _) ?_
    exact s_return (R := WorthPost vars weight l) ⟨none, 0, by rw [e1, e2, List.length_nil], by rw [e1, List.length_nil]⟩ (res_tmp2 Tryz.results11 rfl rfl)
  first | refine J.known (t := 37) (b := false) rfl (decide_eq_false (not_not_intro c5)) ?_ | refine J.known (t := 37) (b := false) rfl (congrArg not c5) ?_
  refine s_condF rfl ?_
  refine s_skip ?_
  refine s_seq ?_
  have hw0 : wrongW vars weight l = false := by simp only [wrongW]; first | (simp_all [Int.ofNat_inj, -List.all_eq_true, -List.all_eq_false]; done) | (simp_all [Int.ofNat_inj, -List.all_eq_true, -List.all_eq_false]; first | omega | (left; omega))
  have e1 : worthO vars weight l = worthL vars weight l := by rw [worthO, hw0]; simp
  have e2 : worthE vars weight l = 0 := by rw [worthE, hw0]; simp
  simp only [wrongW, Bool.or_eq_false_iff, Bool.not_eq_false', decide_eq_true_eq, decide_eq_false_iff_not, List.all_eq_true] at hw0
  obtain ⟨g1, g2, g3, g4, g5⟩ := hw0
  have hvl := risB_len vars 0 (by omega) g1
  clear bad
  have e3 : (worthL vars weight l).length = vars.length := by simp [worthL]
  refine s_region ?_
  refine s_q (y_assign rfl) rfl ?_
  refine s_done ?_
  refine s_seq ?_
  refine s_seq ?_
  refine s_region ?_
  refine s_q (y_assign rfl) rfl ?_
  refine s_done ?_
  refine s_block ?_
  refine J.emp (B := Sl 3 1 none 0 0 (ints ((worthL vars weight l).take 0))) (by rw [List.take_zero]; exact Sl.ofNil _ _) ?_
  refine s_loopV (σ := Nat × Option Addr × Nat) (fun s => [(9, .int .i64 s.1), (8, .slice s.2.1 s.1 s.2.2)]) (fun s => [Sl 3 1 s.2.1 s.1 s.2.2 (ints ((worthL vars weight l).take s.1))]) (fun s => (s.1 ≤ vars.length)) (fun s => vars.length - s.1) (0, none, 0) [(0, _), (1, _), (2, _)] ⟨rfl, rfl, rfl, trivial⟩ ⟨rfl, rfl, trivial⟩ tk (Nat.zero_le _) ?_
  rintro ⟨i, G, g⟩ hi
  try dsimp only [List.cons_append, List.nil_append, List.append_nil] at hi ⊢
  refine s_seq ?_
  refine s_seq ?_
  refine s_region ?_
  refine s_q (y_move rfl) rfl ?_
  refine s_q (y_move rfl) rfl ?_
  refine s_q (y_lenS rfl rfl rfl) rfl ?_
  refine s_q (y_lss rfl rfl) rfl ?_
  refine s_done ?_
  refine s_cond rfl (fun h => ?_) (fun h => ?_)
  · have hil : i < vars.length := by omega
    have hwk := g3 _ (getD_mem 0 (k := i) (by omega))
    simp only [inB, decide_eq_true_eq] at hwk
    refine s_skip ?_
    refine s_seq ?_
    refine s_block ?_
    refine s_seq ?_
    refine s_region ?_
    refine s_q (y_move rfl) rfl ?_
    refine s_q (y_move rfl) rfl ?_
    refine s_q (by (first | exact y_ixI rfl rfl rfl rfl rfl hw rfl (by omega) (by omega) | exact y_ixI rfl rfl rfl rfl rfl (by assumption) rfl (by omega) (by omega))) rfl ?_
    refine s_q (by (first | exact y_ldK rfl rfl rfl rfl hw (by omega) | exact y_ld rfl rfl rfl (by rfl) | exact y_ldN rfl rfl rfl (by rfl) | exact y_ldK rfl rfl rfl rfl (by assumption) (by omega) | exact y_ldI rfl rfl rfl rfl (by assumption) (by omega) (by omega))) rfl ?_
    refine s_q (y_assign rfl) rfl ?_
    refine s_done ?_
    refine s_seq ?_
    refine s_seq ?_
    refine s_region ?_
    refine s_q (y_assign rfl) rfl ?_
    refine s_done ?_
    refine s_block ?_
    refine s_loopV (σ := Nat × Int) (fun s => [(11, .int .i64 s.1), (10, .int .i64 s.2)]) (fun s => []) (fun s => (s.1 ≤ l.length) ∧ (s.2 + dls (l.drop s.1) (vars.getD i 0) = weight.getD i 0 + dls l (vars.getD i 0)) ∧ (-(1099511627776 * (s.1 + 1) : Int) ≤ s.2) ∧ (s.2 ≤ 1099511627776 * (s.1 + 1))) (fun s => l.length - s.1) (0, weight.getD i 0) [(0, _), (1, _), (2, _), (8, _), (9, _)] ⟨rfl, rfl, rfl, rfl, rfl, trivial⟩ ⟨rfl, rfl, trivial⟩ tk ⟨Nat.zero_le _, rfl, (by (try dsimp only); omega), (by (try dsimp only); omega)⟩ ?_
    rintro ⟨j, z⟩ ⟨hj, hs, hz0, hz1⟩
    try dsimp only [List.cons_append, List.nil_append, List.append_nil] at hj hs hz0 hz1 ⊢
    refine s_seq ?_
    refine s_seq ?_
    refine s_region ?_
    refine s_q (y_move rfl) rfl ?_
    refine s_q (y_move rfl) rfl ?_
    refine s_q (y_lenS rfl rfl rfl) rfl ?_
    refine s_q (y_lss rfl rfl) rfl ?_
    refine s_done ?_
    refine s_cond rfl (fun h2 => ?_) (fun h2 => ?_)
    · have hjl : j < l.length := by omega
      have hm := getD_mem BrD.no hjl
      rw [drop_D .no l j hjl] at hs
      obtain ⟨b, hb⟩ : ∃ b, l.getD j .no = b := ⟨_, rfl⟩
      rw [hb] at hm hs
      have hre := RE.of (g5 _ hm)
      have hrow := hl0.row _ hm
      have hbk := hok _ hm
      have k1 := hbk.v
      have k2 := hbk.c
      have k3 := hbk.e
      have hlc := hre.lc
      have hle := hre.le
      have hed := hre.edge
      have kc := hrow.c
      have ke := hrow.e
      simp only [dls] at hs
      refine s_skip ?_
      refine s_seq ?_
      refine s_block ?_
      refine s_seq ?_
      refine d_start ?_
      refine d_take 0 rfl (by kernel_rfl) (y_move rfl) rfl ?_
      refine d_take 1 rfl (by kernel_rfl) (y_move rfl) rfl ?_
      refine d_take 2 rfl (by kernel_rfl) (by (first | exact y_ixE hl0.blk rfl rfl rfl rfl rfl rfl (by omega) (by omega) | exact y_ixI rfl rfl rfl rfl rfl hv rfl (by omega) (by omega) | exact y_ixI rfl rfl rfl rfl rfl kc rfl (by omega) (by omega) | exact y_ixI rfl rfl rfl rfl rfl ke rfl (by omega) (by omega) | exact y_ixI rfl rfl rfl rfl rfl (by assumption) rfl (by omega) (by omega))) rfl ?_
      refine d_take 3 rfl (by kernel_rfl) (by (first | exact y_fieldAddrB rfl rfl rfl rfl rfl rfl | exact y_fieldAddr rfl rfl rfl rfl rfl rfl)) rfl ?_
      refine d_take 4 rfl (by kernel_rfl) (by (first | exact y_ldF (off := 0) (v := .slice b.A b.vars.length b.c) hl0.blk rfl rfl rfl (by omega) (by rw [hb]; rfl) | exact y_ldF (off := 1) (v := .slice b.B b.cols.length b.d) hl0.blk rfl rfl rfl (by omega) (by rw [hb]; rfl) | exact y_ldF (off := 2) (v := .slice b.C b.edge.length b.e) hl0.blk rfl rfl rfl (by omega) (by rw [hb]; rfl) | exact y_ldK rfl rfl rfl rfl hv (by omega) | exact y_ldI rfl rfl rfl rfl kc (by omega) (by omega) | exact y_ldI rfl rfl rfl rfl ke (by omega) (by omega) | exact y_ld rfl rfl rfl (by rfl) | exact y_ldN rfl rfl rfl (by rfl) | exact y_ldK rfl rfl rfl rfl (by assumption) (by omega) | exact y_ldI rfl rfl rfl rfl (by assumption) (by omega) (by omega))) rfl ?_
      refine d_take 5 rfl (by kernel_rfl) (y_move rfl) rfl ?_
      refine d_take 6 rfl (by kernel_rfl) (y_move rfl) rfl ?_
      refine d_take 7 rfl (by kernel_rfl) (by (first | exact y_ixE hl0.blk rfl rfl rfl rfl rfl rfl (by omega) (by omega) | exact y_ixI rfl rfl rfl rfl rfl hv rfl (by omega) (by omega) | exact y_ixI rfl rfl rfl rfl rfl kc rfl (by omega) (by omega) | exact y_ixI rfl rfl rfl rfl rfl ke rfl (by omega) (by omega) | exact y_ixI rfl rfl rfl rfl rfl (by assumption) rfl (by omega) (by omega))) rfl ?_
      refine d_take 8 rfl (by kernel_rfl) (by (first | exact y_ldF (off := 0) (v := .slice b.A b.vars.length b.c) hl0.blk rfl rfl rfl (by omega) (by rw [hb]; rfl) | exact y_ldF (off := 1) (v := .slice b.B b.cols.length b.d) hl0.blk rfl rfl rfl (by omega) (by rw [hb]; rfl) | exact y_ldF (off := 2) (v := .slice b.C b.edge.length b.e) hl0.blk rfl rfl rfl (by omega) (by rw [hb]; rfl) | exact y_ldK rfl rfl rfl rfl hv (by omega) | exact y_ldI rfl rfl rfl rfl kc (by omega) (by omega) | exact y_ldI rfl rfl rfl rfl ke (by omega) (by omega) | exact y_ld rfl rfl rfl (by rfl) | exact y_ldN rfl rfl rfl (by rfl) | exact y_ldK rfl rfl rfl rfl (by assumption) (by omega) | exact y_ldI rfl rfl rfl rfl (by assumption) (by omega) (by omega))) rfl ?_
      refine d_effM 9 [8, 7, 6, 5, 4, 3, 2, 1, 0] [false, true, true, true, false, true, true, true, true] rfl (by kernel_rfl) rfl (by kernel_rfl) (fun K hK => ?_)
      refine s_call (pre := []) (rem := _) rfl rfl tk (fun w N ho hl => rAt_spec w N b.A b.c _ b.vars (vars.getD i 0) rfl ho (hrow.v.of hl) k1) rfl ?_
      rintro e L' ⟨x, hx, rfl, rfl⟩
      try simp only [List.nil_append, List.cons_append, List.append_nil]
      have hlt := at_lt hx
      have hd := at_dl hre hx
      have hbd : 0 ≤ x → 0 ≤ b.edge.getD x.toNat 0 ∧ b.edge.getD x.toNat 0 ≤ 1099511627776 := fun h => hed _ (getD_mem 0 (by omega))
      refine s_done ?_
      refine hK _ _ (by refine rm_skip ?_; refine rm_yd rfl (by (first | exact y_ixE hl0.blk rfl rfl rfl rfl rfl rfl (by omega) (by omega) | exact y_ixI rfl rfl rfl rfl rfl hv rfl (by omega) (by omega) | exact y_ixI rfl rfl rfl rfl rfl kc rfl (by omega) (by omega) | exact y_ixI rfl rfl rfl rfl rfl ke rfl (by omega) (by omega) | exact y_ixI rfl rfl rfl rfl rfl (by assumption) rfl (by omega) (by omega))) ?_; refine rm_yd rfl (by exact y_move rfl) ?_; refine rm_yd rfl (by exact y_move rfl) ?_; refine rm_skip ?_; refine rm_yd rfl (by (first | exact y_fieldAddrB rfl rfl rfl rfl rfl rfl | exact y_fieldAddr rfl rfl rfl rfl rfl rfl)) ?_; refine rm_yd rfl (by (first | exact y_ixE hl0.blk rfl rfl rfl rfl rfl rfl (by omega) (by omega) | exact y_ixI rfl rfl rfl rfl rfl hv rfl (by omega) (by omega) | exact y_ixI rfl rfl rfl rfl rfl kc rfl (by omega) (by omega) | exact y_ixI rfl rfl rfl rfl rfl ke rfl (by omega) (by omega) | exact y_ixI rfl rfl rfl rfl rfl (by assumption) rfl (by omega) (by omega))) ?_; refine rm_yd rfl (by exact y_move rfl) ?_; refine rm_yd rfl (by exact y_move rfl) ?_; exact rm_nil) ?_
      clear hK K
      refine d_take 10 rfl (by kernel_rfl) (y_assign rfl) rfl ?_
      refine d_done (by kernel_rfl) ?_
      refine s_seq ?_
      refine s_seq ?_
      refine s_region ?_
      refine s_q (y_move rfl) rfl ?_
      refine s_q (y_geq rfl rfl) rfl ?_
      refine s_q (y_move rfl) rfl ?_
      first | refine J.split (t := 65) rfl (fun c1 => ?_) (fun c1 => ?_) | refine J.splitb (t := 65) rfl (fun c1 => ?_) (fun c1 => ?_)
      · skip
        first | refine J.known (t := 66) (b := true) rfl (decide_eq_true c1) ?_ | refine J.known (t := 66) (b := true) rfl c1 ?_
        refine s_guard rfl rfl ?_
        refine s_q (y_move rfl) rfl ?_
        refine s_guard rfl rfl ?_
        refine s_q (y_move rfl) rfl ?_
        refine s_guard rfl rfl ?_
        refine s_q (by (first | exact y_ixE hl0.blk rfl rfl rfl rfl rfl rfl (by omega) (by omega) | exact y_ixI rfl rfl rfl rfl rfl hv rfl (by omega) (by omega) | exact y_ixI rfl rfl rfl rfl rfl kc rfl (by omega) (by omega) | exact y_ixI rfl rfl rfl rfl rfl ke rfl (by omega) (by omega) | exact y_ixI rfl rfl rfl rfl rfl (by assumption) rfl (by omega) (by omega))) rfl ?_
        refine s_guard rfl rfl ?_
        refine s_q (by (first | exact y_fieldAddrB rfl rfl rfl rfl rfl rfl | exact y_fieldAddr rfl rfl rfl rfl rfl rfl)) rfl ?_
        refine s_guard rfl rfl ?_
        refine s_q (by (first | exact y_ldF (off := 0) (v := .slice b.A b.vars.length b.c) hl0.blk rfl rfl rfl (by omega) (by rw [hb]; rfl) | exact y_ldF (off := 1) (v := .slice b.B b.cols.length b.d) hl0.blk rfl rfl rfl (by omega) (by rw [hb]; rfl) | exact y_ldF (off := 2) (v := .slice b.C b.edge.length b.e) hl0.blk rfl rfl rfl (by omega) (by rw [hb]; rfl) | exact y_ldK rfl rfl rfl rfl hv (by omega) | exact y_ldI rfl rfl rfl rfl kc (by omega) (by omega) | exact y_ldI rfl rfl rfl rfl ke (by omega) (by omega) | exact y_ld rfl rfl rfl (by rfl) | exact y_ldN rfl rfl rfl (by rfl) | exact y_ldK rfl rfl rfl rfl (by assumption) (by omega) | exact y_ldI rfl rfl rfl rfl (by assumption) (by omega) (by omega))) rfl ?_
        refine s_guard rfl rfl ?_
        refine s_q (y_move rfl) rfl ?_
        refine s_guard rfl rfl ?_
        refine s_q (by (first | exact y_ixE hl0.blk rfl rfl rfl rfl rfl rfl (by omega) (by omega) | exact y_ixI rfl rfl rfl rfl rfl hv rfl (by omega) (by omega) | exact y_ixI rfl rfl rfl rfl rfl kc rfl (by omega) (by omega) | exact y_ixI rfl rfl rfl rfl rfl ke rfl (by omega) (by omega) | exact y_ixI rfl rfl rfl rfl rfl (by assumption) rfl (by omega) (by omega))) rfl ?_
        refine s_guard rfl rfl ?_
        refine s_q (by (first | exact y_ldF (off := 0) (v := .slice b.A b.vars.length b.c) hl0.blk rfl rfl rfl (by omega) (by rw [hb]; rfl) | exact y_ldF (off := 1) (v := .slice b.B b.cols.length b.d) hl0.blk rfl rfl rfl (by omega) (by rw [hb]; rfl) | exact y_ldF (off := 2) (v := .slice b.C b.edge.length b.e) hl0.blk rfl rfl rfl (by omega) (by rw [hb]; rfl) | exact y_ldK rfl rfl rfl rfl hv (by omega) | exact y_ldI rfl rfl rfl rfl kc (by omega) (by omega) | exact y_ldI rfl rfl rfl rfl ke (by omega) (by omega) | exact y_ld rfl rfl rfl (by rfl) | exact y_ldN rfl rfl rfl (by rfl) | exact y_ldK rfl rfl rfl rfl (by assumption) (by omega) | exact y_ldI rfl rfl rfl rfl (by assumption) (by omega) (by omega))) rfl ?_
        refine s_guard rfl rfl ?_
        refine s_q (y_geq rfl rfl) rfl ?_
        refine s_q (y_pickT rfl rfl) rfl ?_
        refine s_done ?_
        first | refine J.split (t := 75) rfl (fun c2 => ?_) (fun c2 => ?_) | refine J.splitb (t := 75) rfl (fun c2 => ?_) (fun c2 => ?_)
        · skip
          first | refine J.known (t := 76) (b := true) rfl (decide_eq_true c2) ?_ | refine J.known (t := 76) (b := true) rfl c2 ?_
          refine s_condT rfl ?_
          refine s_region ?_
          refine s_q (y_move rfl) rfl ?_
          refine s_q (y_move rfl) rfl ?_
          refine s_q (y_move rfl) rfl ?_
          refine s_q (by (first | exact y_ixE hl0.blk rfl rfl rfl rfl rfl rfl (by omega) (by omega) | exact y_ixI rfl rfl rfl rfl rfl hv rfl (by omega) (by omega) | exact y_ixI rfl rfl rfl rfl rfl kc rfl (by omega) (by omega) | exact y_ixI rfl rfl rfl rfl rfl ke rfl (by omega) (by omega) | exact y_ixI rfl rfl rfl rfl rfl (by assumption) rfl (by omega) (by omega))) rfl ?_
          refine s_q (by (first | exact y_fieldAddrB rfl rfl rfl rfl rfl rfl | exact y_fieldAddr rfl rfl rfl rfl rfl rfl)) rfl ?_
          refine s_q (by (first | exact y_ldF (off := 0) (v := .slice b.A b.vars.length b.c) hl0.blk rfl rfl rfl (by omega) (by rw [hb]; rfl) | exact y_ldF (off := 1) (v := .slice b.B b.cols.length b.d) hl0.blk rfl rfl rfl (by omega) (by rw [hb]; rfl) | exact y_ldF (off := 2) (v := .slice b.C b.edge.length b.e) hl0.blk rfl rfl rfl (by omega) (by rw [hb]; rfl) | exact y_ldK rfl rfl rfl rfl hv (by omega) | exact y_ldI rfl rfl rfl rfl kc (by omega) (by omega) | exact y_ldI rfl rfl rfl rfl ke (by omega) (by omega) | exact y_ld rfl rfl rfl (by rfl) | exact y_ldN rfl rfl rfl (by rfl) | exact y_ldK rfl rfl rfl rfl (by assumption) (by omega) | exact y_ldI rfl rfl rfl rfl (by assumption) (by omega) (by omega))) rfl ?_
          refine s_q (y_move rfl) rfl ?_
          refine s_q (by (first | exact y_ixE hl0.blk rfl rfl rfl rfl rfl rfl (by omega) (by omega) | exact y_ixI rfl rfl rfl rfl rfl hv rfl (by omega) (by omega) | exact y_ixI rfl rfl rfl rfl rfl kc rfl (by omega) (by omega) | exact y_ixI rfl rfl rfl rfl rfl ke rfl (by omega) (by omega) | exact y_ixI rfl rfl rfl rfl rfl (by assumption) rfl (by omega) (by omega))) rfl ?_
          refine s_q (by (first | exact y_ldF (off := 0) (v := .slice b.A b.vars.length b.c) hl0.blk rfl rfl rfl (by omega) (by rw [hb]; rfl) | exact y_ldF (off := 1) (v := .slice b.B b.cols.length b.d) hl0.blk rfl rfl rfl (by omega) (by rw [hb]; rfl) | exact y_ldF (off := 2) (v := .slice b.C b.edge.length b.e) hl0.blk rfl rfl rfl (by omega) (by rw [hb]; rfl) | exact y_ldK rfl rfl rfl rfl hv (by omega) | exact y_ldI rfl rfl rfl rfl kc (by omega) (by omega) | exact y_ldI rfl rfl rfl rfl ke (by omega) (by omega) | exact y_ld rfl rfl rfl (by rfl) | exact y_ldN rfl rfl rfl (by rfl) | exact y_ldK rfl rfl rfl rfl (by assumption) (by omega) | exact y_ldI rfl rfl rfl rfl (by assumption) (by omega) (by omega))) rfl ?_
          refine s_q (by (first | exact y_add rfl rfl (by omega) | exact y_add rfl rfl (by omega))) rfl ?_
          refine s_q (y_assign rfl) rfl ?_
          refine s_done ?_
          refine s_seq ?_
          refine s_region ?_
          refine s_q (y_move rfl) rfl ?_
          refine s_q (y_geq rfl rfl) rfl ?_
          refine s_q (y_move rfl) rfl ?_
          first | refine J.split (t := 88) rfl (fun c3 => ?_) (fun c3 => ?_) | refine J.splitb (t := 88) rfl (fun c3 => ?_) (fun c3 => ?_)
          · skip
            first | refine J.known (t := 89) (b := true) rfl (decide_eq_true c3) ?_ | refine J.known (t := 89) (b := true) rfl c3 ?_
            refine s_guard rfl rfl ?_
            refine s_q (y_move rfl) rfl ?_
            refine s_guard rfl rfl ?_
            refine s_q (y_move rfl) rfl ?_
            refine s_guard rfl rfl ?_
            refine s_q (by (first | exact y_ixE hl0.blk rfl rfl rfl rfl rfl rfl (by omega) (by omega) | exact y_ixI rfl rfl rfl rfl rfl hv rfl (by omega) (by omega) | exact y_ixI rfl rfl rfl rfl rfl kc rfl (by omega) (by omega) | exact y_ixI rfl rfl rfl rfl rfl ke rfl (by omega) (by omega) | exact y_ixI rfl rfl rfl rfl rfl (by assumption) rfl (by omega) (by omega))) rfl ?_
            refine s_guard rfl rfl ?_
            refine s_q (by (first | exact y_fieldAddrB rfl rfl rfl rfl rfl rfl | exact y_fieldAddr rfl rfl rfl rfl rfl rfl)) rfl ?_
            refine s_guard rfl rfl ?_
            refine s_q (by (first | exact y_ldF (off := 0) (v := .slice b.A b.vars.length b.c) hl0.blk rfl rfl rfl (by omega) (by rw [hb]; rfl) | exact y_ldF (off := 1) (v := .slice b.B b.cols.length b.d) hl0.blk rfl rfl rfl (by omega) (by rw [hb]; rfl) | exact y_ldF (off := 2) (v := .slice b.C b.edge.length b.e) hl0.blk rfl rfl rfl (by omega) (by rw [hb]; rfl) | exact y_ldK rfl rfl rfl rfl hv (by omega) | exact y_ldI rfl rfl rfl rfl kc (by omega) (by omega) | exact y_ldI rfl rfl rfl rfl ke (by omega) (by omega) | exact y_ld rfl rfl rfl (by rfl) | exact y_ldN rfl rfl rfl (by rfl) | exact y_ldK rfl rfl rfl rfl (by assumption) (by omega) | exact y_ldI rfl rfl rfl rfl (by assumption) (by omega) (by omega))) rfl ?_
            refine s_guard rfl rfl ?_
            refine s_q (y_move rfl) rfl ?_
            refine s_guard rfl rfl ?_
            refine s_q (by (first | exact y_ixE hl0.blk rfl rfl rfl rfl rfl rfl (by omega) (by omega) | exact y_ixI rfl rfl rfl rfl rfl hv rfl (by omega) (by omega) | exact y_ixI rfl rfl rfl rfl rfl kc rfl (by omega) (by omega) | exact y_ixI rfl rfl rfl rfl rfl ke rfl (by omega) (by omega) | exact y_ixI rfl rfl rfl rfl rfl (by assumption) rfl (by omega) (by omega))) rfl ?_
            refine s_guard rfl rfl ?_
            refine s_q (by (first | exact y_ldF (off := 0) (v := .slice b.A b.vars.length b.c) hl0.blk rfl rfl rfl (by omega) (by rw [hb]; rfl) | exact y_ldF (off := 1) (v := .slice b.B b.cols.length b.d) hl0.blk rfl rfl rfl (by omega) (by rw [hb]; rfl) | exact y_ldF (off := 2) (v := .slice b.C b.edge.length b.e) hl0.blk rfl rfl rfl (by omega) (by rw [hb]; rfl) | exact y_ldK rfl rfl rfl rfl hv (by omega) | exact y_ldI rfl rfl rfl rfl kc (by omega) (by omega) | exact y_ldI rfl rfl rfl rfl ke (by omega) (by omega) | exact y_ld rfl rfl rfl (by rfl) | exact y_ldN rfl rfl rfl (by rfl) | exact y_ldK rfl rfl rfl rfl (by assumption) (by omega) | exact y_ldI rfl rfl rfl rfl (by assumption) (by omega) (by omega))) rfl ?_
            refine s_guard rfl rfl ?_
            refine s_q (y_lss rfl rfl) rfl ?_
            refine s_q (y_pickT rfl rfl) rfl ?_
            refine s_done ?_
            first | refine J.split (t := 98) rfl (fun c4 => ?_) (fun c4 => ?_) | refine J.splitb (t := 98) rfl (fun c4 => ?_) (fun c4 => ?_)
            · skip
              first | refine J.known (t := 99) (b := true) rfl (decide_eq_true c4) ?_ | refine J.known (t := 99) (b := true) rfl c4 ?_
              refine s_condT rfl ?_
              refine s_region ?_
              refine s_q (y_move rfl) rfl ?_
              refine s_q (y_move rfl) rfl ?_
              refine s_q (y_move rfl) rfl ?_
              refine s_q (by (first | exact y_ixE hl0.blk rfl rfl rfl rfl rfl rfl (by omega) (by omega) | exact y_ixI rfl rfl rfl rfl rfl hv rfl (by omega) (by omega) | exact y_ixI rfl rfl rfl rfl rfl kc rfl (by omega) (by omega) | exact y_ixI rfl rfl rfl rfl rfl ke rfl (by omega) (by omega) | exact y_ixI rfl rfl rfl rfl rfl (by assumption) rfl (by omega) (by omega))) rfl ?_
              refine s_q (by (first | exact y_fieldAddrB rfl rfl rfl rfl rfl rfl | exact y_fieldAddr rfl rfl rfl rfl rfl rfl)) rfl ?_
              refine s_q (by (first | exact y_ldF (off := 0) (v := .slice b.A b.vars.length b.c) hl0.blk rfl rfl rfl (by omega) (by rw [hb]; rfl) | exact y_ldF (off := 1) (v := .slice b.B b.cols.length b.d) hl0.blk rfl rfl rfl (by omega) (by rw [hb]; rfl) | exact y_ldF (off := 2) (v := .slice b.C b.edge.length b.e) hl0.blk rfl rfl rfl (by omega) (by rw [hb]; rfl) | exact y_ldK rfl rfl rfl rfl hv (by omega) | exact y_ldI rfl rfl rfl rfl kc (by omega) (by omega) | exact y_ldI rfl rfl rfl rfl ke (by omega) (by omega) | exact y_ld rfl rfl rfl (by rfl) | exact y_ldN rfl rfl rfl (by rfl) | exact y_ldK rfl rfl rfl rfl (by assumption) (by omega) | exact y_ldI rfl rfl rfl rfl (by assumption) (by omega) (by omega))) rfl ?_
              refine s_q (y_move rfl) rfl ?_
              refine s_q (by (first | exact y_ixE hl0.blk rfl rfl rfl rfl rfl rfl (by omega) (by omega) | exact y_ixI rfl rfl rfl rfl rfl hv rfl (by omega) (by omega) | exact y_ixI rfl rfl rfl rfl rfl kc rfl (by omega) (by omega) | exact y_ixI rfl rfl rfl rfl rfl ke rfl (by omega) (by omega) | exact y_ixI rfl rfl rfl rfl rfl (by assumption) rfl (by omega) (by omega))) rfl ?_
              refine s_q (by (first | exact y_ldF (off := 0) (v := .slice b.A b.vars.length b.c) hl0.blk rfl rfl rfl (by omega) (by rw [hb]; rfl) | exact y_ldF (off := 1) (v := .slice b.B b.cols.length b.d) hl0.blk rfl rfl rfl (by omega) (by rw [hb]; rfl) | exact y_ldF (off := 2) (v := .slice b.C b.edge.length b.e) hl0.blk rfl rfl rfl (by omega) (by rw [hb]; rfl) | exact y_ldK rfl rfl rfl rfl hv (by omega) | exact y_ldI rfl rfl rfl rfl kc (by omega) (by omega) | exact y_ldI rfl rfl rfl rfl ke (by omega) (by omega) | exact y_ld rfl rfl rfl (by rfl) | exact y_ldN rfl rfl rfl (by rfl) | exact y_ldK rfl rfl rfl rfl (by assumption) (by omega) | exact y_ldI rfl rfl rfl rfl (by assumption) (by omega) (by omega))) rfl ?_
              refine s_q (by (first | exact y_sub rfl rfl (by omega) | exact y_sub rfl rfl (by omega))) rfl ?_
              refine s_q (y_assign rfl) rfl ?_
              refine s_done ?_
              refine s_endb ?_
              refine s_region ?_
              refine s_q (y_move rfl) rfl ?_
              refine s_q (by (first | exact y_add rfl rfl (by omega) | exact y_add rfl rfl (by omega))) rfl ?_
              refine s_q (y_assign rfl) rfl ?_
              refine s_done ?_
              exfalso; omega
            first | refine J.known (t := 99) (b := false) rfl (decide_eq_false c4) ?_ | refine J.known (t := 99) (b := false) rfl c4 ?_
            refine s_condF rfl ?_
            refine s_skip ?_
            refine s_endb ?_
            refine s_region ?_
            refine s_q (y_move rfl) rfl ?_
            refine s_q (by (first | exact y_add rfl rfl (by omega) | exact y_add rfl rfl (by omega))) rfl ?_
            refine s_q (y_assign rfl) rfl ?_
            refine s_done ?_
            refine s_inv (j + 1, z + b.edge.getD x.toNat 0) ⟨(by (try dsimp only); omega), (by (try dsimp only); grind), (by (try dsimp only); omega), (by (try dsimp only); omega)⟩ (by (try dsimp only); omega) ⟨rfl, rfl, rfl, rfl, rfl, rfl, rfl, trivial⟩ tk
          first | refine J.known (t := 89) (b := false) rfl (decide_eq_false c3) ?_ | refine J.known (t := 89) (b := false) rfl c3 ?_
          refine s_unguard2 (b := false) rfl rfl rfl rfl rfl ?_
          refine s_unguard2 (b := false) rfl rfl rfl rfl rfl ?_
          refine s_unguard2 (b := false) rfl rfl rfl rfl rfl ?_
          refine s_unguard2 (b := false) rfl rfl rfl rfl rfl ?_
          refine s_unguard2 (b := false) rfl rfl rfl rfl rfl ?_
          refine s_unguard2 (b := false) rfl rfl rfl rfl rfl ?_
          refine s_unguard2 (b := false) rfl rfl rfl rfl rfl ?_
          refine s_unguard2 (b := false) rfl rfl rfl rfl rfl ?_
          refine s_unguard2 (b := false) rfl rfl rfl rfl rfl ?_
          refine s_q (y_pickF rfl rfl) rfl ?_
          refine s_done ?_
          refine s_condF rfl ?_
          refine s_skip ?_
          refine s_endb ?_
          refine s_region ?_
          refine s_q (y_move rfl) rfl ?_
          refine s_q (by (first | exact y_add rfl rfl (by omega) | exact y_add rfl rfl (by omega))) rfl ?_
          refine s_q (y_assign rfl) rfl ?_
          refine s_done ?_
          refine s_inv (j + 1, z + b.edge.getD x.toNat 0) ⟨(by (try dsimp only); omega), (by (try dsimp only); grind), (by (try dsimp only); omega), (by (try dsimp only); omega)⟩ (by (try dsimp only); omega) ⟨rfl, rfl, rfl, rfl, rfl, rfl, rfl, trivial⟩ tk
        first | refine J.known (t := 76) (b := false) rfl (decide_eq_false c2) ?_ | refine J.known (t := 76) (b := false) rfl c2 ?_
        refine s_condF rfl ?_
        refine s_skip ?_
        refine s_seq ?_
        refine s_region ?_
        refine s_q (y_move rfl) rfl ?_
        refine s_q (y_geq rfl rfl) rfl ?_
        refine s_q (y_move rfl) rfl ?_
        first | refine J.split (t := 88) rfl (fun c3 => ?_) (fun c3 => ?_) | refine J.splitb (t := 88) rfl (fun c3 => ?_) (fun c3 => ?_)
        · skip
          first | refine J.known (t := 89) (b := true) rfl (decide_eq_true c3) ?_ | refine J.known (t := 89) (b := true) rfl c3 ?_
          refine s_guard rfl rfl ?_
          refine s_q (y_move rfl) rfl ?_
          refine s_guard rfl rfl ?_
          refine s_q (y_move rfl) rfl ?_
          refine s_guard rfl rfl ?_
          refine s_q (by (first | exact y_ixE hl0.blk rfl rfl rfl rfl rfl rfl (by omega) (by omega) | exact y_ixI rfl rfl rfl rfl rfl hv rfl (by omega) (by omega) | exact y_ixI rfl rfl rfl rfl rfl kc rfl (by omega) (by omega) | exact y_ixI rfl rfl rfl rfl rfl ke rfl (by omega) (by omega) | exact y_ixI rfl rfl rfl rfl rfl (by assumption) rfl (by omega) (by omega))) rfl ?_
          refine s_guard rfl rfl ?_
          refine s_q (by (first | exact y_fieldAddrB rfl rfl rfl rfl rfl rfl | exact y_fieldAddr rfl rfl rfl rfl rfl rfl)) rfl ?_
          refine s_guard rfl rfl ?_
          refine s_q (by (first | exact y_ldF (off := 0) (v := .slice b.A b.vars.length b.c) hl0.blk rfl rfl rfl (by omega) (by rw [hb]; rfl) | exact y_ldF (off := 1) (v := .slice b.B b.cols.length b.d) hl0.blk rfl rfl rfl (by omega) (by rw [hb]; rfl) | exact y_ldF (off := 2) (v := .slice b.C b.edge.length b.e) hl0.blk rfl rfl rfl (by omega) (by rw [hb]; rfl) | exact y_ldK rfl rfl rfl rfl hv (by omega) | exact y_ldI rfl rfl rfl rfl kc (by omega) (by omega) | exact y_ldI rfl rfl rfl rfl ke (by omega) (by omega) | exact y_ld rfl rfl rfl (by rfl) | exact y_ldN rfl rfl rfl (by rfl) | exact y_ldK rfl rfl rfl rfl (by assumption) (by omega) | exact y_ldI rfl rfl rfl rfl (by assumption) (by omega) (by omega))) rfl ?_
          refine s_guard rfl rfl ?_
          refine s_q (y_move rfl) rfl ?_
          refine s_guard rfl rfl ?_
          refine s_q (by (first | exact y_ixE hl0.blk rfl rfl rfl rfl rfl rfl (by omega) (by omega) | exact y_ixI rfl rfl rfl rfl rfl hv rfl (by omega) (by omega) | exact y_ixI rfl rfl rfl rfl rfl kc rfl (by omega) (by omega) | exact y_ixI rfl rfl rfl rfl rfl ke rfl (by omega) (by omega) | exact y_ixI rfl rfl rfl rfl rfl (by assumption) rfl (by omega) (by omega))) rfl ?_
          refine s_guard rfl rfl ?_
          refine s_q (by (first | exact y_ldF (off := 0) (v := .slice b.A b.vars.length b.c) hl0.blk rfl rfl rfl (by omega) (by rw [hb]; rfl) | exact y_ldF (off := 1) (v := .slice b.B b.cols.length b.d) hl0.blk rfl rfl rfl (by omega) (by rw [hb]; rfl) | exact y_ldF (off := 2) (v := .slice b.C b.edge.length b.e) hl0.blk rfl rfl rfl (by omega) (by rw [hb]; rfl) | exact y_ldK rfl rfl rfl rfl hv (by omega) | exact y_ldI rfl rfl rfl rfl kc (by omega) (by omega) | exact y_ldI rfl rfl rfl rfl ke (by omega) (by omega) | exact y_ld rfl rfl rfl (by rfl) | exact y_ldN rfl rfl rfl (by rfl) | exact y_ldK rfl rfl rfl rfl (by assumption) (by omega) | exact y_ldI rfl rfl rfl rfl (by assumption) (by omega) (by omega))) rfl ?_
          refine s_guard rfl rfl ?_
          refine s_q (y_lss rfl rfl) rfl ?_
          refine s_q (y_pickT rfl rfl) rfl ?_
          refine s_done ?_
          first | refine J.split (t := 98) rfl (fun c4 => ?_) (fun c4 => ?_) | refine J.splitb (t := 98) rfl (fun c4 => ?_) (fun c4 => ?_)
          · skip
            first | refine J.known (t := 99) (b := true) rfl (decide_eq_true c4) ?_ | refine J.known (t := 99) (b := true) rfl c4 ?_
            refine s_condT rfl ?_
            refine s_region ?_
            refine s_q (y_move rfl) rfl ?_
            refine s_q (y_move rfl) rfl ?_
            refine s_q (y_move rfl) rfl ?_
            refine s_q (by (first | exact y_ixE hl0.blk rfl rfl rfl rfl rfl rfl (by omega) (by omega) | exact y_ixI rfl rfl rfl rfl rfl hv rfl (by omega) (by omega) | exact y_ixI rfl rfl rfl rfl rfl kc rfl (by omega) (by omega) | exact y_ixI rfl rfl rfl rfl rfl ke rfl (by omega) (by omega) | exact y_ixI rfl rfl rfl rfl rfl (by assumption) rfl (by omega) (by omega))) rfl ?_
            refine s_q (by (first | exact y_fieldAddrB rfl rfl rfl rfl rfl rfl | exact y_fieldAddr rfl rfl rfl rfl rfl rfl)) rfl ?_
            refine s_q (by (first | exact y_ldF (off := 0) (v := .slice b.A b.vars.length b.c) hl0.blk rfl rfl rfl (by omega) (by rw [hb]; rfl) | exact y_ldF (off := 1) (v := .slice b.B b.cols.length b.d) hl0.blk rfl rfl rfl (by omega) (by rw [hb]; rfl) | exact y_ldF (off := 2) (v := .slice b.C b.edge.length b.e) hl0.blk rfl rfl rfl (by omega) (by rw [hb]; rfl) | exact y_ldK rfl rfl rfl rfl hv (by omega) | exact y_ldI rfl rfl rfl rfl kc (by omega) (by omega) | exact y_ldI rfl rfl rfl rfl ke (by omega) (by omega) | exact y_ld rfl rfl rfl (by rfl) | exact y_ldN rfl rfl rfl (by rfl) | exact y_ldK rfl rfl rfl rfl (by assumption) (by omega) | exact y_ldI rfl rfl rfl rfl (by assumption) (by omega) (by omega))) rfl ?_
            refine s_q (y_move rfl) rfl ?_
            refine s_q (by (first | exact y_ixE hl0.blk rfl rfl rfl rfl rfl rfl (by omega) (by omega) | exact y_ixI rfl rfl rfl rfl rfl hv rfl (by omega) (by omega) | exact y_ixI rfl rfl rfl rfl rfl kc rfl (by omega) (by omega) | exact y_ixI rfl rfl rfl rfl rfl ke rfl (by omega) (by omega) | exact y_ixI rfl rfl rfl rfl rfl (by assumption) rfl (by omega) (by omega))) rfl ?_
            refine s_q (by (first | exact y_ldF (off := 0) (v := .slice b.A b.vars.length b.c) hl0.blk rfl rfl rfl (by omega) (by rw [hb]; rfl) | exact y_ldF (off := 1) (v := .slice b.B b.cols.length b.d) hl0.blk rfl rfl rfl (by omega) (by rw [hb]; rfl) | exact y_ldF (off := 2) (v := .slice b.C b.edge.length b.e) hl0.blk rfl rfl rfl (by omega) (by rw [hb]; rfl) | exact y_ldK rfl rfl rfl rfl hv (by omega) | exact y_ldI rfl rfl rfl rfl kc (by omega) (by omega) | exact y_ldI rfl rfl rfl rfl ke (by omega) (by omega) | exact y_ld rfl rfl rfl (by rfl) | exact y_ldN rfl rfl rfl (by rfl) | exact y_ldK rfl rfl rfl rfl (by assumption) (by omega) | exact y_ldI rfl rfl rfl rfl (by assumption) (by omega) (by omega))) rfl ?_
            refine s_q (by (first | exact y_sub rfl rfl (by omega) | exact y_sub rfl rfl (by omega))) rfl ?_
            refine s_q (y_assign rfl) rfl ?_
            refine s_done ?_
            refine s_endb ?_
            refine s_region ?_
            refine s_q (y_move rfl) rfl ?_
            refine s_q (by (first | exact y_add rfl rfl (by omega) | exact y_add rfl rfl (by omega))) rfl ?_
            refine s_q (y_assign rfl) rfl ?_
            refine s_done ?_
            refine s_inv (j + 1, z - b.edge.getD x.toNat 0) ⟨(by (try dsimp only); omega), (by (try dsimp only); grind), (by (try dsimp only); omega), (by (try dsimp only); omega)⟩ (by (try dsimp only); omega) ⟨rfl, rfl, rfl, rfl, rfl, rfl, rfl, trivial⟩ tk
          first | refine J.known (t := 99) (b := false) rfl (decide_eq_false c4) ?_ | refine J.known (t := 99) (b := false) rfl c4 ?_
          refine s_condF rfl ?_
          refine s_skip ?_
          refine s_endb ?_
          refine s_region ?_
          refine s_q (y_move rfl) rfl ?_
          refine s_q (by (first | exact y_add rfl rfl (by omega) | exact y_add rfl rfl (by omega))) rfl ?_
          refine s_q (y_assign rfl) rfl ?_
          refine s_done ?_
          refine s_inv (j + 1, z) ⟨(by (try dsimp only); omega), (by (try dsimp only); grind), (by (try dsimp only); omega), (by (try dsimp only); omega)⟩ (by (try dsimp only); omega) ⟨rfl, rfl, rfl, rfl, rfl, rfl, rfl, trivial⟩ tk
        first | refine J.known (t := 89) (b := false) rfl (decide_eq_false c3) ?_ | refine J.known (t := 89) (b := false) rfl c3 ?_
        refine s_unguard2 (b := false) rfl rfl rfl rfl rfl ?_
        refine s_unguard2 (b := false) rfl rfl rfl rfl rfl ?_
        refine s_unguard2 (b := false) rfl rfl rfl rfl rfl ?_
        refine s_unguard2 (b := false) rfl rfl rfl rfl rfl ?_
        refine s_unguard2 (b := false) rfl rfl rfl rfl rfl ?_
        refine s_unguard2 (b := false) rfl rfl rfl rfl rfl ?_
        refine s_unguard2 (b := false) rfl rfl rfl rfl rfl ?_
        refine s_unguard2 (b := false) rfl rfl rfl rfl rfl ?_
        refine s_unguard2 (b := false) rfl rfl rfl rfl rfl ?_
        refine s_q (y_pickF rfl rfl) rfl ?_
        refine s_done ?_
        refine s_condF rfl ?_
        refine s_skip ?_
        refine s_endb ?_
        refine s_region ?_
        refine s_q (y_move rfl) rfl ?_
        refine s_q (by (first | exact y_add rfl rfl (by omega) | exact y_add rfl rfl (by omega))) rfl ?_
        refine s_q (y_assign rfl) rfl ?_
        refine s_done ?_
        refine s_inv (j + 1, z) ⟨(by (try dsimp only); omega), (by (try dsimp only); grind), (by (try dsimp only); omega), (by (try dsimp only); omega)⟩ (by (try dsimp only); omega) ⟨rfl, rfl, rfl, rfl, rfl, rfl, rfl, trivial⟩ tk
      first | refine J.known (t := 66) (b := false) rfl (decide_eq_false c1) ?_ | refine J.known (t := 66) (b := false) rfl c1 ?_
      refine s_unguard2 (b := false) rfl rfl rfl rfl rfl ?_
      refine s_unguard2 (b := false) rfl rfl rfl rfl rfl ?_
      refine s_unguard2 (b := false) rfl rfl rfl rfl rfl ?_
      refine s_unguard2 (b := false) rfl rfl rfl rfl rfl ?_
      refine s_unguard2 (b := false) rfl rfl rfl rfl rfl ?_
      refine s_unguard2 (b := false) rfl rfl rfl rfl rfl ?_
      refine s_unguard2 (b := false) rfl rfl rfl rfl rfl ?_
      refine s_unguard2 (b := false) rfl rfl rfl rfl rfl ?_
      refine s_unguard2 (b := false) rfl rfl rfl rfl rfl ?_
      refine s_q (y_pickF rfl rfl) rfl ?_
      refine s_done ?_
      refine s_condF rfl ?_
      refine s_skip ?_
      refine s_seq ?_
      refine s_region ?_
      refine s_q (y_move rfl) rfl ?_
      refine s_q (y_geq rfl rfl) rfl ?_
      refine s_q (y_move rfl) rfl ?_
      first | refine J.split (t := 88) rfl (fun c2 => ?_) (fun c2 => ?_) | refine J.splitb (t := 88) rfl (fun c2 => ?_) (fun c2 => ?_)
      · skip
        first | refine J.known (t := 89) (b := true) rfl (decide_eq_true c2) ?_ | refine J.known (t := 89) (b := true) rfl c2 ?_
        refine s_guard rfl rfl ?_
        refine s_q (y_move rfl) rfl ?_
        refine s_guard rfl rfl ?_
        refine s_q (y_move rfl) rfl ?_
        refine s_guard rfl rfl ?_
        refine s_q (by (first | exact y_ixE hl0.blk rfl rfl rfl rfl rfl rfl (by omega) (by omega) | exact y_ixI rfl rfl rfl rfl rfl hv rfl (by omega) (by omega) | exact y_ixI rfl rfl rfl rfl rfl kc rfl (by omega) (by omega) | exact y_ixI rfl rfl rfl rfl rfl ke rfl (by omega) (by omega) | exact y_ixI rfl rfl rfl rfl rfl (by assumption) rfl (by omega) (by omega))) rfl ?_
        refine s_guard rfl rfl ?_
        refine s_q (by (first | exact y_fieldAddrB rfl rfl rfl rfl rfl rfl | exact y_fieldAddr rfl rfl rfl rfl rfl rfl)) rfl ?_
        refine s_guard rfl rfl ?_
        refine s_q (by (first | exact y_ldF (off := 0) (v := .slice b.A b.vars.length b.c) hl0.blk rfl rfl rfl (by omega) (by rw [hb]; rfl) | exact y_ldF (off := 1) (v := .slice b.B b.cols.length b.d) hl0.blk rfl rfl rfl (by omega) (by rw [hb]; rfl) | exact y_ldF (off := 2) (v := .slice b.C b.edge.length b.e) hl0.blk rfl rfl rfl (by omega) (by rw [hb]; rfl) | exact y_ldK rfl rfl rfl rfl hv (by omega) | exact y_ldI rfl rfl rfl rfl kc (by omega) (by omega) | exact y_ldI rfl rfl rfl rfl ke (by omega) (by omega) | exact y_ld rfl rfl rfl (by rfl) | exact y_ldN rfl rfl rfl (by rfl) | exact y_ldK rfl rfl rfl rfl (by assumption) (by omega) | exact y_ldI rfl rfl rfl rfl (by assumption) (by omega) (by omega))) rfl ?_
        refine s_guard rfl rfl ?_
        refine s_q (y_move rfl) rfl ?_
        refine s_guard rfl rfl ?_
        refine s_q (by (first | exact y_ixE hl0.blk rfl rfl rfl rfl rfl rfl (by omega) (by omega) | exact y_ixI rfl rfl rfl rfl rfl hv rfl (by omega) (by omega) | exact y_ixI rfl rfl rfl rfl rfl kc rfl (by omega) (by omega) | exact y_ixI rfl rfl rfl rfl rfl ke rfl (by omega) (by omega) | exact y_ixI rfl rfl rfl rfl rfl (by assumption) rfl (by omega) (by omega))) rfl ?_
        refine s_guard rfl rfl ?_
        refine s_q (by (first | exact y_ldF (off := 0) (v := .slice b.A b.vars.length b.c) hl0.blk rfl rfl rfl (by omega) (by rw [hb]; rfl) | exact y_ldF (off := 1) (v := .slice b.B b.cols.length b.d) hl0.blk rfl rfl rfl (by omega) (by rw [hb]; rfl) | exact y_ldF (off := 2) (v := .slice b.C b.edge.length b.e) hl0.blk rfl rfl rfl (by omega) (by rw [hb]; rfl) | exact y_ldK rfl rfl rfl rfl hv (by omega) | exact y_ldI rfl rfl rfl rfl kc (by omega) (by omega) | exact y_ldI rfl rfl rfl rfl ke (by omega) (by omega) | exact y_ld rfl rfl rfl (by rfl) | exact y_ldN rfl rfl rfl (by rfl) | exact y_ldK rfl rfl rfl rfl (by assumption) (by omega) | exact y_ldI rfl rfl rfl rfl (by assumption) (by omega) (by omega))) rfl ?_
        refine s_guard rfl rfl ?_
        refine s_q (y_lss rfl rfl) rfl ?_
        refine s_q (y_pickT rfl rfl) rfl ?_
        refine s_done ?_
        first | refine J.split (t := 98) rfl (fun c3 => ?_) (fun c3 => ?_) | refine J.splitb (t := 98) rfl (fun c3 => ?_) (fun c3 => ?_)
        · skip
          first | refine J.known (t := 99) (b := true) rfl (decide_eq_true c3) ?_ | refine J.known (t := 99) (b := true) rfl c3 ?_
          refine s_condT rfl ?_
          refine s_region ?_
          refine s_q (y_move rfl) rfl ?_
          refine s_q (y_move rfl) rfl ?_
          refine s_q (y_move rfl) rfl ?_
          refine s_q (by (first | exact y_ixE hl0.blk rfl rfl rfl rfl rfl rfl (by omega) (by omega) | exact y_ixI rfl rfl rfl rfl rfl hv rfl (by omega) (by omega) | exact y_ixI rfl rfl rfl rfl rfl kc rfl (by omega) (by omega) | exact y_ixI rfl rfl rfl rfl rfl ke rfl (by omega) (by omega) | exact y_ixI rfl rfl rfl rfl rfl (by assumption) rfl (by omega) (by omega))) rfl ?_
          refine s_q (by (first | exact y_fieldAddrB rfl rfl rfl rfl rfl rfl | exact y_fieldAddr rfl rfl rfl rfl rfl rfl)) rfl ?_
          refine s_q (by (first | exact y_ldF (off := 0) (v := .slice b.A b.vars.length b.c) hl0.blk rfl rfl rfl (by omega) (by rw [hb]; rfl) | exact y_ldF (off := 1) (v := .slice b.B b.cols.length b.d) hl0.blk rfl rfl rfl (by omega) (by rw [hb]; rfl) | exact y_ldF (off := 2) (v := .slice b.C b.edge.length b.e) hl0.blk rfl rfl rfl (by omega) (by rw [hb]; rfl) | exact y_ldK rfl rfl rfl rfl hv (by omega) | exact y_ldI rfl rfl rfl rfl kc (by omega) (by omega) | exact y_ldI rfl rfl rfl rfl ke (by omega) (by omega) | exact y_ld rfl rfl rfl (by rfl) | exact y_ldN rfl rfl rfl (by rfl) | exact y_ldK rfl rfl rfl rfl (by assumption) (by omega) | exact y_ldI rfl rfl rfl rfl (by assumption) (by omega) (by omega))) rfl ?_
          refine s_q (y_move rfl) rfl ?_
          refine s_q (by (first | exact y_ixE hl0.blk rfl rfl rfl rfl rfl rfl (by omega) (by omega) | exact y_ixI rfl rfl rfl rfl rfl hv rfl (by omega) (by omega) | exact y_ixI rfl rfl rfl rfl rfl kc rfl (by omega) (by omega) | exact y_ixI rfl rfl rfl rfl rfl ke rfl (by omega) (by omega) | exact y_ixI rfl rfl rfl rfl rfl (by assumption) rfl (by omega) (by omega))) rfl ?_
          refine s_q (by (first | exact y_ldF (off := 0) (v := .slice b.A b.vars.length b.c) hl0.blk rfl rfl rfl (by omega) (by rw [hb]; rfl) | exact y_ldF (off := 1) (v := .slice b.B b.cols.length b.d) hl0.blk rfl rfl rfl (by omega) (by rw [hb]; rfl) | exact y_ldF (off := 2) (v := .slice b.C b.edge.length b.e) hl0.blk rfl rfl rfl (by omega) (by rw [hb]; rfl) | exact y_ldK rfl rfl rfl rfl hv (by omega) | exact y_ldI rfl rfl rfl rfl kc (by omega) (by omega) | exact y_ldI rfl rfl rfl rfl ke (by omega) (by omega) | exact y_ld rfl rfl rfl (by rfl) | exact y_ldN rfl rfl rfl (by rfl) | exact y_ldK rfl rfl rfl rfl (by assumption) (by omega) | exact y_ldI rfl rfl rfl rfl (by assumption) (by omega) (by omega))) rfl ?_
          refine s_q (by (first | exact y_sub rfl rfl (by omega) | exact y_sub rfl rfl (by omega))) rfl ?_
          refine s_q (y_assign rfl) rfl ?_
          refine s_done ?_
          refine s_endb ?_
          refine s_region ?_
          refine s_q (y_move rfl) rfl ?_
          refine s_q (by (first | exact y_add rfl rfl (by omega) | exact y_add rfl rfl (by omega))) rfl ?_
          refine s_q (y_assign rfl) rfl ?_
          refine s_done ?_
          refine s_inv (j + 1, z - b.edge.getD x.toNat 0) ⟨(by (try dsimp only); omega), (by (try dsimp only); grind), (by (try dsimp only); omega), (by (try dsimp only); omega)⟩ (by (try dsimp only); omega) ⟨rfl, rfl, rfl, rfl, rfl, rfl, rfl, trivial⟩ tk
        first | refine J.known (t := 99) (b := false) rfl (decide_eq_false c3) ?_ | refine J.known (t := 99) (b := false) rfl c3 ?_
        refine s_condF rfl ?_
        refine s_skip ?_
        refine s_endb ?_
        refine s_region ?_
        refine s_q (y_move rfl) rfl ?_
        refine s_q (by (first | exact y_add rfl rfl (by omega) | exact y_add rfl rfl (by omega))) rfl ?_
        refine s_q (y_assign rfl) rfl ?_
        refine s_done ?_
        refine s_inv (j + 1, z) ⟨(by (try dsimp only); omega), (by (try dsimp only); grind), (by (try dsimp only); omega), (by (try dsimp only); omega)⟩ (by (try dsimp only); omega) ⟨rfl, rfl, rfl, rfl, rfl, rfl, rfl, trivial⟩ tk
      first | refine J.known (t := 89) (b := false) rfl (decide_eq_false c2) ?_ | refine J.known (t := 89) (b := false) rfl c2 ?_
      refine s_unguard2 (b := false) rfl rfl rfl rfl rfl ?_
      refine s_unguard2 (b := false) rfl rfl rfl rfl rfl ?_
      refine s_unguard2 (b := false) rfl rfl rfl rfl rfl ?_
      refine s_unguard2 (b := false) rfl rfl rfl rfl rfl ?_
      refine s_unguard2 (b := false) rfl rfl rfl rfl rfl ?_
      refine s_unguard2 (b := false) rfl rfl rfl rfl rfl ?_
      refine s_unguard2 (b := false) rfl rfl rfl rfl rfl ?_
      refine s_unguard2 (b := false) rfl rfl rfl rfl rfl ?_
      refine s_unguard2 (b := false) rfl rfl rfl rfl rfl ?_
      refine s_q (y_pickF rfl rfl) rfl ?_
      refine s_done ?_
      refine s_condF rfl ?_
      refine s_skip ?_
      refine s_endb ?_
      refine s_region ?_
      refine s_q (y_move rfl) rfl ?_
      refine s_q (by (first | exact y_add rfl rfl (by omega) | exact y_add rfl rfl (by omega))) rfl ?_
      refine s_q (y_assign rfl) rfl ?_
      refine s_done ?_
      refine s_inv (j + 1, z) ⟨(by (try dsimp only); omega), (by (try dsimp only); grind), (by (try dsimp only); omega), (by (try dsimp only); omega)⟩ (by (try dsimp only); omega) ⟨rfl, rfl, rfl, rfl, rfl, rfl, rfl, trivial⟩ tk
    have hjl : j = l.length := by omega
    subst hjl
    simp only [List.drop_length, dls] at hs
    have hval : max z 0 = max (weight.getD i 0 + dls l (vars.getD i 0)) 0 := by congr 1; omega
    refine s_exit rfl ?_
    refine s_region ?_
    refine s_q (y_move rfl) rfl ?_
    refine s_q (y_move rfl) rfl ?_
    refine s_q (y_max rfl rfl) rfl ?_
    refine s_bslice rfl rfl rfl rfl rfl rfl rfl rfl (fun bn => ?_)
    rw [hval]
    refine s_append rfl rfl rfl rfl rfl rfl rfl rfl rfl (by omega) rfl (fun G' g' => ?_)
    change J _ _ _ (Sl 3 1 G' (i + 1) g' (ints ((worthL vars weight l).take i) ++ ints [max (weight.getD i 0 + dls l (vars.getD i 0)) 0]) :: _) _
    rw [show ints ((worthL vars weight l).take i) ++ ints [max (weight.getD i 0 + dls l (vars.getD i 0)) 0] = ints ((worthL vars weight l).take (i + 1)) by rw [worthL_snoc _ _ _ _ hil]; simp [ints]]
    refine s_q (y_assign rfl) rfl ?_
    refine s_done ?_
    refine s_endb ?_
    refine s_region ?_
    refine s_q (y_move rfl) rfl ?_
    refine s_q (y_add rfl rfl (by omega)) rfl ?_
    refine s_q (y_assign rfl) rfl ?_
    refine s_done ?_
    refine s_inv (i + 1, G', g') (by (try dsimp only); omega) (by (try dsimp only); omega) ⟨rfl, rfl, rfl, rfl, rfl, trivial⟩ tk
  · have hil : i = vars.length := by omega
    subst hil
    rw [List.take_of_length_le (by omega)]
    refine s_exit rfl ?_
    refine s_seq ?_
    refine s_region ?_
    refine s_q (y_move rfl) rfl ?_
    refine s_q (y_assign rfl) rfl ?_
    refine s_q (y_assign rfl) rfl ?_
    refine s_done ?_
    exact s_return (R := WorthPost vars weight l) ⟨G, g, by rw [e1, e2, e3], by rw [e1, e3]⟩ (res_tmp2 Tryz.results11 rfl rfl)
end Go.Proofs.YtdbnlgknalencaaGreat
