/- Layer 23 (brief), the document's: Apart, Used, Kept. -/
import Derived.Test.YtdbnlgknalencaaGreatBrgS
import Derived.Test.YtdbnlgknalencaaGreatEEb
set_option linter.unusedVariables false
set_option linter.unusedSimpArgs false
namespace Go.Proofs.YtdbnlgknalencaaGreat
open Go Go.E
set_option maxRecDepth 4000
set_option maxHeartbeats 1000000
def keepP (l : List BrD) (v : Int) : Bool := l.any (fun b => decide (v ∈ b.vars)) && !isSp l v
def kp (l : List BrD) (v : Nat) : List Int := ((List.range v).map fun n : Nat => (n : Int) + 1).filter (keepP l)
theorem kp_snoc (l : List BrD) (v : Nat) : kp l (v + 1) = if keepP l ((v : Int) + 1) = true then kp l v ++ [(v : Int) + 1] else kp l v := by
  simp only [kp, List.range_succ, List.map_append, List.map_cons, List.map_nil, List.filter_append, List.filter_cons, List.filter_nil]
  split <;> simp
theorem kp_len (l : List BrD) (v : Nat) : (kp l v).length ≤ v := by
  have := List.length_filter_le (keepP l) ((List.range v).map fun n : Nat => (n : Int) + 1)
  simpa [kp] using this
theorem rKept_spec (w : World) (N : Nat → Prop) (T : Option Addr) (t n : Nat) (l : List BrD) (hn : n = l.length) (ho : Owns w [] N) (hl0 : KBr w N T l) (hok : ∀ b ∈ l, b.ok) (h3 : l.length < 100000000000000) : Ret Tryz.prog 18 [.slice T n t] w N (KeptPost l) := by
  subst hn
  refine ret_of_J cx Tryz.func18 rfl (Nat.le_of_ble_eq_true rfl) ho ?_
  refine s_seq ?_
  refine s_region ?_
  refine s_q (y_assign rfl) rfl ?_
  refine s_done ?_
  refine s_seq ?_
  refine s_region ?_
  refine s_q (y_assign rfl) rfl ?_
  refine s_done ?_
  refine s_seq ?_
  refine s_seq ?_
  refine s_region ?_
  refine s_q (y_assign rfl) rfl ?_
  refine s_done ?_
  refine s_block ?_
  refine s_loopV (σ := Nat) (fun s => [(4, .int .i64 s)]) (fun s => []) (fun s => (s ≤ l.length) ∧ ((l.drop s).all rightB = l.all rightB)) (fun s => l.length - s) (0) [(0, _), (3, _)] ⟨rfl, rfl, trivial⟩ ⟨rfl, trivial⟩ tk ⟨Nat.zero_le _, rfl⟩ ?_
  rintro k ⟨hk, hf⟩
  try dsimp only [List.cons_append, List.nil_append, List.append_nil] at hk hf ⊢
  refine s_seq ?_
  refine s_seq ?_
  refine s_region ?_
  refine s_q (y_move rfl) rfl ?_
  refine s_q (y_move rfl) rfl ?_
  refine s_q (y_lenS rfl rfl rfl) rfl ?_
  refine s_q (y_lss rfl rfl) rfl ?_
  refine s_done ?_
  refine s_cond rfl (fun h => ?_) (fun h => ?_)
  · have hkl : k < l.length := by omega
    have hm := getD_mem BrD.no hkl
    rw [drop_D .no l k hkl, List.all_cons] at hf
    refine s_skip ?_
    refine s_seq ?_
    refine s_block ?_
    refine s_seq ?_
    refine s_region ?_
    refine s_q (y_move rfl) rfl ?_
    refine s_q (y_move rfl) rfl ?_
    refine s_q (by (first | exact y_ixE hl0.blk rfl rfl rfl rfl rfl rfl (by omega) (by omega) | exact y_ixI rfl rfl rfl rfl rfl (by assumption) rfl (by omega) (by omega))) rfl ?_
    refine s_q (by (first | exact y_ldE hl0.blk rfl rfl rfl (by omega) rfl | exact y_ld rfl rfl rfl (by rfl) | exact y_ldN rfl rfl rfl (by rfl) | exact y_ldK rfl rfl rfl rfl (by assumption) (by omega) | exact y_ldI rfl rfl rfl rfl (by assumption) (by omega) (by omega))) rfl ?_
    refine s_call (pre := []) (rem := _) rfl rfl tk (fun w N ho hl => rRight_spec w N _ ho ((hl0.row _ hm).of hl) (hok _ hm)) rfl ?_
    rintro e L' ⟨rfl, rfl⟩
    try simp only [List.nil_append, List.cons_append, List.append_nil]
    refine s_q (by (first | exact y_notT rfl | exact y_notF rfl | exact y_notp rfl | exact y_notb rfl)) rfl ?_
    refine s_done ?_
    first | refine J.split (t := 20) rfl (fun c1 => ?_) (fun c1 => ?_) | refine J.splitb (t := 20) rfl (fun c1 => ?_) (fun c1 => ?_)
    · skip
      first | refine J.known (t := 21) (b := false) rfl (decide_eq_false (not_not_intro c1)) ?_ | refine J.known (t := 21) (b := false) rfl (congrArg not c1) ?_
      refine s_condF rfl ?_
      refine s_skip ?_
      refine s_endb ?_
      refine s_region ?_
      refine s_q (y_move rfl) rfl ?_
      refine s_q (y_add rfl rfl (by omega)) rfl ?_
      refine s_q (y_assign rfl) rfl ?_
      refine s_done ?_
      refine s_inv (k + 1) ⟨(by (try dsimp only); omega), (by (try dsimp only); rw [← hf]; simp_all)⟩ (by (try dsimp only); omega) ⟨rfl, rfl, rfl, trivial⟩ tk
    first | refine J.known (t := 21) (b := true) rfl (decide_eq_true c1) ?_ | refine J.known (t := 21) (b := true) rfl (congrArg not c1) ?_
    refine s_condT rfl ?_
    refine s_seq ?_
    refine s_region ?_
    refine s_q (y_assign rfl) rfl ?_
    refine s_done ?_
    have e0 : keptL l = [] := by rw [keptL, ← hf]; simp_all
    refine J.emp (B := Sl 3 1 none 0 0 (ints [])) (Sl.ofNil _ _) ?_
    exact s_return (R := KeptPost l) ⟨none, 0, by rw [e0, List.length_nil], by rw [e0, List.length_nil]⟩ (res_tmp Tryz.results18 rfl)
  have hkl : k = l.length := by omega
  subst hkl
  rw [List.drop_length, List.all_nil] at hf
  have hall := List.all_eq_true.1 hf.symm
  have e0 : keptL l = kp l 200 := by rw [keptL, if_pos hf.symm]; rfl
  refine s_exit rfl ?_
  refine s_seq ?_
  refine s_seq ?_
  refine s_region ?_
  refine s_q (y_assign rfl) rfl ?_
  refine s_done ?_
  refine s_block ?_
  refine J.emp (B := Sl 3 1 none 0 0 (ints [])) (Sl.ofNil _ _) ?_
  refine s_loopV (σ := Nat × Nat × List Int × Option Addr × Nat) (fun s => [(5, .int .i64 (s.1 + 1 : Int)), (3, .slice s.2.2.2.1 s.2.1 s.2.2.2.2)]) (fun s => [Sl 3 1 s.2.2.2.1 s.2.1 s.2.2.2.2 (ints s.2.2.1)]) (fun s => (s.1 ≤ 200) ∧ (s.2.2.1 = kp l s.1) ∧ (s.2.1 = s.2.2.1.length) ∧ (s.2.1 ≤ s.1)) (fun s => 200 - s.1) (0, 0, [], none, 0) [(0, _)] ⟨rfl, trivial⟩ ⟨rfl, rfl, trivial⟩ tk ⟨Nat.zero_le _, rfl, rfl, Nat.le_refl _⟩ ?_
  rintro ⟨v, n, xs, G, g⟩ ⟨hv, hx, hn, hn2⟩
  try dsimp only [List.cons_append, List.nil_append, List.append_nil] at hv hx hn hn2 ⊢
  refine s_seq ?_
  refine s_seq ?_
  refine s_region ?_
  refine s_q (y_move rfl) rfl ?_
  refine s_q (y_leq rfl rfl) rfl ?_
  refine s_done ?_
  refine s_cond rfl (fun h => ?_) (fun h => ?_)
  · have hvl : v < 200 := by omega
    refine s_skip ?_
    refine s_seq ?_
    refine s_block ?_
    refine s_seq ?_
    refine s_region ?_
    refine s_q (y_assign rfl) rfl ?_
    refine s_q (y_assign rfl) rfl ?_
    refine s_done ?_
    refine s_seq ?_
    refine s_seq ?_
    refine s_region ?_
    refine s_q (y_assign rfl) rfl ?_
    refine s_done ?_
    refine s_block ?_
    refine s_loopV (σ := Nat × Bool × Bool) (fun s => [(8, .int .i64 s.1), (6, .bool s.2.1), (7, .bool s.2.2)]) (fun s => []) (fun s => (s.1 ≤ l.length) ∧ ((s.2.1 || (l.drop s.1).any (fun b => decide ((v : Int) + 1 ∈ b.vars))) = l.any (fun b => decide ((v : Int) + 1 ∈ b.vars))) ∧ ((s.2.2 || isSp (l.drop s.1) (v + 1)) = isSp l (v + 1))) (fun s => l.length - s.1) (0, false, false) [(0, _), (3, _), (5, _)] ⟨rfl, rfl, rfl, trivial⟩ ⟨rfl, rfl, rfl, trivial⟩ tk ⟨Nat.zero_le _, rfl, rfl⟩ ?_
    rintro ⟨j, p, q⟩ ⟨hj, hp, hq⟩
    try dsimp only [List.cons_append, List.nil_append, List.append_nil] at hj hp hq ⊢
    refine s_seq ?_
    refine s_seq ?_
    refine s_region ?_
    refine s_q (y_move rfl) rfl ?_
    refine s_q (y_move rfl) rfl ?_
    refine s_q (y_lenS rfl rfl rfl) rfl ?_
    refine s_q (y_lss rfl rfl) rfl ?_
    refine s_done ?_
    refine s_cond rfl (fun h2 => ?_) (fun h2 => ?_)
    · have hjl : j < l.length := by omega
      have hm := getD_mem BrD.no hjl
      simp only [isSp] at hq
      rw [drop_D .no l j hjl, List.any_cons] at hp hq
      obtain ⟨b, hb⟩ : ∃ b, l.getD j .no = b := ⟨_, rfl⟩
      rw [hb] at hm hp hq
      have hre := RE.of (hall _ hm)
      have hrow := hl0.row _ hm
      have hbk := hok _ hm
      have k1 := hbk.v
      have k2 := hbk.c
      have hlc := hre.lc
      have kc := hrow.c
      refine s_skip ?_
      refine s_seq ?_
      refine s_block ?_
      refine s_seq ?_
      refine s_region ?_
      refine s_q (y_move rfl) rfl ?_
      refine s_q (y_move rfl) rfl ?_
      refine s_q (by (first | exact y_ixE hl0.blk rfl rfl rfl rfl rfl rfl (by omega) (by omega) | exact y_ixI rfl rfl rfl rfl rfl kc rfl (by omega) (by omega) | exact y_ixI rfl rfl rfl rfl rfl (by assumption) rfl (by omega) (by omega))) rfl ?_
      refine s_q (by (first | exact y_fieldAddrB rfl rfl rfl rfl rfl rfl | exact y_fieldAddr rfl rfl rfl rfl rfl rfl)) rfl ?_
      refine s_q (by (first | exact y_ldF (off := 0) (v := .slice b.A b.vars.length b.c) hl0.blk rfl rfl rfl (by omega) (by rw [hb]; rfl) | exact y_ldF (off := 1) (v := .slice b.B b.cols.length b.d) hl0.blk rfl rfl rfl (by omega) (by rw [hb]; rfl) | exact y_ldI rfl rfl rfl rfl kc (by omega) (by omega) | exact y_ld rfl rfl rfl (by rfl) | exact y_ldN rfl rfl rfl (by rfl) | exact y_ldK rfl rfl rfl rfl (by assumption) (by omega) | exact y_ldI rfl rfl rfl rfl (by assumption) (by omega) (by omega))) rfl ?_
      refine s_q (y_move rfl) rfl ?_
      refine s_call (pre := []) (rem := _) rfl rfl tk (fun w N ho hl => rAt_spec w N b.A b.c _ b.vars ((v : Int) + 1) rfl ho (hrow.v.of hl) k1) rfl ?_
      rintro e L' ⟨x, hx, rfl, rfl⟩
      try simp only [List.nil_append, List.cons_append, List.append_nil]
      have hlt := at_lt hx
      have hd := at_sp hre hx
      have hmm := at_mem hx
      refine s_q (y_assign rfl) rfl ?_
      refine s_done ?_
      refine s_seq ?_
      refine s_region ?_
      refine s_q (y_move rfl) rfl ?_
      refine s_q (y_move rfl) rfl ?_
      first | refine J.split (t := 6) rfl (fun c1 => ?_) (fun c1 => ?_) | refine J.splitb (t := 6) rfl (fun c1 => ?_) (fun c1 => ?_)
      · skip
        first | refine J.known (t := 40) (b := true) rfl (decide_eq_true c1) ?_ | refine J.known (t := 40) (b := true) rfl c1 ?_
        refine s_unguard2 (b := true) rfl rfl rfl rfl rfl ?_
        refine s_unguard2 (b := true) rfl rfl rfl rfl rfl ?_
        refine s_q (y_pickT rfl rfl) rfl ?_
        refine s_q (y_assign rfl) rfl ?_
        refine s_done ?_
        refine s_region ?_
        refine s_q (y_move rfl) rfl ?_
        refine s_q (y_move rfl) rfl ?_
        first | refine J.split (t := 7) rfl (fun c2 => ?_) (fun c2 => ?_) | refine J.splitb (t := 7) rfl (fun c2 => ?_) (fun c2 => ?_)
        · skip
          first | refine J.known (t := 45) (b := true) rfl (decide_eq_true c2) ?_ | refine J.known (t := 45) (b := true) rfl c2 ?_
          refine s_unguard2 (b := true) rfl rfl rfl rfl rfl ?_
          refine s_unguard2 (b := true) rfl rfl rfl rfl rfl ?_
          refine s_unguard2 (b := true) rfl rfl rfl rfl rfl ?_
          refine s_unguardU rfl rfl rfl ?_
          refine s_unguardU rfl rfl rfl ?_
          refine s_unguardU rfl rfl rfl ?_
          refine s_unguardU rfl rfl rfl ?_
          refine s_unguardU rfl rfl rfl ?_
          refine s_unguardU rfl rfl rfl ?_
          refine s_unguardU rfl rfl rfl ?_
          refine s_unguardU rfl rfl rfl ?_
          refine s_unguardU rfl rfl rfl ?_
          refine s_unguard2 (b := true) rfl rfl rfl rfl rfl ?_
          refine s_q (y_pickT rfl rfl) rfl ?_
          refine s_q (y_assign rfl) rfl ?_
          refine s_done ?_
          refine s_endb ?_
          refine s_region ?_
          refine s_q (y_move rfl) rfl ?_
          refine s_q (y_add rfl rfl (by omega)) rfl ?_
          refine s_q (y_assign rfl) rfl ?_
          refine s_done ?_
          refine s_inv (j + 1, true, true) ⟨(by (try dsimp only); omega), (by (try dsimp only); rw [← hp]; grind), (by (try dsimp only); rw [isSp, isSp, ← hq, hd]; grind)⟩ (by (try dsimp only); omega) ⟨rfl, rfl, rfl, rfl, rfl, rfl, trivial⟩ tk
        first | refine J.known (t := 45) (b := false) rfl (decide_eq_false c2) ?_ | refine J.known (t := 45) (b := false) rfl c2 ?_
        refine s_guard rfl rfl ?_
        refine s_q (y_move rfl) rfl ?_
        refine s_guard rfl rfl ?_
        refine s_q (y_geq rfl rfl) rfl ?_
        refine s_guard rfl rfl ?_
        refine s_q (y_move rfl) rfl ?_
        first | refine J.split (t := 47) rfl (fun c3 => ?_) (fun c3 => ?_) | refine J.splitb (t := 47) rfl (fun c3 => ?_) (fun c3 => ?_)
        · skip
          first | refine J.known (t := 48) (b := true) rfl (decide_eq_true c3) ?_ | refine J.known (t := 48) (b := true) rfl c3 ?_
          refine s_guard rfl rfl ?_
          refine s_q (y_move rfl) rfl ?_
          refine s_guard rfl rfl ?_
          refine s_q (y_move rfl) rfl ?_
          refine s_guard rfl rfl ?_
          refine s_q (by (first | exact y_ixE hl0.blk rfl rfl rfl rfl rfl rfl (by omega) (by omega) | exact y_ixI rfl rfl rfl rfl rfl kc rfl (by omega) (by omega) | exact y_ixI rfl rfl rfl rfl rfl (by assumption) rfl (by omega) (by omega))) rfl ?_
          refine s_guard rfl rfl ?_
          refine s_q (by (first | exact y_fieldAddrB rfl rfl rfl rfl rfl rfl | exact y_fieldAddr rfl rfl rfl rfl rfl rfl)) rfl ?_
          refine s_guard rfl rfl ?_
          refine s_q (by (first | exact y_ldF (off := 0) (v := .slice b.A b.vars.length b.c) hl0.blk rfl rfl rfl (by omega) (by rw [hb]; rfl) | exact y_ldF (off := 1) (v := .slice b.B b.cols.length b.d) hl0.blk rfl rfl rfl (by omega) (by rw [hb]; rfl) | exact y_ldI rfl rfl rfl rfl kc (by omega) (by omega) | exact y_ld rfl rfl rfl (by rfl) | exact y_ldN rfl rfl rfl (by rfl) | exact y_ldK rfl rfl rfl rfl (by assumption) (by omega) | exact y_ldI rfl rfl rfl rfl (by assumption) (by omega) (by omega))) rfl ?_
          refine s_guard rfl rfl ?_
          refine s_q (y_move rfl) rfl ?_
          refine s_guard rfl rfl ?_
          refine s_q (by (first | exact y_ixE hl0.blk rfl rfl rfl rfl rfl rfl (by omega) (by omega) | exact y_ixI rfl rfl rfl rfl rfl kc rfl (by omega) (by omega) | exact y_ixI rfl rfl rfl rfl rfl (by assumption) rfl (by omega) (by omega))) rfl ?_
          refine s_guard rfl rfl ?_
          refine s_q (by (first | exact y_ldF (off := 0) (v := .slice b.A b.vars.length b.c) hl0.blk rfl rfl rfl (by omega) (by rw [hb]; rfl) | exact y_ldF (off := 1) (v := .slice b.B b.cols.length b.d) hl0.blk rfl rfl rfl (by omega) (by rw [hb]; rfl) | exact y_ldI rfl rfl rfl rfl kc (by omega) (by omega) | exact y_ld rfl rfl rfl (by rfl) | exact y_ldN rfl rfl rfl (by rfl) | exact y_ldK rfl rfl rfl rfl (by assumption) (by omega) | exact y_ldI rfl rfl rfl rfl (by assumption) (by omega) (by omega))) rfl ?_
          refine s_guard rfl rfl ?_
          refine s_q (y_lss rfl rfl) rfl ?_
          refine s_guard rfl rfl ?_
          refine s_q (y_pickT rfl rfl) rfl ?_
          refine s_q (y_pickF rfl rfl) rfl ?_
          refine s_q (y_assign rfl) rfl ?_
          refine s_done ?_
          refine s_endb ?_
          refine s_region ?_
          refine s_q (y_move rfl) rfl ?_
          refine s_q (y_add rfl rfl (by omega)) rfl ?_
          refine s_q (y_assign rfl) rfl ?_
          refine s_done ?_
          first | refine J.split (t := 57) rfl (fun c4 => ?_) (fun c4 => ?_) | refine J.splitb (t := 57) rfl (fun c4 => ?_) (fun c4 => ?_)
          · skip
            first | refine J.known (t := 7) (b := true) rfl (decide_eq_true c4) ?_ | refine J.known (t := 7) (b := true) rfl c4 ?_
            refine s_inv (j + 1, true, true) ⟨(by (try dsimp only); omega), (by (try dsimp only); rw [← hp]; grind), (by (try dsimp only); rw [isSp, isSp, ← hq, hd]; grind)⟩ (by (try dsimp only); omega) ⟨rfl, rfl, rfl, rfl, rfl, rfl, trivial⟩ tk
          first | refine J.known (t := 7) (b := false) rfl (decide_eq_false c4) ?_ | refine J.known (t := 7) (b := false) rfl c4 ?_
          refine s_inv (j + 1, true, false) ⟨(by (try dsimp only); omega), (by (try dsimp only); rw [← hp]; grind), (by (try dsimp only); rw [isSp, isSp, ← hq, hd]; grind)⟩ (by (try dsimp only); omega) ⟨rfl, rfl, rfl, rfl, rfl, rfl, trivial⟩ tk
        first | refine J.known (t := 48) (b := false) rfl (decide_eq_false c3) ?_ | refine J.known (t := 48) (b := false) rfl c3 ?_
        refine s_unguard2 (b := false) rfl rfl rfl rfl rfl ?_
        refine s_unguard2 (b := false) rfl rfl rfl rfl rfl ?_
        refine s_unguard2 (b := false) rfl rfl rfl rfl rfl ?_
        refine s_unguard2 (b := false) rfl rfl rfl rfl rfl ?_
        refine s_unguard2 (b := false) rfl rfl rfl rfl rfl ?_
        refine s_unguard2 (b := false) rfl rfl rfl rfl rfl ?_
        refine s_unguard2 (b := false) rfl rfl rfl rfl rfl ?_
        refine s_unguard2 (b := false) rfl rfl rfl rfl rfl ?_
        refine s_unguard2 (b := false) rfl rfl rfl rfl rfl ?_
        refine s_guard rfl rfl ?_
        refine s_q (y_pickF rfl rfl) rfl ?_
        refine s_q (y_pickF rfl rfl) rfl ?_
        refine s_q (y_assign rfl) rfl ?_
        refine s_done ?_
        refine s_endb ?_
        refine s_region ?_
        refine s_q (y_move rfl) rfl ?_
        refine s_q (y_add rfl rfl (by omega)) rfl ?_
        refine s_q (y_assign rfl) rfl ?_
        refine s_done ?_
        refine s_inv (j + 1, true, false) ⟨(by (try dsimp only); omega), (by (try dsimp only); rw [← hp]; grind), (by (try dsimp only); rw [isSp, isSp, ← hq, hd]; grind)⟩ (by (try dsimp only); omega) ⟨rfl, rfl, rfl, rfl, rfl, rfl, trivial⟩ tk
      first | refine J.known (t := 40) (b := false) rfl (decide_eq_false c1) ?_ | refine J.known (t := 40) (b := false) rfl c1 ?_
      refine s_guard rfl rfl ?_
      refine s_q (y_move rfl) rfl ?_
      refine s_guard rfl rfl ?_
      refine s_q (y_geq rfl rfl) rfl ?_
      refine s_q (y_pickF rfl rfl) rfl ?_
      refine s_q (y_assign rfl) rfl ?_
      refine s_done ?_
      refine s_region ?_
      refine s_q (y_move rfl) rfl ?_
      refine s_q (y_move rfl) rfl ?_
      first | refine J.split (t := 7) rfl (fun c2 => ?_) (fun c2 => ?_) | refine J.splitb (t := 7) rfl (fun c2 => ?_) (fun c2 => ?_)
      · skip
        first | refine J.known (t := 45) (b := true) rfl (decide_eq_true c2) ?_ | refine J.known (t := 45) (b := true) rfl c2 ?_
        refine s_unguard2 (b := true) rfl rfl rfl rfl rfl ?_
        refine s_unguard2 (b := true) rfl rfl rfl rfl rfl ?_
        refine s_unguard2 (b := true) rfl rfl rfl rfl rfl ?_
        refine s_unguardU rfl rfl rfl ?_
        refine s_unguardU rfl rfl rfl ?_
        refine s_unguardU rfl rfl rfl ?_
        refine s_unguardU rfl rfl rfl ?_
        refine s_unguardU rfl rfl rfl ?_
        refine s_unguardU rfl rfl rfl ?_
        refine s_unguardU rfl rfl rfl ?_
        refine s_unguardU rfl rfl rfl ?_
        refine s_unguardU rfl rfl rfl ?_
        refine s_unguard2 (b := true) rfl rfl rfl rfl rfl ?_
        refine s_q (y_pickT rfl rfl) rfl ?_
        refine s_q (y_assign rfl) rfl ?_
        refine s_done ?_
        refine s_endb ?_
        refine s_region ?_
        refine s_q (y_move rfl) rfl ?_
        refine s_q (y_add rfl rfl (by omega)) rfl ?_
        refine s_q (y_assign rfl) rfl ?_
        refine s_done ?_
        first | refine J.split (t := 42) rfl (fun c3 => ?_) (fun c3 => ?_) | refine J.splitb (t := 42) rfl (fun c3 => ?_) (fun c3 => ?_)
        · skip
          first | refine J.known (t := 6) (b := true) rfl (decide_eq_true c3) ?_ | refine J.known (t := 6) (b := true) rfl c3 ?_
          refine s_inv (j + 1, true, true) ⟨(by (try dsimp only); omega), (by (try dsimp only); rw [← hp]; grind), (by (try dsimp only); rw [isSp, isSp, ← hq, hd]; grind)⟩ (by (try dsimp only); omega) ⟨rfl, rfl, rfl, rfl, rfl, rfl, trivial⟩ tk
        first | refine J.known (t := 6) (b := false) rfl (decide_eq_false c3) ?_ | refine J.known (t := 6) (b := false) rfl c3 ?_
        refine s_inv (j + 1, false, true) ⟨(by (try dsimp only); omega), (by (try dsimp only); rw [← hp]; grind), (by (try dsimp only); rw [isSp, isSp, ← hq, hd]; grind)⟩ (by (try dsimp only); omega) ⟨rfl, rfl, rfl, rfl, rfl, rfl, trivial⟩ tk
      first | refine J.known (t := 45) (b := false) rfl (decide_eq_false c2) ?_ | refine J.known (t := 45) (b := false) rfl c2 ?_
      refine s_guard rfl rfl ?_
      refine s_q (y_move rfl) rfl ?_
      refine s_guard rfl rfl ?_
      refine s_q (y_geq rfl rfl) rfl ?_
      refine s_guard rfl rfl ?_
      refine s_q (y_move rfl) rfl ?_
      first | refine J.split (t := 47) rfl (fun c3 => ?_) (fun c3 => ?_) | refine J.splitb (t := 47) rfl (fun c3 => ?_) (fun c3 => ?_)
      · skip
        first | refine J.known (t := 48) (b := true) rfl (decide_eq_true c3) ?_ | refine J.known (t := 48) (b := true) rfl c3 ?_
        refine s_guard rfl rfl ?_
        refine s_q (y_move rfl) rfl ?_
        refine s_guard rfl rfl ?_
        refine s_q (y_move rfl) rfl ?_
        refine s_guard rfl rfl ?_
        refine s_q (by (first | exact y_ixE hl0.blk rfl rfl rfl rfl rfl rfl (by omega) (by omega) | exact y_ixI rfl rfl rfl rfl rfl kc rfl (by omega) (by omega) | exact y_ixI rfl rfl rfl rfl rfl (by assumption) rfl (by omega) (by omega))) rfl ?_
        refine s_guard rfl rfl ?_
        refine s_q (by (first | exact y_fieldAddrB rfl rfl rfl rfl rfl rfl | exact y_fieldAddr rfl rfl rfl rfl rfl rfl)) rfl ?_
        refine s_guard rfl rfl ?_
        refine s_q (by (first | exact y_ldF (off := 0) (v := .slice b.A b.vars.length b.c) hl0.blk rfl rfl rfl (by omega) (by rw [hb]; rfl) | exact y_ldF (off := 1) (v := .slice b.B b.cols.length b.d) hl0.blk rfl rfl rfl (by omega) (by rw [hb]; rfl) | exact y_ldI rfl rfl rfl rfl kc (by omega) (by omega) | exact y_ld rfl rfl rfl (by rfl) | exact y_ldN rfl rfl rfl (by rfl) | exact y_ldK rfl rfl rfl rfl (by assumption) (by omega) | exact y_ldI rfl rfl rfl rfl (by assumption) (by omega) (by omega))) rfl ?_
        refine s_guard rfl rfl ?_
        refine s_q (y_move rfl) rfl ?_
        refine s_guard rfl rfl ?_
        refine s_q (by (first | exact y_ixE hl0.blk rfl rfl rfl rfl rfl rfl (by omega) (by omega) | exact y_ixI rfl rfl rfl rfl rfl kc rfl (by omega) (by omega) | exact y_ixI rfl rfl rfl rfl rfl (by assumption) rfl (by omega) (by omega))) rfl ?_
        refine s_guard rfl rfl ?_
        refine s_q (by (first | exact y_ldF (off := 0) (v := .slice b.A b.vars.length b.c) hl0.blk rfl rfl rfl (by omega) (by rw [hb]; rfl) | exact y_ldF (off := 1) (v := .slice b.B b.cols.length b.d) hl0.blk rfl rfl rfl (by omega) (by rw [hb]; rfl) | exact y_ldI rfl rfl rfl rfl kc (by omega) (by omega) | exact y_ld rfl rfl rfl (by rfl) | exact y_ldN rfl rfl rfl (by rfl) | exact y_ldK rfl rfl rfl rfl (by assumption) (by omega) | exact y_ldI rfl rfl rfl rfl (by assumption) (by omega) (by omega))) rfl ?_
        refine s_guard rfl rfl ?_
        refine s_q (y_lss rfl rfl) rfl ?_
        refine s_guard rfl rfl ?_
        refine s_q (y_pickT rfl rfl) rfl ?_
        refine s_q (y_pickF rfl rfl) rfl ?_
        refine s_q (y_assign rfl) rfl ?_
        refine s_done ?_
        refine s_endb ?_
        refine s_region ?_
        refine s_q (y_move rfl) rfl ?_
        refine s_q (y_add rfl rfl (by omega)) rfl ?_
        refine s_q (y_assign rfl) rfl ?_
        refine s_done ?_
        first | refine J.split (t := 42) rfl (fun c4 => ?_) (fun c4 => ?_) | refine J.splitb (t := 42) rfl (fun c4 => ?_) (fun c4 => ?_)
        · skip
          first | refine J.known (t := 6) (b := true) rfl (decide_eq_true c4) ?_ | refine J.known (t := 6) (b := true) rfl c4 ?_
          first | refine J.split (t := 57) rfl (fun c5 => ?_) (fun c5 => ?_) | refine J.splitb (t := 57) rfl (fun c5 => ?_) (fun c5 => ?_)
          · skip
            first | refine J.known (t := 7) (b := true) rfl (decide_eq_true c5) ?_ | refine J.known (t := 7) (b := true) rfl c5 ?_
            refine s_inv (j + 1, true, true) ⟨(by (try dsimp only); omega), (by (try dsimp only); rw [← hp]; grind), (by (try dsimp only); rw [isSp, isSp, ← hq, hd]; grind)⟩ (by (try dsimp only); omega) ⟨rfl, rfl, rfl, rfl, rfl, rfl, trivial⟩ tk
          first | refine J.known (t := 7) (b := false) rfl (decide_eq_false c5) ?_ | refine J.known (t := 7) (b := false) rfl c5 ?_
          refine s_inv (j + 1, true, false) ⟨(by (try dsimp only); omega), (by (try dsimp only); rw [← hp]; grind), (by (try dsimp only); rw [isSp, isSp, ← hq, hd]; grind)⟩ (by (try dsimp only); omega) ⟨rfl, rfl, rfl, rfl, rfl, rfl, trivial⟩ tk
        first | refine J.known (t := 6) (b := false) rfl (decide_eq_false c4) ?_ | refine J.known (t := 6) (b := false) rfl c4 ?_
        first | refine J.split (t := 57) rfl (fun c5 => ?_) (fun c5 => ?_) | refine J.splitb (t := 57) rfl (fun c5 => ?_) (fun c5 => ?_)
        · skip
          first | refine J.known (t := 7) (b := true) rfl (decide_eq_true c5) ?_ | refine J.known (t := 7) (b := true) rfl c5 ?_
          refine s_inv (j + 1, false, true) ⟨(by (try dsimp only); omega), (by (try dsimp only); rw [← hp]; grind), (by (try dsimp only); rw [isSp, isSp, ← hq, hd]; grind)⟩ (by (try dsimp only); omega) ⟨rfl, rfl, rfl, rfl, rfl, rfl, trivial⟩ tk
        first | refine J.known (t := 7) (b := false) rfl (decide_eq_false c5) ?_ | refine J.known (t := 7) (b := false) rfl c5 ?_
        refine s_inv (j + 1, false, false) ⟨(by (try dsimp only); omega), (by (try dsimp only); rw [← hp]; grind), (by (try dsimp only); rw [isSp, isSp, ← hq, hd]; grind)⟩ (by (try dsimp only); omega) ⟨rfl, rfl, rfl, rfl, rfl, rfl, trivial⟩ tk
      first | refine J.known (t := 48) (b := false) rfl (decide_eq_false c3) ?_ | refine J.known (t := 48) (b := false) rfl c3 ?_
      refine s_unguard2 (b := false) rfl rfl rfl rfl rfl ?_
      refine s_unguard2 (b := false) rfl rfl rfl rfl rfl ?_
      refine s_unguard2 (b := false) rfl rfl rfl rfl rfl ?_
      refine s_unguard2 (b := false) rfl rfl rfl rfl rfl ?_
      refine s_unguard2 (b := false) rfl rfl rfl rfl rfl ?_
      refine s_unguard2 (b := false) rfl rfl rfl rfl rfl ?_
      refine s_unguard2 (b := false) rfl rfl rfl rfl rfl ?_
      refine s_unguard2 (b := false) rfl rfl rfl rfl rfl ?_
      refine s_unguard2 (b := false) rfl rfl rfl rfl rfl ?_
      refine s_guard rfl rfl ?_
      refine s_q (y_pickF rfl rfl) rfl ?_
      refine s_q (y_pickF rfl rfl) rfl ?_
      refine s_q (y_assign rfl) rfl ?_
      refine s_done ?_
      refine s_endb ?_
      refine s_region ?_
      refine s_q (y_move rfl) rfl ?_
      refine s_q (y_add rfl rfl (by omega)) rfl ?_
      refine s_q (y_assign rfl) rfl ?_
      refine s_done ?_
      first | refine J.split (t := 42) rfl (fun c4 => ?_) (fun c4 => ?_) | refine J.splitb (t := 42) rfl (fun c4 => ?_) (fun c4 => ?_)
      · skip
        first | refine J.known (t := 6) (b := true) rfl (decide_eq_true c4) ?_ | refine J.known (t := 6) (b := true) rfl c4 ?_
        refine s_inv (j + 1, true, false) ⟨(by (try dsimp only); omega), (by (try dsimp only); rw [← hp]; grind), (by (try dsimp only); rw [isSp, isSp, ← hq, hd]; grind)⟩ (by (try dsimp only); omega) ⟨rfl, rfl, rfl, rfl, rfl, rfl, trivial⟩ tk
      first | refine J.known (t := 6) (b := false) rfl (decide_eq_false c4) ?_ | refine J.known (t := 6) (b := false) rfl c4 ?_
      refine s_inv (j + 1, false, false) ⟨(by (try dsimp only); omega), (by (try dsimp only); rw [← hp]; grind), (by (try dsimp only); rw [isSp, isSp, ← hq, hd]; grind)⟩ (by (try dsimp only); omega) ⟨rfl, rfl, rfl, rfl, rfl, rfl, trivial⟩ tk
    have hjl : j = l.length := by omega
    subst hjl
    simp only [List.drop_length, List.any_nil, Bool.or_false, isSp] at hp hq
    have hkp : keepP l ((v : Int) + 1) = (p && !q) := by rw [keepP, isSp, hp, hq]
    have hsn := kp_snoc l v
    refine s_exit rfl ?_
    refine s_seq ?_
    refine s_region ?_
    refine s_q (y_move rfl) rfl ?_
    refine s_q (y_move rfl) rfl ?_
    first | refine J.split (t := 6) rfl (fun c1 => ?_) (fun c1 => ?_) | refine J.splitb (t := 6) rfl (fun c1 => ?_) (fun c1 => ?_)
    rotate_left
    · skip
      first | refine J.known (t := 61) (b := false) rfl (decide_eq_false c1) ?_ | refine J.known (t := 61) (b := false) rfl c1 ?_
      refine s_unguard2 (b := false) rfl rfl rfl rfl rfl ?_
      refine s_unguard2 (b := false) rfl rfl rfl rfl rfl ?_
      refine s_q (y_pickF rfl rfl) rfl ?_
      refine s_done ?_
      refine s_condF rfl ?_
      refine s_skip ?_
      refine s_endb ?_
      refine s_region ?_
      refine s_q (y_move rfl) rfl ?_
      refine s_q (y_add rfl rfl (by omega)) rfl ?_
      refine s_q (y_assign rfl) rfl ?_
      refine s_done ?_
      rw [hkp] at hsn
      rw [if_neg (by grind)] at hsn
      refine s_inv (v + 1, n, xs, G, g) ⟨(by (try dsimp only); omega), (by (try dsimp only); rw [hsn]; exact hx), hn, (by (try dsimp only); omega)⟩ (by (try dsimp only); omega) ⟨rfl, rfl, rfl, trivial⟩ tk
    first | refine J.known (t := 61) (b := true) rfl (decide_eq_true c1) ?_ | refine J.known (t := 61) (b := true) rfl c1 ?_
    refine s_guard rfl rfl ?_
    refine s_q (y_move rfl) rfl ?_
    refine s_guard rfl rfl ?_
    refine s_q (by (first | exact y_notT rfl | exact y_notF rfl | exact y_notp rfl | exact y_notb rfl)) rfl ?_
    refine s_q (y_pickT rfl rfl) rfl ?_
    refine s_done ?_
    first | refine J.split (t := 7) rfl (fun c2 => ?_) (fun c2 => ?_) | refine J.splitb (t := 7) rfl (fun c2 => ?_) (fun c2 => ?_)
    · skip
      first | refine J.known (t := 64) (b := false) rfl (decide_eq_false (not_not_intro c2)) ?_ | refine J.known (t := 64) (b := false) rfl (congrArg not c2) ?_
      refine s_condF rfl ?_
      refine s_skip ?_
      refine s_endb ?_
      refine s_region ?_
      refine s_q (y_move rfl) rfl ?_
      refine s_q (y_add rfl rfl (by omega)) rfl ?_
      refine s_q (y_assign rfl) rfl ?_
      refine s_done ?_
      rw [hkp] at hsn
      rw [if_neg (by grind)] at hsn
      refine s_inv (v + 1, n, xs, G, g) ⟨(by (try dsimp only); omega), (by (try dsimp only); rw [hsn]; exact hx), hn, (by (try dsimp only); omega)⟩ (by (try dsimp only); omega) ⟨rfl, rfl, rfl, trivial⟩ tk
    first | refine J.known (t := 64) (b := true) rfl (decide_eq_true c2) ?_ | refine J.known (t := 64) (b := true) rfl (congrArg not c2) ?_
    refine s_condT rfl ?_
    rw [if_pos (by rw [hkp]; grind)] at hsn
    refine s_region ?_
    refine s_q (y_move rfl) rfl ?_
    refine s_q (y_move rfl) rfl ?_
    refine s_bslice rfl rfl rfl rfl rfl rfl rfl rfl (fun bn => ?_)
    refine s_append rfl rfl rfl rfl rfl rfl rfl rfl rfl (by omega) rfl (fun G' g' => ?_)
    change J _ _ _ (Sl 3 1 G' (n + 1) g' (ints xs ++ ints [(v : Int) + 1]) :: _) _
    rw [show ints xs ++ ints [(v : Int) + 1] = ints (xs ++ [(v : Int) + 1]) by simp [ints]]
    refine s_q (y_assign rfl) rfl ?_
    refine s_done ?_
    refine s_endb ?_
    refine s_region ?_
    refine s_q (y_move rfl) rfl ?_
    refine s_q (y_add rfl rfl (by omega)) rfl ?_
    refine s_q (y_assign rfl) rfl ?_
    refine s_done ?_
    refine s_inv (v + 1, n + 1, xs ++ [(v : Int) + 1], G', g') ⟨(by (try dsimp only); omega), (by (try dsimp only); rw [hsn, hx]), (by simp; omega), (by (try dsimp only); omega)⟩ (by (try dsimp only); omega) ⟨rfl, rfl, rfl, trivial⟩ tk
  · have hvl : v = 200 := by omega
    subst hvl
    rw [← e0] at hx
    subst hx hn
    refine s_exit rfl ?_
    refine s_seq ?_
    refine s_region ?_
    refine s_q (y_move rfl) rfl ?_
    refine s_q (y_assign rfl) rfl ?_
    refine s_done ?_
    exact s_return (R := KeptPost l) ⟨G, g, rfl, rfl⟩ (res_tmp Tryz.results18 rfl)
def apK (b : BrD) (c : Nat) : List (List Int) := ((List.range c).map fun c : Nat => rowOf b.vars b.cols c).filter (fun r => !r.isEmpty)
theorem apK_snoc (b : BrD) (c : Nat) : apK b (c + 1) = if (rowOf b.vars b.cols c).length = 0 then apK b c else apK b c ++ [rowOf b.vars b.cols c] := by
  simp only [apK, List.range_succ, List.map_append, List.map_cons, List.map_nil, List.filter_append, List.filter_cons, List.filter_nil]
  cases h : rowOf b.vars b.cols c <;> simp
theorem rApart_spec (w : World) (N : Nat → Prop) (b : BrD) (ho : Owns w [] N) (hk : KR w N b) (hok : b.ok) : Ret Tryz.prog 25 [.agg (encBr b).toArray] w N (ApartPost b) := by
  refine ret_of_J cx Tryz.func25 rfl (Nat.le_of_ble_eq_true rfl) ho ?_
  refine s_seq ?_
  refine s_region ?_
  first | (refine s_box1 rfl rfl rfl (fun b1 => ?_)) | (refine s_boxA rfl rfl (fun b1 => ?_))
  change J _ _ _ (cb b1 46 (encBr b) :: _) _
  have k1 := hok.v
  have kv := hk.v
  have kc := hk.c
  have hp : rightB b = true → b.cols.length = b.vars.length ∧ b.vars.length ≤ 200 := fun h => ⟨(RB.of h).lc, right_vars h⟩
  have e0 : apartL b = if rightB b = true then apK b 64 else [] := rfl
  refine s_q (y_assign rfl) rfl ?_
  refine s_done ?_
  refine s_seq ?_
  refine s_region ?_
  refine s_q (y_assign rfl) rfl ?_
  refine s_done ?_
  refine s_seq ?_
  refine s_seq ?_
  refine s_region ?_
  refine s_q (y_assign rfl) rfl ?_
  refine s_done ?_
  refine s_block ?_
  refine J.emp (B := star (([] : List Row).map Row.hp)) rfl ?_
  refine J.emp (B := Sl 22 1 none 0 0 (([] : List Row).map Row.val)) (Sl.ofNil _ _) ?_
  refine s_loopV (σ := Nat × Nat × List Row × Option Addr × Nat) (fun s => [(4, .int .i64 s.1), (3, .slice s.2.2.2.1 s.2.1 s.2.2.2.2)]) (fun s => [Sl 22 1 s.2.2.2.1 s.2.1 s.2.2.2.2 (s.2.2.1.map Row.val), star (s.2.2.1.map Row.hp)]) (fun s => (s.1 ≤ 64) ∧ (s.2.2.1.map (·.xs) = if rightB b = true then apK b s.1 else []) ∧ (s.2.1 = s.2.2.1.length) ∧ (s.2.1 ≤ s.1)) (fun s => 64 - s.1) (0, 0, [], none, 0) [(1, _)] ⟨rfl, trivial⟩ ⟨rfl, rfl, trivial⟩ tk ⟨Nat.zero_le _, (by split <;> rfl), rfl, Nat.le_refl _⟩ ?_
  rintro ⟨c, n, rs, G, g⟩ ⟨hc, hx, hn, hn2⟩
  try dsimp only [List.cons_append, List.nil_append, List.append_nil] at hc hx hn hn2 ⊢
  refine s_seq ?_
  refine s_seq ?_
  refine s_region ?_
  refine s_q (y_move rfl) rfl ?_
  refine s_q (y_lss rfl rfl) rfl ?_
  refine s_q (y_move rfl) rfl ?_
  first | refine J.split (t := 8) rfl (fun c1 => ?_) (fun c1 => ?_) | refine J.splitb (t := 8) rfl (fun c1 => ?_) (fun c1 => ?_)
  rotate_left
  · skip
    first | refine J.known (t := 9) (b := false) rfl (decide_eq_false c1) ?_ | refine J.known (t := 9) (b := false) rfl c1 ?_
    refine s_unguard2 (b := false) rfl rfl rfl rfl rfl ?_
    refine s_unguard2 (b := false) rfl rfl rfl rfl rfl ?_
    refine s_q (y_pickF rfl rfl) rfl ?_
    refine s_done ?_
    refine s_condF rfl ?_
    refine s_exit rfl ?_
    refine s_seq ?_
    refine s_region ?_
    refine s_q (y_move rfl) rfl ?_
    refine s_q (y_assign rfl) rfl ?_
    refine s_done ?_
    subst hn
    exact s_return (R := ApartPost b) ⟨G, g, rs, rfl, rfl, by rw [hx, e0]; first | (have h64 : c = 64 := (by omega); subst h64; rfl) | simp_all⟩ (res_tmp Tryz.results25 rfl)
  first | refine J.known (t := 9) (b := true) rfl (decide_eq_true c1) ?_ | refine J.known (t := 9) (b := true) rfl c1 ?_
  refine s_guard rfl rfl ?_
  refine s_q (by (first | exact y_ldN rfl rfl rfl (by rfl) | exact y_ld rfl rfl rfl (by rfl) | exact y_ldN rfl rfl rfl (by rfl) | exact y_ldK rfl rfl rfl rfl (by assumption) (by omega) | exact y_ldI rfl rfl rfl rfl (by assumption) (by omega) (by omega))) rfl ?_
  refine s_guard rfl rfl ?_
  refine s_call (pre := []) (rem := _) rfl rfl tk (fun w N ho hl => rRight_spec w N b ho (hk.of hl) hok) rfl ?_
  rintro e L' ⟨rfl, rfl⟩
  try simp only [List.nil_append, List.cons_append, List.append_nil]
  refine s_q (y_pickT rfl rfl) rfl ?_
  refine s_done ?_
  first | refine J.split (t := 11) rfl (fun c2 => ?_) (fun c2 => ?_) | refine J.splitb (t := 11) rfl (fun c2 => ?_) (fun c2 => ?_)
  rotate_left
  · skip
    first | refine J.known (t := 12) (b := false) rfl (decide_eq_false c2) ?_ | refine J.known (t := 12) (b := false) rfl c2 ?_
    refine s_condF rfl ?_
    refine s_exit rfl ?_
    refine s_seq ?_
    refine s_region ?_
    refine s_q (y_move rfl) rfl ?_
    refine s_q (y_assign rfl) rfl ?_
    refine s_done ?_
    subst hn
    exact s_return (R := ApartPost b) ⟨G, g, rs, rfl, rfl, by rw [hx, e0]; first | (have h64 : c = 64 := (by omega); subst h64; rfl) | simp_all⟩ (res_tmp Tryz.results25 rfl)
  first | refine J.known (t := 12) (b := true) rfl (decide_eq_true c2) ?_ | refine J.known (t := 12) (b := true) rfl c2 ?_
  refine s_condT rfl ?_
  refine s_skip ?_
  refine s_seq ?_
  refine s_block ?_
  refine s_seq ?_
  obtain ⟨hlc, hvl⟩ := hp c2
  rw [if_pos c2] at hx
  have hcl : c < 64 := by omega
  refine s_region ?_
  refine s_q (y_assign rfl) rfl ?_
  refine s_done ?_
  refine s_seq ?_
  refine s_seq ?_
  refine s_region ?_
  refine s_q (y_assign rfl) rfl ?_
  refine s_done ?_
  refine s_block ?_
  refine J.emp (B := Sl 3 1 none 0 0 (ints [])) (Sl.ofNil _ _) ?_
  refine s_loopV (σ := Nat × Nat × List Int × Option Addr × Nat) (fun s => [(6, .int .i64 s.1), (5, .slice s.2.2.2.1 s.2.1 s.2.2.2.2)]) (fun s => [Sl 3 1 s.2.2.2.1 s.2.1 s.2.2.2.2 (ints s.2.2.1)]) (fun s => (s.1 ≤ b.vars.length) ∧ (s.2.2.1 = rowOf (b.vars.take s.1) (b.cols.take s.1) c) ∧ (s.2.1 = s.2.2.1.length) ∧ (s.2.1 ≤ s.1)) (fun s => b.vars.length - s.1) (0, 0, [], none, 0) [(1, _), (3, _), (4, _)] ⟨rfl, rfl, rfl, trivial⟩ ⟨rfl, rfl, trivial⟩ tk ⟨Nat.zero_le _, (by simp [rowOf]), rfl, Nat.le_refl _⟩ ?_
  rintro ⟨i, m, xs, R, r⟩ ⟨hi, hxs, hm, hm2⟩
  try dsimp only [List.cons_append, List.nil_append, List.append_nil] at hi hxs hm hm2 ⊢
  refine s_seq ?_
  refine s_seq ?_
  refine s_region ?_
  refine s_q (y_move rfl) rfl ?_
  refine s_q (by (first | exact y_fieldAddrB rfl rfl rfl rfl rfl rfl | exact y_fieldAddr rfl rfl rfl rfl rfl rfl)) rfl ?_
  refine s_q (by (first | exact y_ld rfl rfl rfl (by rfl) | exact y_ldN rfl rfl rfl (by rfl) | exact y_ldK rfl rfl rfl rfl (by assumption) (by omega) | exact y_ldI rfl rfl rfl rfl (by assumption) (by omega) (by omega))) rfl ?_
  refine s_q (y_lenS rfl rfl rfl) rfl ?_
  refine s_q (y_lss rfl rfl) rfl ?_
  refine s_done ?_
  refine s_cond rfl (fun h => ?_) (fun h => ?_)
  · have hil : i < b.vars.length := by omega
    have hsn := rowOf_snoc (b.vars.getD i 0) (b.cols.getD i 0) c (b.vars.take i) (b.cols.take i) (by simp; omega)
    rw [← take_D 0 hil, ← take_D 0 (l := b.cols) (by omega), ← hxs] at hsn
    refine s_skip ?_
    refine s_seq ?_
    refine s_block ?_
    refine s_seq ?_
    refine s_region ?_
    refine s_q (by (first | exact y_fieldAddrB rfl rfl rfl rfl rfl rfl | exact y_fieldAddr rfl rfl rfl rfl rfl rfl)) rfl ?_
    refine s_q (by (first | exact y_ldK rfl rfl rfl rfl kc (by omega) | exact y_ldK rfl rfl rfl rfl kv (by omega) | exact y_ld rfl rfl rfl (by rfl) | exact y_ldN rfl rfl rfl (by rfl) | exact y_ldK rfl rfl rfl rfl (by assumption) (by omega) | exact y_ldI rfl rfl rfl rfl (by assumption) (by omega) (by omega))) rfl ?_
    refine s_q (y_move rfl) rfl ?_
    refine s_q (by (first | exact y_ixI rfl rfl rfl rfl rfl kc rfl (by omega) (by omega) | exact y_ixI rfl rfl rfl rfl rfl kv rfl (by omega) (by omega) | exact y_ixI rfl rfl rfl rfl rfl (by assumption) rfl (by omega) (by omega))) rfl ?_
    refine s_q (by (first | exact y_ldK rfl rfl rfl rfl kc (by omega) | exact y_ldK rfl rfl rfl rfl kv (by omega) | exact y_ld rfl rfl rfl (by rfl) | exact y_ldN rfl rfl rfl (by rfl) | exact y_ldK rfl rfl rfl rfl (by assumption) (by omega) | exact y_ldI rfl rfl rfl rfl (by assumption) (by omega) (by omega))) rfl ?_
    refine s_q (y_move rfl) rfl ?_
    refine s_q (by (first | exact y_eql rfl rfl | exact y_eqlB rfl rfl rfl)) rfl ?_
    refine s_done ?_
    first | refine J.split (t := 28) rfl (fun g1 => ?_) (fun g1 => ?_) | refine J.splitb (t := 28) rfl (fun g1 => ?_) (fun g1 => ?_)
    rotate_left
    · skip
      refine s_condF rfl ?_
      refine s_skip ?_
      refine s_endb ?_
      refine s_region ?_
      refine s_q (y_move rfl) rfl ?_
      refine s_q (y_add rfl rfl (by omega)) rfl ?_
      refine s_q (y_assign rfl) rfl ?_
      refine s_done ?_
      rw [if_neg g1, List.append_nil] at hsn
      refine s_inv (i + 1, m, xs, R, r) ⟨(by (try dsimp only); omega), hsn.symm, hm, (by (try dsimp only); omega)⟩ (by (try dsimp only); omega) ⟨rfl, rfl, rfl, rfl, rfl, trivial⟩ tk
    refine s_condT rfl ?_
    rw [if_pos g1] at hsn
    refine s_region ?_
    refine s_q (y_move rfl) rfl ?_
    refine s_q (by (first | exact y_fieldAddrB rfl rfl rfl rfl rfl rfl | exact y_fieldAddr rfl rfl rfl rfl rfl rfl)) rfl ?_
    refine s_q (by (first | exact y_ldK rfl rfl rfl rfl kv (by omega) | exact y_ld rfl rfl rfl (by rfl) | exact y_ldN rfl rfl rfl (by rfl) | exact y_ldK rfl rfl rfl rfl (by assumption) (by omega) | exact y_ldI rfl rfl rfl rfl (by assumption) (by omega) (by omega))) rfl ?_
    refine s_q (y_move rfl) rfl ?_
    refine s_q (by (first | exact y_ixI rfl rfl rfl rfl rfl kv rfl (by omega) (by omega) | exact y_ixI rfl rfl rfl rfl rfl (by assumption) rfl (by omega) (by omega))) rfl ?_
    refine s_q (by (first | exact y_ldK rfl rfl rfl rfl kv (by omega) | exact y_ld rfl rfl rfl (by rfl) | exact y_ldN rfl rfl rfl (by rfl) | exact y_ldK rfl rfl rfl rfl (by assumption) (by omega) | exact y_ldI rfl rfl rfl rfl (by assumption) (by omega) (by omega))) rfl ?_
    refine s_bslice rfl rfl rfl rfl rfl rfl rfl rfl (fun bn => ?_)
    refine s_append rfl rfl rfl rfl rfl rfl rfl rfl rfl (by omega) rfl (fun R' r' => ?_)
    change J _ _ _ (Sl 3 1 R' (m + 1) r' (ints xs ++ ints [b.vars.getD i 0]) :: _) _
    rw [show ints xs ++ ints [b.vars.getD i 0] = ints (xs ++ [b.vars.getD i 0]) by simp [ints]]
    refine s_q (y_assign rfl) rfl ?_
    refine s_done ?_
    refine s_endb ?_
    refine s_region ?_
    refine s_q (y_move rfl) rfl ?_
    refine s_q (y_add rfl rfl (by omega)) rfl ?_
    refine s_q (y_assign rfl) rfl ?_
    refine s_done ?_
    refine s_inv (i + 1, m + 1, xs ++ [b.vars.getD i 0], R', r') ⟨(by (try dsimp only); omega), hsn.symm, (by simp; omega), (by (try dsimp only); omega)⟩ (by (try dsimp only); omega) ⟨rfl, rfl, rfl, rfl, rfl, trivial⟩ tk
  have hil : i = b.vars.length := by omega
  subst hil
  rw [List.take_length, List.take_of_length_le (by omega)] at hxs
  have hsn := apK_snoc b c
  rw [← hxs] at hsn
  refine s_exit rfl ?_
  refine s_seq ?_
  refine s_region ?_
  refine s_q (y_move rfl) rfl ?_
  refine s_q (y_lenS rfl rfl rfl) rfl ?_
  refine s_q (y_gtr rfl rfl) rfl ?_
  refine s_done ?_
  first | refine J.split (t := 39) rfl (fun g1 => ?_) (fun g1 => ?_) | refine J.splitb (t := 39) rfl (fun g1 => ?_) (fun g1 => ?_)
  rotate_left
  · skip
    refine s_condF rfl ?_
    refine s_skip ?_
    refine s_endb ?_
    refine s_region ?_
    refine s_q (y_move rfl) rfl ?_
    refine s_q (y_add rfl rfl (by omega)) rfl ?_
    refine s_q (y_assign rfl) rfl ?_
    refine s_done ?_
    rw [if_pos (by omega)] at hsn
    refine s_inv (c + 1, n, rs, G, g) ⟨(by (try dsimp only); omega), (by (try dsimp only); rw [if_pos c2, hsn]; exact hx), hn, (by (try dsimp only); omega)⟩ (by (try dsimp only); omega) ⟨rfl, rfl, rfl, trivial⟩ tk
  refine s_condT rfl ?_
  rw [if_neg (by omega)] at hsn
  refine s_region ?_
  refine s_q (y_move rfl) rfl ?_
  refine s_q (y_move rfl) rfl ?_
  refine s_bslice rfl rfl rfl rfl rfl rfl rfl rfl (fun bn => ?_)
  refine s_append rfl rfl rfl rfl rfl rfl rfl rfl rfl (by omega) rfl (fun G' g' => ?_)
  have hv : Value.slice R m r = Row.val ⟨R, r, xs⟩ := by rw [hm]; rfl
  change J _ _ _ (Sl 22 1 G' (n + 1) g' (rs.map Row.val ++ [.slice R m r]) :: _) _
  rw [show rs.map Row.val ++ [Value.slice R m r] = (rs ++ [(⟨R, r, xs⟩ : Row)]).map Row.val by rw [hv]; simp]
  have hh : Sl 3 1 R m r (ints xs) = Row.hp ⟨R, r, xs⟩ := by rw [hm]; rfl
  rw [hh]
  refine J.perm (Tk.perm (K := [Row.hp ⟨R, r, xs⟩, star (rs.map Row.hp)])) ?_
  refine J.group.1 ?_
  refine J.imp (B := star ((rs ++ [(⟨R, r, xs⟩ : Row)]).map Row.hp)) (fun h e => ?_) ?_
  · rw [List.map_append]
    refine star_perm (L := Row.hp ⟨R, r, xs⟩ :: rs.map Row.hp) (List.perm_append_singleton _ _).symm h ?_
    obtain ⟨x, y, e1, e2, d, rfl⟩ := e
    exact ⟨x, y, e1, star_one.1 e2, d, rfl⟩
  refine s_q (y_assign rfl) rfl ?_
  refine s_done ?_
  refine s_endb ?_
  refine s_region ?_
  refine s_q (y_move rfl) rfl ?_
  refine s_q (y_add rfl rfl (by omega)) rfl ?_
  refine s_q (y_assign rfl) rfl ?_
  refine s_done ?_
  refine s_inv (c + 1, n + 1, rs ++ [(⟨R, r, xs⟩ : Row)], G', g') ⟨(by (try dsimp only); omega), (by (try dsimp only); rw [if_pos c2, hsn, List.map_append, hx]; rfl), (by simp; omega), (by (try dsimp only); omega)⟩ (by (try dsimp only); omega) ⟨rfl, rfl, rfl, trivial⟩ tk
theorem rUsed_spec (w : World) (N : Nat → Prop) (b : BrD) (ho : Owns w [] N) (hk : KR w N b) (hok : b.ok) : Ret Tryz.prog 23 [.agg (encBr b).toArray] w N fun v L => v = .int .i64 (apartL b).length ∧ L = [] := by
  refine ret_of_J cx Tryz.func23 rfl (Nat.le_of_ble_eq_true rfl) ho ?_
  refine s_seq ?_
  refine s_region ?_
  first | (refine s_box1 rfl rfl rfl (fun b1 => ?_)) | (refine s_boxA rfl rfl (fun b1 => ?_))
  change J _ _ _ (cb b1 46 (encBr b) :: _) _
  refine s_q (y_assign rfl) rfl ?_
  refine s_done ?_
  refine s_seq ?_
  refine s_region ?_
  refine s_q (by (first | exact y_ldN rfl rfl rfl (by rfl) | exact y_ld rfl rfl rfl (by rfl) | exact y_ldN rfl rfl rfl (by rfl) | exact y_ldK rfl rfl rfl rfl (by assumption) (by omega) | exact y_ldI rfl rfl rfl rfl (by assumption) (by omega) (by omega))) rfl ?_
  refine s_call (pre := []) (rem := _) rfl rfl tk (fun w N ho hl => rApart_spec w N b ho (hk.of hl) hok) rfl ?_
  rintro e L' ⟨G, g, rs, rfl, rfl, hrs⟩
  try simp only [List.nil_append, List.cons_append, List.append_nil]
  refine s_q (y_lenS rfl rfl rfl) rfl ?_
  refine s_q (y_assign rfl) rfl ?_
  refine s_done ?_
  exact s_return ⟨by rw [← hrs, List.length_map], rfl⟩ (res_tmp Tryz.results23 rfl)
end Go.Proofs.YtdbnlgknalencaaGreat
