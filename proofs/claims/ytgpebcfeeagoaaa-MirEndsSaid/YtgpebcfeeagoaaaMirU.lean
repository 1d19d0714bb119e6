/- Layers 5 and 6, the document's: Right of a machine; Size. -/
import Derived.Test.YtgpebcfeeagoaaaMirN
import Derived.Test.YtgpebcfeeagoaaaMirM
import Derived.Test.YtgpebcfeeagoaaaEEb
set_option linter.unusedVariables false
set_option linter.unusedSimpArgs false
namespace Go.Proofs.Ytgpebcfeeagoaaa
open Go Go.E
set_option maxRecDepth 4000
set_option maxHeartbeats 1000000
theorem refHas5_spec (w : World) (N : Nat → Prop) (A : Option Addr) (c n : Nat) (l : List Int) (x : Int) (hn : n = l.length) (ho : Owns w [] N) (hk : KI w N A l) (hlen : l.length < 1000000000) :
    Ret Try.prog 65 [.slice A n c, .int .i64 x] w N fun v L => v = .bool (decide (x ∈ l)) ∧ L = [] := by
  subst hn
  refine ret_of_J cx Try.func65 rfl (Nat.le_of_ble_eq_true rfl) ho ?_
  refine s_seq ?_
  refine s_region ?_
  refine s_q (y_assign rfl) rfl ?_
  refine s_done ?_
  refine s_seq ?_
  refine s_seq ?_
  refine s_region ?_
  refine s_q (y_assign rfl) rfl ?_
  refine s_done ?_
  refine s_block ?_
  refine s_loopV (σ := Nat) (fun s => [(5, .int .i64 s)]) (fun s => []) (fun s => (s ≤ l.length) ∧ (decide (x ∈ l.drop s) = decide (x ∈ l))) (fun s => l.length - s) (0) [(0, _), (1, _)] ⟨rfl, rfl, trivial⟩ ⟨rfl, trivial⟩ tk ⟨Nat.zero_le _, rfl⟩ ?_
  rintro k ⟨hk2, hf⟩
  try dsimp only [List.cons_append, List.nil_append, List.append_nil] at hk2 hf ⊢
  refine s_seq ?_
  refine s_seq ?_
  refine s_region ?_
  refine s_q (y_move rfl) rfl ?_
  refine s_q (y_move rfl) rfl ?_
  refine s_q (y_lenS rfl rfl rfl) rfl ?_
  refine s_q (y_lss rfl rfl) rfl ?_
  refine s_done ?_
  refine s_cond rfl (fun h => ?_) (fun h => ?_)
  · have hkl : k < l.length := by omega
    rw [drop_D 0 l k hkl] at hf
    refine s_skip ?_
    refine s_seq ?_
    refine s_block ?_
    refine s_seq ?_
    refine s_region ?_
    refine s_q (y_move rfl) rfl ?_
    refine s_q (y_move rfl) rfl ?_
    refine s_q (by (first | exact y_ixI rfl rfl rfl rfl rfl hk rfl (by omega) (by omega) | exact y_ixI rfl rfl rfl rfl rfl (by assumption) rfl (by omega) (by omega))) rfl ?_
    refine s_q (by (first | exact y_ldK rfl rfl rfl rfl hk (by omega) | exact y_ld rfl rfl rfl (by rfl) | exact y_ldN rfl rfl rfl (by rfl) | exact y_ldK rfl rfl rfl rfl (by assumption) (by omega) | exact y_ldI rfl rfl rfl rfl (by assumption) (by omega) (by omega))) rfl ?_
    refine s_q (y_move rfl) rfl ?_
    refine s_q (by (first | exact y_eql rfl rfl | exact y_eqlB rfl rfl rfl)) rfl ?_
    refine s_done ?_
    refine s_cond rfl (fun h2 => ?_) (fun h2 => ?_)
    · refine s_seq ?_
      refine s_region ?_
      refine s_q (y_assign rfl) rfl ?_
      refine s_done ?_
      exact s_return ⟨by rw [← hf, h2]; simp, rfl⟩ (res_tmp Try.results65 rfl)
    · refine s_skip ?_
      refine s_endb ?_
      refine s_region ?_
      refine s_q (y_move rfl) rfl ?_
      refine s_q (y_add rfl rfl (by omega)) rfl ?_
      refine s_q (y_assign rfl) rfl ?_
      refine s_done ?_
      have h3 : ¬ x = l.getD k 0 := fun e => h2 e.symm
      refine s_inv (k + 1) ⟨(by (try dsimp only); omega), by (try dsimp only); rw [← hf]; simp only [List.mem_cons, h3, false_or]⟩ (by (try dsimp only); omega) ⟨rfl, rfl, rfl, trivial⟩ tk
  · rw [List.drop_of_length_le (by omega)] at hf
    refine s_exit rfl ?_
    refine s_seq ?_
    refine s_region ?_
    refine s_q (y_assign rfl) rfl ?_
    refine s_done ?_
    exact s_return ⟨by rw [← hf]; simp, rfl⟩ (res_tmp Try.results65 rfl)
theorem refSize_spec (w : World) (N : Nat → Prop) (T : Option Addr) (q : Nat) (f : Int) (bs : List BlkD) (ho : Owns w [] N) (hb : KB w N T bs) (hlen : bs.length < 1000000) (hil : ∀ b ∈ bs, b.ins.length < 1000000) :
    Ret Try.prog 18 [.agg #[.int .i64 f, .slice T bs.length q]] w N fun v L => v = .int .i64 (sizeT bs) ∧ L = [] := by
  refine ret_of_J cx Try.func18 rfl (Nat.le_of_ble_eq_true rfl) ho ?_
  refine s_seq ?_
  refine s_region ?_
  first | (refine s_box1 rfl rfl rfl (fun b1 => ?_)) | (refine s_boxA rfl rfl (fun b1 => ?_))
  change J _ _ _ (cb b1 27 [.int .i64 f, .slice T bs.length q] :: _) _
  refine s_q (y_assign rfl) rfl ?_
  refine s_done ?_
  refine s_seq ?_
  refine s_region ?_
  refine s_q (by (first | exact y_fieldAddrB rfl rfl rfl rfl rfl rfl | exact y_fieldAddr rfl rfl rfl rfl rfl rfl)) rfl ?_
  refine s_q (by (first | exact y_ld rfl rfl rfl (by rfl) | exact y_ldN rfl rfl rfl (by rfl) | exact y_ldK rfl rfl rfl rfl (by assumption) (by omega) | exact y_ldI rfl rfl rfl rfl (by assumption) (by omega) (by omega))) rfl ?_
  refine s_q (y_lenS rfl rfl rfl) rfl ?_
  refine s_q (y_assign rfl) rfl ?_
  refine s_done ?_
  refine s_seq ?_
  refine s_seq ?_
  refine s_region ?_
  refine s_q (y_assign rfl) rfl ?_
  refine s_done ?_
  refine s_block ?_
  refine s_loopV (σ := Nat × Nat) (fun s => [(4, .int .i64 s.1), (3, .int .i64 s.2)]) (fun s => []) (fun s => (s.1 ≤ bs.length) ∧ (s.2 ≤ bs.length + 1000000 * s.1) ∧ (s.2 + sumI (bs.drop s.1) = sizeT bs)) (fun s => bs.length - s.1) (0, bs.length) [(1, _)] ⟨rfl, trivial⟩ ⟨rfl, rfl, trivial⟩ tk ⟨Nat.zero_le _, (by (try dsimp only); omega), rfl⟩ ?_
  rintro ⟨k, n⟩ ⟨hk, hn, hf⟩
  try dsimp only [List.cons_append, List.nil_append, List.append_nil] at hk hn hf ⊢
  refine s_seq ?_
  refine s_seq ?_
  refine s_region ?_
  refine s_q (y_move rfl) rfl ?_
  refine s_q (by (first | exact y_fieldAddrB rfl rfl rfl rfl rfl rfl | exact y_fieldAddr rfl rfl rfl rfl rfl rfl)) rfl ?_
  refine s_q (by (first | exact y_ld rfl rfl rfl (by rfl) | exact y_ldN rfl rfl rfl (by rfl) | exact y_ldK rfl rfl rfl rfl (by assumption) (by omega) | exact y_ldI rfl rfl rfl rfl (by assumption) (by omega) (by omega))) rfl ?_
  refine s_q (y_lenS rfl rfl rfl) rfl ?_
  refine s_q (y_lss rfl rfl) rfl ?_
  refine s_done ?_
  refine s_cond rfl (fun h => ?_) (fun h => ?_)
  · have hkl : k < bs.length := by omega
    have hmem := getD_mem BlkD.no hkl
    have hmi := hil _ hmem
    rw [drop_D .no bs k hkl, sumI] at hf
    refine s_skip ?_
    refine s_seq ?_
    refine s_block ?_
    refine s_region ?_
    refine s_q (y_move rfl) rfl ?_
    refine s_q (by (first | exact y_fieldAddrB rfl rfl rfl rfl rfl rfl | exact y_fieldAddr rfl rfl rfl rfl rfl rfl)) rfl ?_
    refine s_q (by (first | exact y_ldF (v := .slice (bs.getD k .no).A (bs.getD k .no).ins.length (bs.getD k .no).c) hb.blk rfl rfl rfl (by omega) rfl | exact y_ld rfl rfl rfl (by rfl) | exact y_ldN rfl rfl rfl (by rfl) | exact y_ldK rfl rfl rfl rfl (by assumption) (by omega) | exact y_ldI rfl rfl rfl rfl (by assumption) (by omega) (by omega))) rfl ?_
    refine s_q (y_move rfl) rfl ?_
    refine s_q (by (first | exact y_ixE hb.blk rfl rfl rfl rfl rfl rfl (by omega) (by omega) | exact y_ixI rfl rfl rfl rfl rfl (by assumption) rfl (by omega) (by omega))) rfl ?_
    refine s_q (by (first | exact y_fieldAddrB rfl rfl rfl rfl rfl rfl | exact y_fieldAddr rfl rfl rfl rfl rfl rfl)) rfl ?_
    refine s_q (by (first | exact y_ldF (v := .slice (bs.getD k .no).A (bs.getD k .no).ins.length (bs.getD k .no).c) hb.blk rfl rfl rfl (by omega) rfl | exact y_ld rfl rfl rfl (by rfl) | exact y_ldN rfl rfl rfl (by rfl) | exact y_ldK rfl rfl rfl rfl (by assumption) (by omega) | exact y_ldI rfl rfl rfl rfl (by assumption) (by omega) (by omega))) rfl ?_
    refine s_q (y_lenS rfl rfl rfl) rfl ?_
    refine s_q (y_add rfl rfl (by omega)) rfl ?_
    refine s_q (y_assign rfl) rfl ?_
    refine s_done ?_
    refine s_endb ?_
    refine s_region ?_
    refine s_q (y_move rfl) rfl ?_
    refine s_q (y_add rfl rfl (by omega)) rfl ?_
    refine s_q (y_assign rfl) rfl ?_
    refine s_done ?_
    refine s_inv (k + 1, n + (bs.getD k .no).ins.length) ⟨(by (try dsimp only); omega), by dsimp only; omega, by dsimp only; omega⟩ (by (try dsimp only); omega) ⟨rfl, rfl, rfl, trivial⟩ tk
  · have hkl : k = bs.length := by omega
    subst hkl
    rw [List.drop_length, sumI] at hf
    refine s_exit rfl ?_
    refine s_seq ?_
    refine s_region ?_
    refine s_q (y_move rfl) rfl ?_
    refine s_q (y_assign rfl) rfl ?_
    refine s_done ?_
    exact s_return ⟨by rw [← hf]; rfl, rfl⟩ (res_tmp Try.results18 rfl)
def incOK (regs : Int) (l : List Int) : Prop := ∀ i, i < l.length → (0 ≤ l.getD i 0 ∧ l.getD i 0 < regs) ∧ (0 < i → l.getD (i - 1) 0 < l.getD i 0)
theorem inc_lt {l : List Int} (h : ∀ i, i < l.length → 0 < i → l.getD (i - 1) 0 < l.getD i 0) : ∀ j i, j < l.length → i < j → l.getD i 0 < l.getD j 0 := by
  intro j
  induction j with
  | zero => intro i _ hi; omega
  | succ j ih =>
    intro i hj hi
    have h1 := h (j + 1) hj (by omega)
    rw [Nat.add_sub_cancel] at h1
    by_cases e : i = j
    · subst e; exact h1
    · have := ih i (by omega) (by omega); omega
theorem gD {l : List Int} {i : Nat} (h : i < l.length) : l.getD i 0 = l[i] := by rw [List.getD_eq_getElem?_getD, List.getElem?_eq_getElem h]; rfl
theorem inc_iff {regs ret : Int} {l : List Int} : (sortedB l = true ∧ setOK regs (ret :: l) = true) ↔ (0 ≤ ret ∧ ret < regs ∧ ret ∉ l ∧ incOK regs l) := by
  simp only [sortedB, setOK, Bool.and_eq_true, List.all_eq_true, decide_eq_true_eq, List.mem_cons, forall_eq_or_imp, List.nodup_cons]
  constructor
  · rintro ⟨h1, ⟨h2, h3⟩, h4, h5⟩
    refine ⟨h2.1, h2.2, h4, fun i hi => ⟨?_, fun h0 => ?_⟩⟩
    · rw [gD hi]; exact h3 _ (List.getElem_mem hi)
    · have h6 := h1 (i - 1) (by omega)
      rw [Nat.sub_add_cancel h0] at h6
      have h7 : l.getD (i - 1) 0 ≠ l.getD i 0 := fun e => by
        rw [gD hi, gD (by omega)] at e
        exact List.pairwise_iff_getElem.1 h5 (i - 1) i (by omega) hi (by omega) e
      omega
  · rintro ⟨h1, h2, h3, h4⟩
    have hlt := inc_lt (fun i hi h0 => (h4 i hi).2 h0)
    refine ⟨fun i hi => Int.le_of_lt (hlt (i + 1) i (by omega) (by omega)), ⟨⟨h1, h2⟩, fun x hx => ?_⟩, h3, ?_⟩
    · obtain ⟨i, hi, rfl⟩ := List.mem_iff_getElem.1 hx
      have := (h4 i hi).1
      rwa [gD hi] at this
    · refine List.Pairwise.imp (fun {a b} (h : a < b) => Int.ne_of_lt h) (List.pairwise_iff_getElem.2 fun i j hi hj hij => ?_)
      have := hlt j i hj hij
      rwa [gD hi, gD hj] at this
theorem ref5Right_spec (w : World) (N : Nat → Prop) (A B : Option Addr) (c d : Nat) (m : MV) (ho : Owns w [] N) (ha : KI w N A m.args) (hs : KI w N B m.saved) (hla : m.args.length < 100000000) (hls : m.saved.length < 100000000) (hcap : m.args.length ≤ c) :
    Ret Try.prog 41 [.agg (mval m A c B d).toArray] w N fun v L => v = .bool (machOK m) ∧ L = [] := by
  refine ret_of_J cx Try.func41 rfl (Nat.le_of_ble_eq_true rfl) ho ?_
  refine s_seq ?_
  refine s_region ?_
  first | (refine s_box1 rfl rfl rfl (fun b => ?_)) | (refine s_boxA rfl rfl (fun b => ?_))
  change J _ _ _ (cb b 24 (mval m A c B d) :: _) _
  refine s_q (y_assign rfl) rfl ?_
  refine s_done ?_
  refine s_seq ?_
  refine s_seq ?_
  by_cases h1 : m.regs < 1
  · refine s_region ?_
    refine s_q (by (first | exact y_fieldAddrB rfl rfl rfl rfl rfl rfl | exact y_fieldAddr rfl rfl rfl rfl rfl rfl)) rfl ?_
    refine s_q (by (first | exact y_ld rfl rfl rfl (by rfl) | exact y_ldN rfl rfl rfl (by rfl) | exact y_ldK rfl rfl rfl rfl (by assumption) (by omega) | exact y_ldI rfl rfl rfl rfl (by assumption) (by omega) (by omega))) rfl ?_
    refine s_q (by (first | exact y_as (y_lss rfl rfl) (congrArg Value.bool (decide_eq_true h1)) | exact y_lss rfl rfl)) rfl ?_
    refine s_q (y_move rfl) rfl ?_
    refine s_unguard2 (b := true) rfl rfl (by with_reducible rfl) rfl rfl ?_
    refine s_unguard2 (b := true) rfl rfl (by with_reducible rfl) rfl rfl ?_
    refine s_unguard2 (b := true) rfl rfl (by with_reducible rfl) rfl rfl ?_
    refine s_q (by (first | exact y_pickT rfl rfl | exact y_pickF rfl rfl)) rfl ?_
    refine s_q (y_move rfl) rfl ?_
    refine s_unguard2 (b := true) rfl rfl (by with_reducible rfl) rfl rfl ?_
    refine s_unguard2 (b := true) rfl rfl (by with_reducible rfl) rfl rfl ?_
    refine s_unguard2 (b := true) rfl rfl (by with_reducible rfl) rfl rfl ?_
    refine s_unguard2 (b := true) rfl rfl (by with_reducible rfl) rfl rfl ?_
    refine s_q (by (first | exact y_pickT rfl rfl | exact y_pickF rfl rfl)) rfl ?_
    refine s_q (y_move rfl) rfl ?_
    refine s_unguard2 (b := true) rfl rfl (by with_reducible rfl) rfl rfl ?_
    refine s_unguard2 (b := true) rfl rfl (by with_reducible rfl) rfl rfl ?_
    refine s_unguard2 (b := true) rfl rfl (by with_reducible rfl) rfl rfl ?_
    refine s_unguard2 (b := true) rfl rfl (by with_reducible rfl) rfl rfl ?_
    refine s_unguard2 (b := true) rfl rfl (by with_reducible rfl) rfl rfl ?_
    refine s_unguard2 (b := true) rfl rfl (by with_reducible rfl) rfl rfl ?_
    refine s_q (by (first | exact y_pickT rfl rfl | exact y_pickF rfl rfl)) rfl ?_
    refine s_q (y_move rfl) rfl ?_
    refine s_unguard2 (b := true) rfl rfl (by with_reducible rfl) rfl rfl ?_
    refine s_unguard2 (b := true) rfl rfl (by with_reducible rfl) rfl rfl ?_
    refine s_unguard2 (b := true) rfl rfl (by with_reducible rfl) rfl rfl ?_
    refine s_q (by (first | exact y_pickT rfl rfl | exact y_pickF rfl rfl)) rfl ?_
    refine s_q (y_move rfl) rfl ?_
    refine s_unguard2 (b := true) rfl rfl (by with_reducible rfl) rfl rfl ?_
    refine s_unguard2 (b := true) rfl rfl (by with_reducible rfl) rfl rfl ?_
    refine s_unguard2 (b := true) rfl rfl (by with_reducible rfl) rfl rfl ?_
    refine s_unguard2 (b := true) rfl rfl (by with_reducible rfl) rfl rfl ?_
    refine s_unguard2 (b := true) rfl rfl (by with_reducible rfl) rfl rfl ?_
    refine s_q (by (first | exact y_pickT rfl rfl | exact y_pickF rfl rfl)) rfl ?_
    refine s_q (y_move rfl) rfl ?_
    refine s_unguard2 (b := true) rfl rfl (by with_reducible rfl) rfl rfl ?_
    refine s_unguard2 (b := true) rfl rfl (by with_reducible rfl) rfl rfl ?_
    refine s_unguard2 (b := true) rfl rfl (by with_reducible rfl) rfl rfl ?_
    refine s_unguard2 (b := true) rfl rfl (by with_reducible rfl) rfl rfl ?_
    refine s_unguard2 (b := true) rfl rfl (by with_reducible rfl) rfl rfl ?_
    refine s_q (by (first | exact y_pickT rfl rfl | exact y_pickF rfl rfl)) rfl ?_
    refine s_done ?_
    refine s_condT2 rfl (by with_reducible rfl) ?_
    refine s_seq ?_
    refine s_region ?_
    refine s_q (y_assign rfl) rfl ?_
    refine s_done ?_
    exact s_return ⟨by rw [show machOK m = false by rw [machOK, decide_eq_false (by omega)]; rfl], rfl⟩ (res_tmp Try.results41 rfl)
  by_cases h2 : 64 < m.regs
  · refine s_region ?_
    refine s_q (by (first | exact y_fieldAddrB rfl rfl rfl rfl rfl rfl | exact y_fieldAddr rfl rfl rfl rfl rfl rfl)) rfl ?_
    refine s_q (by (first | exact y_ld rfl rfl rfl (by rfl) | exact y_ldN rfl rfl rfl (by rfl) | exact y_ldK rfl rfl rfl rfl (by assumption) (by omega) | exact y_ldI rfl rfl rfl rfl (by assumption) (by omega) (by omega))) rfl ?_
    refine s_q (by (first | exact y_as (y_lss rfl rfl) (congrArg Value.bool (decide_eq_false h1)) | exact y_lss rfl rfl)) rfl ?_
    refine s_q (y_move rfl) rfl ?_
    refine s_guard2 rfl rfl (by with_reducible rfl) ?_
    refine s_q (by (first | exact y_fieldAddrB rfl rfl rfl rfl rfl rfl | exact y_fieldAddr rfl rfl rfl rfl rfl rfl)) rfl ?_
    refine s_guard2 rfl rfl (by with_reducible rfl) ?_
    refine s_q (by (first | exact y_ld rfl rfl rfl (by rfl) | exact y_ldN rfl rfl rfl (by rfl) | exact y_ldK rfl rfl rfl rfl (by assumption) (by omega) | exact y_ldI rfl rfl rfl rfl (by assumption) (by omega) (by omega))) rfl ?_
    refine s_guard2 rfl rfl (by with_reducible rfl) ?_
    refine s_q (by (first | exact y_as (y_gtr rfl rfl) (congrArg Value.bool (decide_eq_true h2)) | exact y_gtr rfl rfl)) rfl ?_
    refine s_q (by (first | exact y_pickT rfl rfl | exact y_pickF rfl rfl)) rfl ?_
    refine s_q (y_move rfl) rfl ?_
    refine s_unguard2 (b := true) rfl rfl (by with_reducible rfl) rfl rfl ?_
    refine s_unguard2 (b := true) rfl rfl (by with_reducible rfl) rfl rfl ?_
    refine s_unguard2 (b := true) rfl rfl (by with_reducible rfl) rfl rfl ?_
    refine s_unguard2 (b := true) rfl rfl (by with_reducible rfl) rfl rfl ?_
    refine s_q (by (first | exact y_pickT rfl rfl | exact y_pickF rfl rfl)) rfl ?_
    refine s_q (y_move rfl) rfl ?_
    refine s_unguard2 (b := true) rfl rfl (by with_reducible rfl) rfl rfl ?_
    refine s_unguard2 (b := true) rfl rfl (by with_reducible rfl) rfl rfl ?_
    refine s_unguard2 (b := true) rfl rfl (by with_reducible rfl) rfl rfl ?_
    refine s_unguard2 (b := true) rfl rfl (by with_reducible rfl) rfl rfl ?_
    refine s_unguard2 (b := true) rfl rfl (by with_reducible rfl) rfl rfl ?_
    refine s_unguard2 (b := true) rfl rfl (by with_reducible rfl) rfl rfl ?_
    refine s_q (by (first | exact y_pickT rfl rfl | exact y_pickF rfl rfl)) rfl ?_
    refine s_q (y_move rfl) rfl ?_
    refine s_unguard2 (b := true) rfl rfl (by with_reducible rfl) rfl rfl ?_
    refine s_unguard2 (b := true) rfl rfl (by with_reducible rfl) rfl rfl ?_
    refine s_unguard2 (b := true) rfl rfl (by with_reducible rfl) rfl rfl ?_
    refine s_q (by (first | exact y_pickT rfl rfl | exact y_pickF rfl rfl)) rfl ?_
    refine s_q (y_move rfl) rfl ?_
    refine s_unguard2 (b := true) rfl rfl (by with_reducible rfl) rfl rfl ?_
    refine s_unguard2 (b := true) rfl rfl (by with_reducible rfl) rfl rfl ?_
    refine s_unguard2 (b := true) rfl rfl (by with_reducible rfl) rfl rfl ?_
    refine s_unguard2 (b := true) rfl rfl (by with_reducible rfl) rfl rfl ?_
    refine s_unguard2 (b := true) rfl rfl (by with_reducible rfl) rfl rfl ?_
    refine s_q (by (first | exact y_pickT rfl rfl | exact y_pickF rfl rfl)) rfl ?_
    refine s_q (y_move rfl) rfl ?_
    refine s_unguard2 (b := true) rfl rfl (by with_reducible rfl) rfl rfl ?_
    refine s_unguard2 (b := true) rfl rfl (by with_reducible rfl) rfl rfl ?_
    refine s_unguard2 (b := true) rfl rfl (by with_reducible rfl) rfl rfl ?_
    refine s_unguard2 (b := true) rfl rfl (by with_reducible rfl) rfl rfl ?_
    refine s_unguard2 (b := true) rfl rfl (by with_reducible rfl) rfl rfl ?_
    refine s_q (by (first | exact y_pickT rfl rfl | exact y_pickF rfl rfl)) rfl ?_
    refine s_done ?_
    refine s_condT2 rfl (by with_reducible rfl) ?_
    refine s_seq ?_
    refine s_region ?_
    refine s_q (y_assign rfl) rfl ?_
    refine s_done ?_
    exact s_return ⟨by rw [show machOK m = false by rw [machOK, decide_eq_false (by omega)]; rfl], rfl⟩ (res_tmp Try.results41 rfl)
  by_cases h3 : (8 : Int) < m.args.length
  · refine s_region ?_
    refine s_q (by (first | exact y_fieldAddrB rfl rfl rfl rfl rfl rfl | exact y_fieldAddr rfl rfl rfl rfl rfl rfl)) rfl ?_
    refine s_q (by (first | exact y_ld rfl rfl rfl (by rfl) | exact y_ldN rfl rfl rfl (by rfl) | exact y_ldK rfl rfl rfl rfl (by assumption) (by omega) | exact y_ldI rfl rfl rfl rfl (by assumption) (by omega) (by omega))) rfl ?_
    refine s_q (by (first | exact y_as (y_lss rfl rfl) (congrArg Value.bool (decide_eq_false h1)) | exact y_lss rfl rfl)) rfl ?_
    refine s_q (y_move rfl) rfl ?_
    refine s_guard2 rfl rfl (by with_reducible rfl) ?_
    refine s_q (by (first | exact y_fieldAddrB rfl rfl rfl rfl rfl rfl | exact y_fieldAddr rfl rfl rfl rfl rfl rfl)) rfl ?_
    refine s_guard2 rfl rfl (by with_reducible rfl) ?_
    refine s_q (by (first | exact y_ld rfl rfl rfl (by rfl) | exact y_ldN rfl rfl rfl (by rfl) | exact y_ldK rfl rfl rfl rfl (by assumption) (by omega) | exact y_ldI rfl rfl rfl rfl (by assumption) (by omega) (by omega))) rfl ?_
    refine s_guard2 rfl rfl (by with_reducible rfl) ?_
    refine s_q (by (first | exact y_as (y_gtr rfl rfl) (congrArg Value.bool (decide_eq_false h2)) | exact y_as (y_gtr rfl rfl) (congrArg Value.bool (decide_eq_true h3)) | exact y_gtr rfl rfl)) rfl ?_
    refine s_q (by (first | exact y_pickT rfl rfl | exact y_pickF rfl rfl)) rfl ?_
    refine s_q (y_move rfl) rfl ?_
    refine s_guard2 rfl rfl (by with_reducible rfl) ?_
    refine s_q (by (first | exact y_fieldAddrB rfl rfl rfl rfl rfl rfl | exact y_fieldAddr rfl rfl rfl rfl rfl rfl)) rfl ?_
    refine s_guard2 rfl rfl (by with_reducible rfl) ?_
    refine s_q (by (first | exact y_ld rfl rfl rfl (by rfl) | exact y_ldN rfl rfl rfl (by rfl) | exact y_ldK rfl rfl rfl rfl (by assumption) (by omega) | exact y_ldI rfl rfl rfl rfl (by assumption) (by omega) (by omega))) rfl ?_
    refine s_guard2 rfl rfl (by with_reducible rfl) ?_
    refine s_q (y_lenS rfl rfl rfl) rfl ?_
    refine s_guard2 rfl rfl (by with_reducible rfl) ?_
    refine s_q (by (first | exact y_as (y_gtr rfl rfl) (congrArg Value.bool (decide_eq_false h2)) | exact y_as (y_gtr rfl rfl) (congrArg Value.bool (decide_eq_true h3)) | exact y_gtr rfl rfl)) rfl ?_
    refine s_q (by (first | exact y_pickT rfl rfl | exact y_pickF rfl rfl)) rfl ?_
    refine s_q (y_move rfl) rfl ?_
    refine s_unguard2 (b := true) rfl rfl (by with_reducible rfl) rfl rfl ?_
    refine s_unguard2 (b := true) rfl rfl (by with_reducible rfl) rfl rfl ?_
    refine s_unguard2 (b := true) rfl rfl (by with_reducible rfl) rfl rfl ?_
    refine s_unguard2 (b := true) rfl rfl (by with_reducible rfl) rfl rfl ?_
    refine s_unguard2 (b := true) rfl rfl (by with_reducible rfl) rfl rfl ?_
    refine s_unguard2 (b := true) rfl rfl (by with_reducible rfl) rfl rfl ?_
    refine s_q (by (first | exact y_pickT rfl rfl | exact y_pickF rfl rfl)) rfl ?_
    refine s_q (y_move rfl) rfl ?_
    refine s_unguard2 (b := true) rfl rfl (by with_reducible rfl) rfl rfl ?_
    refine s_unguard2 (b := true) rfl rfl (by with_reducible rfl) rfl rfl ?_
    refine s_unguard2 (b := true) rfl rfl (by with_reducible rfl) rfl rfl ?_
    refine s_q (by (first | exact y_pickT rfl rfl | exact y_pickF rfl rfl)) rfl ?_
    refine s_q (y_move rfl) rfl ?_
    refine s_unguard2 (b := true) rfl rfl (by with_reducible rfl) rfl rfl ?_
    refine s_unguard2 (b := true) rfl rfl (by with_reducible rfl) rfl rfl ?_
    refine s_unguard2 (b := true) rfl rfl (by with_reducible rfl) rfl rfl ?_
    refine s_unguard2 (b := true) rfl rfl (by with_reducible rfl) rfl rfl ?_
    refine s_unguard2 (b := true) rfl rfl (by with_reducible rfl) rfl rfl ?_
    refine s_q (by (first | exact y_pickT rfl rfl | exact y_pickF rfl rfl)) rfl ?_
    refine s_q (y_move rfl) rfl ?_
    refine s_unguard2 (b := true) rfl rfl (by with_reducible rfl) rfl rfl ?_
    refine s_unguard2 (b := true) rfl rfl (by with_reducible rfl) rfl rfl ?_
    refine s_unguard2 (b := true) rfl rfl (by with_reducible rfl) rfl rfl ?_
    refine s_unguard2 (b := true) rfl rfl (by with_reducible rfl) rfl rfl ?_
    refine s_unguard2 (b := true) rfl rfl (by with_reducible rfl) rfl rfl ?_
    refine s_q (by (first | exact y_pickT rfl rfl | exact y_pickF rfl rfl)) rfl ?_
    refine s_done ?_
    refine s_condT2 rfl (by with_reducible rfl) ?_
    refine s_seq ?_
    refine s_region ?_
    refine s_q (y_assign rfl) rfl ?_
    refine s_done ?_
    exact s_return ⟨by rw [show machOK m = false by rw [machOK, decide_eq_false (by omega)]; rfl], rfl⟩ (res_tmp Try.results41 rfl)
  by_cases h4 : m.regs < (m.saved.length : Int)
  · refine s_region ?_
    refine s_q (by (first | exact y_fieldAddrB rfl rfl rfl rfl rfl rfl | exact y_fieldAddr rfl rfl rfl rfl rfl rfl)) rfl ?_
    refine s_q (by (first | exact y_ld rfl rfl rfl (by rfl) | exact y_ldN rfl rfl rfl (by rfl) | exact y_ldK rfl rfl rfl rfl (by assumption) (by omega) | exact y_ldI rfl rfl rfl rfl (by assumption) (by omega) (by omega))) rfl ?_
    refine s_q (by (first | exact y_as (y_lss rfl rfl) (congrArg Value.bool (decide_eq_false h1)) | exact y_lss rfl rfl)) rfl ?_
    refine s_q (y_move rfl) rfl ?_
    refine s_guard2 rfl rfl (by with_reducible rfl) ?_
    refine s_q (by (first | exact y_fieldAddrB rfl rfl rfl rfl rfl rfl | exact y_fieldAddr rfl rfl rfl rfl rfl rfl)) rfl ?_
    refine s_guard2 rfl rfl (by with_reducible rfl) ?_
    refine s_q (by (first | exact y_ld rfl rfl rfl (by rfl) | exact y_ldN rfl rfl rfl (by rfl) | exact y_ldK rfl rfl rfl rfl (by assumption) (by omega) | exact y_ldI rfl rfl rfl rfl (by assumption) (by omega) (by omega))) rfl ?_
    refine s_guard2 rfl rfl (by with_reducible rfl) ?_
    refine s_q (by (first | exact y_as (y_gtr rfl rfl) (congrArg Value.bool (decide_eq_false h2)) | exact y_as (y_gtr rfl rfl) (congrArg Value.bool (decide_eq_false h3)) | exact y_as (y_gtr rfl rfl) (congrArg Value.bool (decide_eq_true h4)) | exact y_gtr rfl rfl)) rfl ?_
    refine s_q (by (first | exact y_pickT rfl rfl | exact y_pickF rfl rfl)) rfl ?_
    refine s_q (y_move rfl) rfl ?_
    refine s_guard2 rfl rfl (by with_reducible rfl) ?_
    refine s_q (by (first | exact y_fieldAddrB rfl rfl rfl rfl rfl rfl | exact y_fieldAddr rfl rfl rfl rfl rfl rfl)) rfl ?_
    refine s_guard2 rfl rfl (by with_reducible rfl) ?_
    refine s_q (by (first | exact y_ld rfl rfl rfl (by rfl) | exact y_ldN rfl rfl rfl (by rfl) | exact y_ldK rfl rfl rfl rfl (by assumption) (by omega) | exact y_ldI rfl rfl rfl rfl (by assumption) (by omega) (by omega))) rfl ?_
    refine s_guard2 rfl rfl (by with_reducible rfl) ?_
    refine s_q (y_lenS rfl rfl rfl) rfl ?_
    refine s_guard2 rfl rfl (by with_reducible rfl) ?_
    refine s_q (by (first | exact y_as (y_gtr rfl rfl) (congrArg Value.bool (decide_eq_false h2)) | exact y_as (y_gtr rfl rfl) (congrArg Value.bool (decide_eq_false h3)) | exact y_as (y_gtr rfl rfl) (congrArg Value.bool (decide_eq_true h4)) | exact y_gtr rfl rfl)) rfl ?_
    refine s_q (by (first | exact y_pickT rfl rfl | exact y_pickF rfl rfl)) rfl ?_
    refine s_q (y_move rfl) rfl ?_
    refine s_guard2 rfl rfl (by with_reducible rfl) ?_
    refine s_q (by (first | exact y_fieldAddrB rfl rfl rfl rfl rfl rfl | exact y_fieldAddr rfl rfl rfl rfl rfl rfl)) rfl ?_
    refine s_guard2 rfl rfl (by with_reducible rfl) ?_
    refine s_q (by (first | exact y_ld rfl rfl rfl (by rfl) | exact y_ldN rfl rfl rfl (by rfl) | exact y_ldK rfl rfl rfl rfl (by assumption) (by omega) | exact y_ldI rfl rfl rfl rfl (by assumption) (by omega) (by omega))) rfl ?_
    refine s_guard2 rfl rfl (by with_reducible rfl) ?_
    refine s_q (y_lenS rfl rfl rfl) rfl ?_
    refine s_guard2 rfl rfl (by with_reducible rfl) ?_
    refine s_q (by (first | exact y_fieldAddrB rfl rfl rfl rfl rfl rfl | exact y_fieldAddr rfl rfl rfl rfl rfl rfl)) rfl ?_
    refine s_guard2 rfl rfl (by with_reducible rfl) ?_
    refine s_q (by (first | exact y_ld rfl rfl rfl (by rfl) | exact y_ldN rfl rfl rfl (by rfl) | exact y_ldK rfl rfl rfl rfl (by assumption) (by omega) | exact y_ldI rfl rfl rfl rfl (by assumption) (by omega) (by omega))) rfl ?_
    refine s_guard2 rfl rfl (by with_reducible rfl) ?_
    refine s_q (by (first | exact y_as (y_gtr rfl rfl) (congrArg Value.bool (decide_eq_false h2)) | exact y_as (y_gtr rfl rfl) (congrArg Value.bool (decide_eq_false h3)) | exact y_as (y_gtr rfl rfl) (congrArg Value.bool (decide_eq_true h4)) | exact y_gtr rfl rfl)) rfl ?_
    refine s_q (by (first | exact y_pickT rfl rfl | exact y_pickF rfl rfl)) rfl ?_
    refine s_q (y_move rfl) rfl ?_
    refine s_unguard2 (b := true) rfl rfl (by with_reducible rfl) rfl rfl ?_
    refine s_unguard2 (b := true) rfl rfl (by with_reducible rfl) rfl rfl ?_
    refine s_unguard2 (b := true) rfl rfl (by with_reducible rfl) rfl rfl ?_
    refine s_q (by (first | exact y_pickT rfl rfl | exact y_pickF rfl rfl)) rfl ?_
    refine s_q (y_move rfl) rfl ?_
    refine s_unguard2 (b := true) rfl rfl (by with_reducible rfl) rfl rfl ?_
    refine s_unguard2 (b := true) rfl rfl (by with_reducible rfl) rfl rfl ?_
    refine s_unguard2 (b := true) rfl rfl (by with_reducible rfl) rfl rfl ?_
    refine s_unguard2 (b := true) rfl rfl (by with_reducible rfl) rfl rfl ?_
    refine s_unguard2 (b := true) rfl rfl (by with_reducible rfl) rfl rfl ?_
    refine s_q (by (first | exact y_pickT rfl rfl | exact y_pickF rfl rfl)) rfl ?_
    refine s_q (y_move rfl) rfl ?_
    refine s_unguard2 (b := true) rfl rfl (by with_reducible rfl) rfl rfl ?_
    refine s_unguard2 (b := true) rfl rfl (by with_reducible rfl) rfl rfl ?_
    refine s_unguard2 (b := true) rfl rfl (by with_reducible rfl) rfl rfl ?_
    refine s_unguard2 (b := true) rfl rfl (by with_reducible rfl) rfl rfl ?_
    refine s_unguard2 (b := true) rfl rfl (by with_reducible rfl) rfl rfl ?_
    refine s_q (by (first | exact y_pickT rfl rfl | exact y_pickF rfl rfl)) rfl ?_
    refine s_done ?_
    refine s_condT2 rfl (by with_reducible rfl) ?_
    refine s_seq ?_
    refine s_region ?_
    refine s_q (y_assign rfl) rfl ?_
    refine s_done ?_
    exact s_return ⟨by rw [show machOK m = false by rw [machOK, decide_eq_false (by omega)]; rfl], rfl⟩ (res_tmp Try.results41 rfl)
  have hm : machOK m = true ↔ setOK m.regs m.args = true ∧ 0 ≤ m.ret ∧ m.ret < m.regs ∧ m.ret ∉ m.saved ∧ incOK m.regs m.saved := by
    rw [← inc_iff, machOK, decide_eq_true (by omega)]
    simp only [Bool.true_and, Bool.and_eq_true]
    exact ⟨fun ⟨⟨a, b⟩, c⟩ => ⟨b, a, c⟩, fun ⟨b, a, c⟩ => ⟨⟨a, b⟩, c⟩⟩
  have hmF : ¬ (setOK m.regs m.args = true ∧ 0 ≤ m.ret ∧ m.ret < m.regs ∧ m.ret ∉ m.saved ∧ incOK m.regs m.saved) → machOK m = false := fun x => Bool.eq_false_iff.2 fun y => x (hm.1 y)
  by_cases h5 : m.ret < 0
  · refine s_region ?_
    refine s_q (by (first | exact y_fieldAddrB rfl rfl rfl rfl rfl rfl | exact y_fieldAddr rfl rfl rfl rfl rfl rfl)) rfl ?_
    refine s_q (by (first | exact y_ld rfl rfl rfl (by rfl) | exact y_ldN rfl rfl rfl (by rfl) | exact y_ldK rfl rfl rfl rfl (by assumption) (by omega) | exact y_ldI rfl rfl rfl rfl (by assumption) (by omega) (by omega))) rfl ?_
    refine s_q (by (first | exact y_as (y_lss (n := 1) rfl rfl) (congrArg Value.bool (decide_eq_false h1)) | exact y_as (y_lss (n := 0) rfl rfl) (congrArg Value.bool (decide_eq_true h5)) | exact y_lss rfl rfl)) rfl ?_
    refine s_q (y_move rfl) rfl ?_
    refine s_guard2 rfl rfl (by with_reducible rfl) ?_
    refine s_q (by (first | exact y_fieldAddrB rfl rfl rfl rfl rfl rfl | exact y_fieldAddr rfl rfl rfl rfl rfl rfl)) rfl ?_
    refine s_guard2 rfl rfl (by with_reducible rfl) ?_
    refine s_q (by (first | exact y_ld rfl rfl rfl (by rfl) | exact y_ldN rfl rfl rfl (by rfl) | exact y_ldK rfl rfl rfl rfl (by assumption) (by omega) | exact y_ldI rfl rfl rfl rfl (by assumption) (by omega) (by omega))) rfl ?_
    refine s_guard2 rfl rfl (by with_reducible rfl) ?_
    refine s_q (by (first | exact y_as (y_gtr rfl rfl) (congrArg Value.bool (decide_eq_false h2)) | exact y_as (y_gtr rfl rfl) (congrArg Value.bool (decide_eq_false h3)) | exact y_as (y_gtr rfl rfl) (congrArg Value.bool (decide_eq_false h4)) | exact y_gtr rfl rfl)) rfl ?_
    refine s_q (by (first | exact y_pickT rfl rfl | exact y_pickF rfl rfl)) rfl ?_
    refine s_q (y_move rfl) rfl ?_
    refine s_guard2 rfl rfl (by with_reducible rfl) ?_
    refine s_q (by (first | exact y_fieldAddrB rfl rfl rfl rfl rfl rfl | exact y_fieldAddr rfl rfl rfl rfl rfl rfl)) rfl ?_
    refine s_guard2 rfl rfl (by with_reducible rfl) ?_
    refine s_q (by (first | exact y_ld rfl rfl rfl (by rfl) | exact y_ldN rfl rfl rfl (by rfl) | exact y_ldK rfl rfl rfl rfl (by assumption) (by omega) | exact y_ldI rfl rfl rfl rfl (by assumption) (by omega) (by omega))) rfl ?_
    refine s_guard2 rfl rfl (by with_reducible rfl) ?_
    refine s_q (y_lenS rfl rfl rfl) rfl ?_
    refine s_guard2 rfl rfl (by with_reducible rfl) ?_
    refine s_q (by (first | exact y_as (y_gtr rfl rfl) (congrArg Value.bool (decide_eq_false h2)) | exact y_as (y_gtr rfl rfl) (congrArg Value.bool (decide_eq_false h3)) | exact y_as (y_gtr rfl rfl) (congrArg Value.bool (decide_eq_false h4)) | exact y_gtr rfl rfl)) rfl ?_
    refine s_q (by (first | exact y_pickT rfl rfl | exact y_pickF rfl rfl)) rfl ?_
    refine s_q (y_move rfl) rfl ?_
    refine s_guard2 rfl rfl (by with_reducible rfl) ?_
    refine s_q (by (first | exact y_fieldAddrB rfl rfl rfl rfl rfl rfl | exact y_fieldAddr rfl rfl rfl rfl rfl rfl)) rfl ?_
    refine s_guard2 rfl rfl (by with_reducible rfl) ?_
    refine s_q (by (first | exact y_ld rfl rfl rfl (by rfl) | exact y_ldN rfl rfl rfl (by rfl) | exact y_ldK rfl rfl rfl rfl (by assumption) (by omega) | exact y_ldI rfl rfl rfl rfl (by assumption) (by omega) (by omega))) rfl ?_
    refine s_guard2 rfl rfl (by with_reducible rfl) ?_
    refine s_q (y_lenS rfl rfl rfl) rfl ?_
    refine s_guard2 rfl rfl (by with_reducible rfl) ?_
    refine s_q (by (first | exact y_fieldAddrB rfl rfl rfl rfl rfl rfl | exact y_fieldAddr rfl rfl rfl rfl rfl rfl)) rfl ?_
    refine s_guard2 rfl rfl (by with_reducible rfl) ?_
    refine s_q (by (first | exact y_ld rfl rfl rfl (by rfl) | exact y_ldN rfl rfl rfl (by rfl) | exact y_ldK rfl rfl rfl rfl (by assumption) (by omega) | exact y_ldI rfl rfl rfl rfl (by assumption) (by omega) (by omega))) rfl ?_
    refine s_guard2 rfl rfl (by with_reducible rfl) ?_
    refine s_q (by (first | exact y_as (y_gtr rfl rfl) (congrArg Value.bool (decide_eq_false h2)) | exact y_as (y_gtr rfl rfl) (congrArg Value.bool (decide_eq_false h3)) | exact y_as (y_gtr rfl rfl) (congrArg Value.bool (decide_eq_false h4)) | exact y_gtr rfl rfl)) rfl ?_
    refine s_q (by (first | exact y_pickT rfl rfl | exact y_pickF rfl rfl)) rfl ?_
    refine s_q (y_move rfl) rfl ?_
    refine s_guard2 rfl rfl (by with_reducible rfl) ?_
    refine s_q (by (first | exact y_fieldAddrB rfl rfl rfl rfl rfl rfl | exact y_fieldAddr rfl rfl rfl rfl rfl rfl)) rfl ?_
    refine s_guard2 rfl rfl (by with_reducible rfl) ?_
    refine s_q (by (first | exact y_ld rfl rfl rfl (by rfl) | exact y_ldN rfl rfl rfl (by rfl) | exact y_ldK rfl rfl rfl rfl (by assumption) (by omega) | exact y_ldI rfl rfl rfl rfl (by assumption) (by omega) (by omega))) rfl ?_
    refine s_guard2 rfl rfl (by with_reducible rfl) ?_
    refine s_q (by (first | exact y_as (y_lss (n := 1) rfl rfl) (congrArg Value.bool (decide_eq_false h1)) | exact y_as (y_lss (n := 0) rfl rfl) (congrArg Value.bool (decide_eq_true h5)) | exact y_lss rfl rfl)) rfl ?_
    refine s_q (by (first | exact y_pickT rfl rfl | exact y_pickF rfl rfl)) rfl ?_
    refine s_q (y_move rfl) rfl ?_
    refine s_unguard2 (b := true) rfl rfl (by with_reducible rfl) rfl rfl ?_
    refine s_unguard2 (b := true) rfl rfl (by with_reducible rfl) rfl rfl ?_
    refine s_unguard2 (b := true) rfl rfl (by with_reducible rfl) rfl rfl ?_
    refine s_unguard2 (b := true) rfl rfl (by with_reducible rfl) rfl rfl ?_
    refine s_unguard2 (b := true) rfl rfl (by with_reducible rfl) rfl rfl ?_
    refine s_q (by (first | exact y_pickT rfl rfl | exact y_pickF rfl rfl)) rfl ?_
    refine s_q (y_move rfl) rfl ?_
    refine s_unguard2 (b := true) rfl rfl (by with_reducible rfl) rfl rfl ?_
    refine s_unguard2 (b := true) rfl rfl (by with_reducible rfl) rfl rfl ?_
    refine s_unguard2 (b := true) rfl rfl (by with_reducible rfl) rfl rfl ?_
    refine s_unguard2 (b := true) rfl rfl (by with_reducible rfl) rfl rfl ?_
    refine s_unguard2 (b := true) rfl rfl (by with_reducible rfl) rfl rfl ?_
    refine s_q (by (first | exact y_pickT rfl rfl | exact y_pickF rfl rfl)) rfl ?_
    refine s_done ?_
    refine s_condT2 rfl (by with_reducible rfl) ?_
    refine s_seq ?_
    refine s_region ?_
    refine s_q (y_assign rfl) rfl ?_
    refine s_done ?_
    exact s_return ⟨by rw [hmF (fun x => by omega)], rfl⟩ (res_tmp Try.results41 rfl)
  by_cases h6 : m.regs ≤ m.ret
  · refine s_region ?_
    refine s_q (by (first | exact y_fieldAddrB rfl rfl rfl rfl rfl rfl | exact y_fieldAddr rfl rfl rfl rfl rfl rfl)) rfl ?_
    refine s_q (by (first | exact y_ld rfl rfl rfl (by rfl) | exact y_ldN rfl rfl rfl (by rfl) | exact y_ldK rfl rfl rfl rfl (by assumption) (by omega) | exact y_ldI rfl rfl rfl rfl (by assumption) (by omega) (by omega))) rfl ?_
    refine s_q (by (first | exact y_as (y_lss (n := 1) rfl rfl) (congrArg Value.bool (decide_eq_false h1)) | exact y_as (y_lss (n := 0) rfl rfl) (congrArg Value.bool (decide_eq_false h5)) | exact y_lss rfl rfl)) rfl ?_
    refine s_q (y_move rfl) rfl ?_
    refine s_guard2 rfl rfl (by with_reducible rfl) ?_
    refine s_q (by (first | exact y_fieldAddrB rfl rfl rfl rfl rfl rfl | exact y_fieldAddr rfl rfl rfl rfl rfl rfl)) rfl ?_
    refine s_guard2 rfl rfl (by with_reducible rfl) ?_
    refine s_q (by (first | exact y_ld rfl rfl rfl (by rfl) | exact y_ldN rfl rfl rfl (by rfl) | exact y_ldK rfl rfl rfl rfl (by assumption) (by omega) | exact y_ldI rfl rfl rfl rfl (by assumption) (by omega) (by omega))) rfl ?_
    refine s_guard2 rfl rfl (by with_reducible rfl) ?_
    refine s_q (by (first | exact y_as (y_gtr rfl rfl) (congrArg Value.bool (decide_eq_false h2)) | exact y_as (y_gtr rfl rfl) (congrArg Value.bool (decide_eq_false h3)) | exact y_as (y_gtr rfl rfl) (congrArg Value.bool (decide_eq_false h4)) | exact y_gtr rfl rfl)) rfl ?_
    refine s_q (by (first | exact y_pickT rfl rfl | exact y_pickF rfl rfl)) rfl ?_
    refine s_q (y_move rfl) rfl ?_
    refine s_guard2 rfl rfl (by with_reducible rfl) ?_
    refine s_q (by (first | exact y_fieldAddrB rfl rfl rfl rfl rfl rfl | exact y_fieldAddr rfl rfl rfl rfl rfl rfl)) rfl ?_
    refine s_guard2 rfl rfl (by with_reducible rfl) ?_
    refine s_q (by (first | exact y_ld rfl rfl rfl (by rfl) | exact y_ldN rfl rfl rfl (by rfl) | exact y_ldK rfl rfl rfl rfl (by assumption) (by omega) | exact y_ldI rfl rfl rfl rfl (by assumption) (by omega) (by omega))) rfl ?_
    refine s_guard2 rfl rfl (by with_reducible rfl) ?_
    refine s_q (y_lenS rfl rfl rfl) rfl ?_
    refine s_guard2 rfl rfl (by with_reducible rfl) ?_
    refine s_q (by (first | exact y_as (y_gtr rfl rfl) (congrArg Value.bool (decide_eq_false h2)) | exact y_as (y_gtr rfl rfl) (congrArg Value.bool (decide_eq_false h3)) | exact y_as (y_gtr rfl rfl) (congrArg Value.bool (decide_eq_false h4)) | exact y_gtr rfl rfl)) rfl ?_
    refine s_q (by (first | exact y_pickT rfl rfl | exact y_pickF rfl rfl)) rfl ?_
    refine s_q (y_move rfl) rfl ?_
    refine s_guard2 rfl rfl (by with_reducible rfl) ?_
    refine s_q (by (first | exact y_fieldAddrB rfl rfl rfl rfl rfl rfl | exact y_fieldAddr rfl rfl rfl rfl rfl rfl)) rfl ?_
    refine s_guard2 rfl rfl (by with_reducible rfl) ?_
    refine s_q (by (first | exact y_ld rfl rfl rfl (by rfl) | exact y_ldN rfl rfl rfl (by rfl) | exact y_ldK rfl rfl rfl rfl (by assumption) (by omega) | exact y_ldI rfl rfl rfl rfl (by assumption) (by omega) (by omega))) rfl ?_
    refine s_guard2 rfl rfl (by with_reducible rfl) ?_
    refine s_q (y_lenS rfl rfl rfl) rfl ?_
    refine s_guard2 rfl rfl (by with_reducible rfl) ?_
    refine s_q (by (first | exact y_fieldAddrB rfl rfl rfl rfl rfl rfl | exact y_fieldAddr rfl rfl rfl rfl rfl rfl)) rfl ?_
    refine s_guard2 rfl rfl (by with_reducible rfl) ?_
    refine s_q (by (first | exact y_ld rfl rfl rfl (by rfl) | exact y_ldN rfl rfl rfl (by rfl) | exact y_ldK rfl rfl rfl rfl (by assumption) (by omega) | exact y_ldI rfl rfl rfl rfl (by assumption) (by omega) (by omega))) rfl ?_
    refine s_guard2 rfl rfl (by with_reducible rfl) ?_
    refine s_q (by (first | exact y_as (y_gtr rfl rfl) (congrArg Value.bool (decide_eq_false h2)) | exact y_as (y_gtr rfl rfl) (congrArg Value.bool (decide_eq_false h3)) | exact y_as (y_gtr rfl rfl) (congrArg Value.bool (decide_eq_false h4)) | exact y_gtr rfl rfl)) rfl ?_
    refine s_q (by (first | exact y_pickT rfl rfl | exact y_pickF rfl rfl)) rfl ?_
    refine s_q (y_move rfl) rfl ?_
    refine s_guard2 rfl rfl (by with_reducible rfl) ?_
    refine s_q (by (first | exact y_fieldAddrB rfl rfl rfl rfl rfl rfl | exact y_fieldAddr rfl rfl rfl rfl rfl rfl)) rfl ?_
    refine s_guard2 rfl rfl (by with_reducible rfl) ?_
    refine s_q (by (first | exact y_ld rfl rfl rfl (by rfl) | exact y_ldN rfl rfl rfl (by rfl) | exact y_ldK rfl rfl rfl rfl (by assumption) (by omega) | exact y_ldI rfl rfl rfl rfl (by assumption) (by omega) (by omega))) rfl ?_
    refine s_guard2 rfl rfl (by with_reducible rfl) ?_
    refine s_q (by (first | exact y_as (y_lss (n := 1) rfl rfl) (congrArg Value.bool (decide_eq_false h1)) | exact y_as (y_lss (n := 0) rfl rfl) (congrArg Value.bool (decide_eq_false h5)) | exact y_lss rfl rfl)) rfl ?_
    refine s_q (by (first | exact y_pickT rfl rfl | exact y_pickF rfl rfl)) rfl ?_
    refine s_q (y_move rfl) rfl ?_
    refine s_guard2 rfl rfl (by with_reducible rfl) ?_
    refine s_q (by (first | exact y_fieldAddrB rfl rfl rfl rfl rfl rfl | exact y_fieldAddr rfl rfl rfl rfl rfl rfl)) rfl ?_
    refine s_guard2 rfl rfl (by with_reducible rfl) ?_
    refine s_q (by (first | exact y_ld rfl rfl rfl (by rfl) | exact y_ldN rfl rfl rfl (by rfl) | exact y_ldK rfl rfl rfl rfl (by assumption) (by omega) | exact y_ldI rfl rfl rfl rfl (by assumption) (by omega) (by omega))) rfl ?_
    refine s_guard2 rfl rfl (by with_reducible rfl) ?_
    refine s_q (by (first | exact y_fieldAddrB rfl rfl rfl rfl rfl rfl | exact y_fieldAddr rfl rfl rfl rfl rfl rfl)) rfl ?_
    refine s_guard2 rfl rfl (by with_reducible rfl) ?_
    refine s_q (by (first | exact y_ld rfl rfl rfl (by rfl) | exact y_ldN rfl rfl rfl (by rfl) | exact y_ldK rfl rfl rfl rfl (by assumption) (by omega) | exact y_ldI rfl rfl rfl rfl (by assumption) (by omega) (by omega))) rfl ?_
    refine s_guard2 rfl rfl (by with_reducible rfl) ?_
    refine s_q (by (first | exact y_as (y_geq rfl rfl) (congrArg Value.bool (decide_eq_true h6)) | exact y_geq rfl rfl)) rfl ?_
    refine s_q (by (first | exact y_pickT rfl rfl | exact y_pickF rfl rfl)) rfl ?_
    refine s_q (y_move rfl) rfl ?_
    refine s_unguard2 (b := true) rfl rfl (by with_reducible rfl) rfl rfl ?_
    refine s_unguard2 (b := true) rfl rfl (by with_reducible rfl) rfl rfl ?_
    refine s_unguard2 (b := true) rfl rfl (by with_reducible rfl) rfl rfl ?_
    refine s_unguard2 (b := true) rfl rfl (by with_reducible rfl) rfl rfl ?_
    refine s_unguard2 (b := true) rfl rfl (by with_reducible rfl) rfl rfl ?_
    refine s_q (by (first | exact y_pickT rfl rfl | exact y_pickF rfl rfl)) rfl ?_
    refine s_done ?_
    refine s_condT2 rfl (by with_reducible rfl) ?_
    refine s_seq ?_
    refine s_region ?_
    refine s_q (y_assign rfl) rfl ?_
    refine s_done ?_
    exact s_return ⟨by rw [hmF (fun x => by omega)], rfl⟩ (res_tmp Try.results41 rfl)
  refine s_region ?_
  refine s_q (by (first | exact y_fieldAddrB rfl rfl rfl rfl rfl rfl | exact y_fieldAddr rfl rfl rfl rfl rfl rfl)) rfl ?_
  refine s_q (by (first | exact y_ld rfl rfl rfl (by rfl) | exact y_ldN rfl rfl rfl (by rfl) | exact y_ldK rfl rfl rfl rfl (by assumption) (by omega) | exact y_ldI rfl rfl rfl rfl (by assumption) (by omega) (by omega))) rfl ?_
  refine s_q (by (first | exact y_as (y_lss (n := 1) rfl rfl) (congrArg Value.bool (decide_eq_false h1)) | exact y_as (y_lss (n := 0) rfl rfl) (congrArg Value.bool (decide_eq_false h5)) | exact y_lss rfl rfl)) rfl ?_
  refine s_q (y_move rfl) rfl ?_
  refine s_guard2 rfl rfl (by with_reducible rfl) ?_
  refine s_q (by (first | exact y_fieldAddrB rfl rfl rfl rfl rfl rfl | exact y_fieldAddr rfl rfl rfl rfl rfl rfl)) rfl ?_
  refine s_guard2 rfl rfl (by with_reducible rfl) ?_
  refine s_q (by (first | exact y_ld rfl rfl rfl (by rfl) | exact y_ldN rfl rfl rfl (by rfl) | exact y_ldK rfl rfl rfl rfl (by assumption) (by omega) | exact y_ldI rfl rfl rfl rfl (by assumption) (by omega) (by omega))) rfl ?_
  refine s_guard2 rfl rfl (by with_reducible rfl) ?_
  refine s_q (by (first | exact y_as (y_gtr rfl rfl) (congrArg Value.bool (decide_eq_false h2)) | exact y_as (y_gtr rfl rfl) (congrArg Value.bool (decide_eq_false h3)) | exact y_as (y_gtr rfl rfl) (congrArg Value.bool (decide_eq_false h4)) | exact y_gtr rfl rfl)) rfl ?_
  refine s_q (by (first | exact y_pickT rfl rfl | exact y_pickF rfl rfl)) rfl ?_
  refine s_q (y_move rfl) rfl ?_
  refine s_guard2 rfl rfl (by with_reducible rfl) ?_
  refine s_q (by (first | exact y_fieldAddrB rfl rfl rfl rfl rfl rfl | exact y_fieldAddr rfl rfl rfl rfl rfl rfl)) rfl ?_
  refine s_guard2 rfl rfl (by with_reducible rfl) ?_
  refine s_q (by (first | exact y_ld rfl rfl rfl (by rfl) | exact y_ldN rfl rfl rfl (by rfl) | exact y_ldK rfl rfl rfl rfl (by assumption) (by omega) | exact y_ldI rfl rfl rfl rfl (by assumption) (by omega) (by omega))) rfl ?_
  refine s_guard2 rfl rfl (by with_reducible rfl) ?_
  refine s_q (y_lenS rfl rfl rfl) rfl ?_
  refine s_guard2 rfl rfl (by with_reducible rfl) ?_
  refine s_q (by (first | exact y_as (y_gtr rfl rfl) (congrArg Value.bool (decide_eq_false h2)) | exact y_as (y_gtr rfl rfl) (congrArg Value.bool (decide_eq_false h3)) | exact y_as (y_gtr rfl rfl) (congrArg Value.bool (decide_eq_false h4)) | exact y_gtr rfl rfl)) rfl ?_
  refine s_q (by (first | exact y_pickT rfl rfl | exact y_pickF rfl rfl)) rfl ?_
  refine s_q (y_move rfl) rfl ?_
  refine s_guard2 rfl rfl (by with_reducible rfl) ?_
  refine s_q (by (first | exact y_fieldAddrB rfl rfl rfl rfl rfl rfl | exact y_fieldAddr rfl rfl rfl rfl rfl rfl)) rfl ?_
  refine s_guard2 rfl rfl (by with_reducible rfl) ?_
  refine s_q (by (first | exact y_ld rfl rfl rfl (by rfl) | exact y_ldN rfl rfl rfl (by rfl) | exact y_ldK rfl rfl rfl rfl (by assumption) (by omega) | exact y_ldI rfl rfl rfl rfl (by assumption) (by omega) (by omega))) rfl ?_
  refine s_guard2 rfl rfl (by with_reducible rfl) ?_
  refine s_q (y_lenS rfl rfl rfl) rfl ?_
  refine s_guard2 rfl rfl (by with_reducible rfl) ?_
  refine s_q (by (first | exact y_fieldAddrB rfl rfl rfl rfl rfl rfl | exact y_fieldAddr rfl rfl rfl rfl rfl rfl)) rfl ?_
  refine s_guard2 rfl rfl (by with_reducible rfl) ?_
  refine s_q (by (first | exact y_ld rfl rfl rfl (by rfl) | exact y_ldN rfl rfl rfl (by rfl) | exact y_ldK rfl rfl rfl rfl (by assumption) (by omega) | exact y_ldI rfl rfl rfl rfl (by assumption) (by omega) (by omega))) rfl ?_
  refine s_guard2 rfl rfl (by with_reducible rfl) ?_
  refine s_q (by (first | exact y_as (y_gtr rfl rfl) (congrArg Value.bool (decide_eq_false h2)) | exact y_as (y_gtr rfl rfl) (congrArg Value.bool (decide_eq_false h3)) | exact y_as (y_gtr rfl rfl) (congrArg Value.bool (decide_eq_false h4)) | exact y_gtr rfl rfl)) rfl ?_
  refine s_q (by (first | exact y_pickT rfl rfl | exact y_pickF rfl rfl)) rfl ?_
  refine s_q (y_move rfl) rfl ?_
  refine s_guard2 rfl rfl (by with_reducible rfl) ?_
  refine s_q (by (first | exact y_fieldAddrB rfl rfl rfl rfl rfl rfl | exact y_fieldAddr rfl rfl rfl rfl rfl rfl)) rfl ?_
  refine s_guard2 rfl rfl (by with_reducible rfl) ?_
  refine s_q (by (first | exact y_ld rfl rfl rfl (by rfl) | exact y_ldN rfl rfl rfl (by rfl) | exact y_ldK rfl rfl rfl rfl (by assumption) (by omega) | exact y_ldI rfl rfl rfl rfl (by assumption) (by omega) (by omega))) rfl ?_
  refine s_guard2 rfl rfl (by with_reducible rfl) ?_
  refine s_q (by (first | exact y_as (y_lss (n := 1) rfl rfl) (congrArg Value.bool (decide_eq_false h1)) | exact y_as (y_lss (n := 0) rfl rfl) (congrArg Value.bool (decide_eq_false h5)) | exact y_lss rfl rfl)) rfl ?_
  refine s_q (by (first | exact y_pickT rfl rfl | exact y_pickF rfl rfl)) rfl ?_
  refine s_q (y_move rfl) rfl ?_
  refine s_guard2 rfl rfl (by with_reducible rfl) ?_
  refine s_q (by (first | exact y_fieldAddrB rfl rfl rfl rfl rfl rfl | exact y_fieldAddr rfl rfl rfl rfl rfl rfl)) rfl ?_
  refine s_guard2 rfl rfl (by with_reducible rfl) ?_
  refine s_q (by (first | exact y_ld rfl rfl rfl (by rfl) | exact y_ldN rfl rfl rfl (by rfl) | exact y_ldK rfl rfl rfl rfl (by assumption) (by omega) | exact y_ldI rfl rfl rfl rfl (by assumption) (by omega) (by omega))) rfl ?_
  refine s_guard2 rfl rfl (by with_reducible rfl) ?_
  refine s_q (by (first | exact y_fieldAddrB rfl rfl rfl rfl rfl rfl | exact y_fieldAddr rfl rfl rfl rfl rfl rfl)) rfl ?_
  refine s_guard2 rfl rfl (by with_reducible rfl) ?_
  refine s_q (by (first | exact y_ld rfl rfl rfl (by rfl) | exact y_ldN rfl rfl rfl (by rfl) | exact y_ldK rfl rfl rfl rfl (by assumption) (by omega) | exact y_ldI rfl rfl rfl rfl (by assumption) (by omega) (by omega))) rfl ?_
  refine s_guard2 rfl rfl (by with_reducible rfl) ?_
  refine s_q (by (first | exact y_as (y_geq rfl rfl) (congrArg Value.bool (decide_eq_false h6)) | exact y_geq rfl rfl)) rfl ?_
  refine s_q (by (first | exact y_pickT rfl rfl | exact y_pickF rfl rfl)) rfl ?_
  refine s_q (y_move rfl) rfl ?_
  refine s_guard2 rfl rfl (by with_reducible rfl) ?_
  refine s_q (by (first | exact y_fieldAddrB rfl rfl rfl rfl rfl rfl | exact y_fieldAddr rfl rfl rfl rfl rfl rfl)) rfl ?_
  refine s_guard2 rfl rfl (by with_reducible rfl) ?_
  refine s_q (by (first | exact y_ld rfl rfl rfl (by rfl) | exact y_ldN rfl rfl rfl (by rfl) | exact y_ldK rfl rfl rfl rfl (by assumption) (by omega) | exact y_ldI rfl rfl rfl rfl (by assumption) (by omega) (by omega))) rfl ?_
  refine s_guard2 rfl rfl (by with_reducible rfl) ?_
  refine s_q (by (first | exact y_fieldAddrB rfl rfl rfl rfl rfl rfl | exact y_fieldAddr rfl rfl rfl rfl rfl rfl)) rfl ?_
  refine s_guard2 rfl rfl (by with_reducible rfl) ?_
  refine s_q (by (first | exact y_ld rfl rfl rfl (by rfl) | exact y_ldN rfl rfl rfl (by rfl) | exact y_ldK rfl rfl rfl rfl (by assumption) (by omega) | exact y_ldI rfl rfl rfl rfl (by assumption) (by omega) (by omega))) rfl ?_
  refine s_guard2 rfl rfl (by with_reducible rfl) ?_
  refine s_call (pre := []) (rem := _) rfl rfl tk (fun w N ho hl => refHas5_spec w N B d m.saved.length m.saved m.ret rfl ho (hs.of hl) (by omega)) rfl ?_
  rintro e L' ⟨rfl, rfl⟩
  try simp only [List.nil_append, List.cons_append, List.append_nil]
  by_cases h7 : m.ret ∈ m.saved
  · rw [decide_eq_true h7]
    refine s_q (by (first | exact y_pickT rfl rfl | exact y_pickF rfl rfl)) rfl ?_
    refine s_done ?_
    refine s_condT2 rfl (by with_reducible rfl) ?_
    refine s_seq ?_
    refine s_region ?_
    refine s_q (y_assign rfl) rfl ?_
    refine s_done ?_
    exact s_return ⟨by rw [hmF (fun x => x.2.2.2.1 h7)], rfl⟩ (res_tmp Try.results41 rfl)
  rw [decide_eq_false h7]
  refine s_q (by (first | exact y_pickT rfl rfl | exact y_pickF rfl rfl)) rfl ?_
  refine s_done ?_
  refine s_condF2 rfl (by with_reducible rfl) ?_
  refine s_skip ?_
  refine s_seq ?_
  refine s_seq ?_
  refine s_region ?_
  refine s_q (y_assign rfl) rfl ?_
  refine s_done ?_
  refine s_block ?_
  refine s_loopV (σ := Nat) (fun s => [(3, .int .i64 s)]) (fun s => []) (fun s => (s ≤ m.args.length) ∧ (setOK m.regs (m.args.take s) = true)) (fun s => m.args.length - s) (0) [(1, _)] ⟨rfl, trivial⟩ ⟨rfl, trivial⟩ tk ⟨Nat.zero_le _, by simp [setOK]⟩ ?_
  rintro k ⟨hk, hst⟩
  try dsimp only [List.cons_append, List.nil_append, List.append_nil] at hk hst ⊢
  refine s_seq ?_
  refine s_seq ?_
  refine s_region ?_
  refine s_q (y_move rfl) rfl ?_
  refine s_q (by (first | exact y_fieldAddrB rfl rfl rfl rfl rfl rfl | exact y_fieldAddr rfl rfl rfl rfl rfl rfl)) rfl ?_
  refine s_q (by (first | exact y_ld rfl rfl rfl (by rfl) | exact y_ldN rfl rfl rfl (by rfl) | exact y_ldK rfl rfl rfl rfl (by assumption) (by omega) | exact y_ldI rfl rfl rfl rfl (by assumption) (by omega) (by omega))) rfl ?_
  refine s_q (y_lenS rfl rfl rfl) rfl ?_
  refine s_q (y_lss rfl rfl) rfl ?_
  refine s_done ?_
  refine s_cond rfl (fun hc => ?_) (fun hc => ?_)
  · have hkl : k < m.args.length := by omega
    have hts := takeS hkl
    have bad : ¬ (0 ≤ m.args.getD k 0 ∧ m.args.getD k 0 < m.regs ∧ m.args.getD k 0 ∉ m.args.take k) → machOK m = false := fun x => hmF fun y => by
      have := setOK_take (k + 1) y.1
      rw [hts] at this
      exact x (setOK_snoc.1 this).2
    refine s_skip ?_
    refine s_seq ?_
    refine s_block ?_
    refine s_seq ?_
    by_cases g1 : m.args.getD k 0 < 0
    · skip
      refine d_start ?_
      refine d_take 0 rfl (by kernel_rfl) (by (first | exact y_fieldAddrB rfl rfl rfl rfl rfl rfl | exact y_fieldAddr rfl rfl rfl rfl rfl rfl)) rfl ?_
      refine d_take 1 rfl (by kernel_rfl) (by (first | exact y_ldK rfl rfl rfl rfl ha (by omega) | exact y_ld rfl rfl rfl (by rfl) | exact y_ldN rfl rfl rfl (by rfl) | exact y_ldK rfl rfl rfl rfl (by assumption) (by omega) | exact y_ldI rfl rfl rfl rfl (by assumption) (by omega) (by omega))) rfl ?_
      refine d_take 2 rfl (by kernel_rfl) (by exact y_move rfl) rfl ?_
      refine d_take 3 rfl (by kernel_rfl) (by (first | exact y_ixI rfl rfl rfl rfl rfl ha rfl (by omega) (by omega) | exact y_ixI rfl rfl rfl rfl rfl (by assumption) rfl (by omega) (by omega))) rfl ?_
      refine d_take 4 rfl (by kernel_rfl) (by (first | exact y_ldK rfl rfl rfl rfl ha (by omega) | exact y_ld rfl rfl rfl (by rfl) | exact y_ldN rfl rfl rfl (by rfl) | exact y_ldK rfl rfl rfl rfl (by assumption) (by omega) | exact y_ldI rfl rfl rfl rfl (by assumption) (by omega) (by omega))) rfl ?_
      refine d_take 5 rfl (by kernel_rfl) (by (first | exact y_as (y_lss rfl rfl) (congrArg Value.bool (decide_eq_true g1)) | exact y_lss rfl rfl)) rfl ?_
      refine d_take 6 rfl (by kernel_rfl) (by exact y_move rfl) rfl ?_
      refine d_skip 7 rfl (by kernel_rfl) (fun c e => by cases e) rfl rfl rfl rfl ?_
      refine d_skip 8 rfl (by kernel_rfl) (fun c e => by cases e) rfl rfl rfl rfl ?_
      refine d_skip 9 rfl (by kernel_rfl) (fun c e => by cases e) rfl rfl rfl rfl ?_
      refine d_skip 10 rfl (by kernel_rfl) (fun c e => by cases e) rfl rfl rfl rfl ?_
      refine d_skip 11 rfl (by kernel_rfl) (fun c e => by cases e) rfl rfl rfl rfl ?_
      refine d_skip 12 rfl (by kernel_rfl) (fun c e => by cases e) rfl rfl rfl rfl ?_
      refine d_skip 13 rfl (by kernel_rfl) (fun c e => by cases e) rfl rfl rfl rfl ?_
      refine d_skip 14 rfl (by kernel_rfl) (fun c e => by cases e) rfl rfl rfl rfl ?_
      refine d_take 15 rfl (by kernel_rfl) (by (first | exact y_pickT rfl rfl | exact y_pickF rfl rfl)) rfl ?_
      refine d_take 16 rfl (by kernel_rfl) (by exact y_move rfl) rfl ?_
      refine d_skip 17 rfl (by kernel_rfl) (fun c e => by cases e) rfl rfl rfl rfl ?_
      refine d_skip 18 rfl (by kernel_rfl) (fun c e => by cases e) rfl rfl rfl rfl ?_
      refine d_skip 19 rfl (by kernel_rfl) (fun c e => by cases e) rfl rfl rfl rfl ?_
      refine d_skip 20 rfl (by kernel_rfl) (fun c e => by cases e) rfl rfl rfl rfl ?_
      refine d_skip 21 rfl (by kernel_rfl) (fun c e => by cases e) rfl rfl rfl rfl ?_
      refine d_skip 22 rfl (by kernel_rfl) (fun c e => by cases e) rfl rfl rfl rfl ?_
      refine d_skip 23 rfl (by kernel_rfl) (fun c e => by cases e) rfl rfl rfl rfl ?_
      refine d_skip 24 rfl (by kernel_rfl) (fun c e => by cases e) rfl rfl rfl rfl ?_
      refine d_skip 25 rfl (by kernel_rfl) (fun c e => by cases e) rfl rfl rfl rfl ?_
      refine d_skip 26 rfl (by kernel_rfl) (fun c e => by cases e) rfl rfl rfl rfl ?_
      refine d_take 27 rfl (by kernel_rfl) (by (first | exact y_pickT rfl rfl | exact y_pickF rfl rfl)) rfl ?_
      refine d_done (by kernel_rfl) ?_
      refine s_condT2 rfl (by with_reducible rfl) ?_
      refine s_seq ?_
      refine s_region ?_
      refine s_q (y_assign rfl) rfl ?_
      refine s_done ?_
      exact s_return ⟨by rw [bad (fun x => by omega)], rfl⟩ (res_tmp Try.results41 rfl)
    by_cases g2 : m.regs ≤ m.args.getD k 0
    · skip
      refine d_start ?_
      refine d_take 0 rfl (by kernel_rfl) (by (first | exact y_fieldAddrB rfl rfl rfl rfl rfl rfl | exact y_fieldAddr rfl rfl rfl rfl rfl rfl)) rfl ?_
      refine d_take 1 rfl (by kernel_rfl) (by (first | exact y_ldK rfl rfl rfl rfl ha (by omega) | exact y_ld rfl rfl rfl (by rfl) | exact y_ldN rfl rfl rfl (by rfl) | exact y_ldK rfl rfl rfl rfl (by assumption) (by omega) | exact y_ldI rfl rfl rfl rfl (by assumption) (by omega) (by omega))) rfl ?_
      refine d_take 2 rfl (by kernel_rfl) (by exact y_move rfl) rfl ?_
      refine d_take 3 rfl (by kernel_rfl) (by (first | exact y_ixI rfl rfl rfl rfl rfl ha rfl (by omega) (by omega) | exact y_ixI rfl rfl rfl rfl rfl (by assumption) rfl (by omega) (by omega))) rfl ?_
      refine d_take 4 rfl (by kernel_rfl) (by (first | exact y_ldK rfl rfl rfl rfl ha (by omega) | exact y_ld rfl rfl rfl (by rfl) | exact y_ldN rfl rfl rfl (by rfl) | exact y_ldK rfl rfl rfl rfl (by assumption) (by omega) | exact y_ldI rfl rfl rfl rfl (by assumption) (by omega) (by omega))) rfl ?_
      refine d_take 5 rfl (by kernel_rfl) (by (first | exact y_as (y_lss rfl rfl) (congrArg Value.bool (decide_eq_false g1)) | exact y_lss rfl rfl)) rfl ?_
      refine d_take 6 rfl (by kernel_rfl) (by exact y_move rfl) rfl ?_
      refine d_takeG 7 rfl (by kernel_rfl) rfl rfl (by (first | exact y_fieldAddrB rfl rfl rfl rfl rfl rfl | exact y_fieldAddr rfl rfl rfl rfl rfl rfl)) rfl ?_
      refine d_takeG 8 rfl (by kernel_rfl) rfl rfl (by (first | exact y_ldK rfl rfl rfl rfl ha (by omega) | exact y_ld rfl rfl rfl (by rfl) | exact y_ldN rfl rfl rfl (by rfl) | exact y_ldK rfl rfl rfl rfl (by assumption) (by omega) | exact y_ldI rfl rfl rfl rfl (by assumption) (by omega) (by omega))) rfl ?_
      refine d_takeG 9 rfl (by kernel_rfl) rfl rfl (by exact y_move rfl) rfl ?_
      refine d_takeG 10 rfl (by kernel_rfl) rfl rfl (by (first | exact y_ixI rfl rfl rfl rfl rfl ha rfl (by omega) (by omega) | exact y_ixI rfl rfl rfl rfl rfl (by assumption) rfl (by omega) (by omega))) rfl ?_
      refine d_takeG 11 rfl (by kernel_rfl) rfl rfl (by (first | exact y_ldK rfl rfl rfl rfl ha (by omega) | exact y_ld rfl rfl rfl (by rfl) | exact y_ldN rfl rfl rfl (by rfl) | exact y_ldK rfl rfl rfl rfl (by assumption) (by omega) | exact y_ldI rfl rfl rfl rfl (by assumption) (by omega) (by omega))) rfl ?_
      refine d_takeG 12 rfl (by kernel_rfl) rfl rfl (by (first | exact y_fieldAddrB rfl rfl rfl rfl rfl rfl | exact y_fieldAddr rfl rfl rfl rfl rfl rfl)) rfl ?_
      refine d_takeG 13 rfl (by kernel_rfl) rfl rfl (by (first | exact y_ldK rfl rfl rfl rfl ha (by omega) | exact y_ld rfl rfl rfl (by rfl) | exact y_ldN rfl rfl rfl (by rfl) | exact y_ldK rfl rfl rfl rfl (by assumption) (by omega) | exact y_ldI rfl rfl rfl rfl (by assumption) (by omega) (by omega))) rfl ?_
      refine d_takeG 14 rfl (by kernel_rfl) rfl rfl (by (first | exact y_as (y_geq rfl rfl) (congrArg Value.bool (decide_eq_true g2)) | exact y_geq rfl rfl)) rfl ?_
      refine d_take 15 rfl (by kernel_rfl) (by (first | exact y_pickT rfl rfl | exact y_pickF rfl rfl)) rfl ?_
      refine d_take 16 rfl (by kernel_rfl) (by exact y_move rfl) rfl ?_
      refine d_skip 17 rfl (by kernel_rfl) (fun c e => by cases e) rfl rfl rfl rfl ?_
      refine d_skip 18 rfl (by kernel_rfl) (fun c e => by cases e) rfl rfl rfl rfl ?_
      refine d_skip 19 rfl (by kernel_rfl) (fun c e => by cases e) rfl rfl rfl rfl ?_
      refine d_skip 20 rfl (by kernel_rfl) (fun c e => by cases e) rfl rfl rfl rfl ?_
      refine d_skip 21 rfl (by kernel_rfl) (fun c e => by cases e) rfl rfl rfl rfl ?_
      refine d_skip 22 rfl (by kernel_rfl) (fun c e => by cases e) rfl rfl rfl rfl ?_
      refine d_skip 23 rfl (by kernel_rfl) (fun c e => by cases e) rfl rfl rfl rfl ?_
      refine d_skip 24 rfl (by kernel_rfl) (fun c e => by cases e) rfl rfl rfl rfl ?_
      refine d_skip 25 rfl (by kernel_rfl) (fun c e => by cases e) rfl rfl rfl rfl ?_
      refine d_skip 26 rfl (by kernel_rfl) (fun c e => by cases e) rfl rfl rfl rfl ?_
      refine d_take 27 rfl (by kernel_rfl) (by (first | exact y_pickT rfl rfl | exact y_pickF rfl rfl)) rfl ?_
      refine d_done (by kernel_rfl) ?_
      refine s_condT2 rfl (by with_reducible rfl) ?_
      refine s_seq ?_
      refine s_region ?_
      refine s_q (y_assign rfl) rfl ?_
      refine s_done ?_
      exact s_return ⟨by rw [bad (fun x => by omega)], rfl⟩ (res_tmp Try.results41 rfl)
    refine d_start ?_
    refine d_take 0 rfl (by kernel_rfl) (by (first | exact y_fieldAddrB rfl rfl rfl rfl rfl rfl | exact y_fieldAddr rfl rfl rfl rfl rfl rfl)) rfl ?_
    refine d_take 1 rfl (by kernel_rfl) (by (first | exact y_ldK rfl rfl rfl rfl ha (by omega) | exact y_ld rfl rfl rfl (by rfl) | exact y_ldN rfl rfl rfl (by rfl) | exact y_ldK rfl rfl rfl rfl (by assumption) (by omega) | exact y_ldI rfl rfl rfl rfl (by assumption) (by omega) (by omega))) rfl ?_
    refine d_take 2 rfl (by kernel_rfl) (by exact y_move rfl) rfl ?_
    refine d_take 3 rfl (by kernel_rfl) (by (first | exact y_ixI rfl rfl rfl rfl rfl ha rfl (by omega) (by omega) | exact y_ixI rfl rfl rfl rfl rfl (by assumption) rfl (by omega) (by omega))) rfl ?_
    refine d_take 4 rfl (by kernel_rfl) (by (first | exact y_ldK rfl rfl rfl rfl ha (by omega) | exact y_ld rfl rfl rfl (by rfl) | exact y_ldN rfl rfl rfl (by rfl) | exact y_ldK rfl rfl rfl rfl (by assumption) (by omega) | exact y_ldI rfl rfl rfl rfl (by assumption) (by omega) (by omega))) rfl ?_
    refine d_take 5 rfl (by kernel_rfl) (by (first | exact y_as (y_lss rfl rfl) (congrArg Value.bool (decide_eq_false g1)) | exact y_lss rfl rfl)) rfl ?_
    refine d_take 6 rfl (by kernel_rfl) (by exact y_move rfl) rfl ?_
    refine d_takeG 7 rfl (by kernel_rfl) rfl rfl (by (first | exact y_fieldAddrB rfl rfl rfl rfl rfl rfl | exact y_fieldAddr rfl rfl rfl rfl rfl rfl)) rfl ?_
    refine d_takeG 8 rfl (by kernel_rfl) rfl rfl (by (first | exact y_ldK rfl rfl rfl rfl ha (by omega) | exact y_ld rfl rfl rfl (by rfl) | exact y_ldN rfl rfl rfl (by rfl) | exact y_ldK rfl rfl rfl rfl (by assumption) (by omega) | exact y_ldI rfl rfl rfl rfl (by assumption) (by omega) (by omega))) rfl ?_
    refine d_takeG 9 rfl (by kernel_rfl) rfl rfl (by exact y_move rfl) rfl ?_
    refine d_takeG 10 rfl (by kernel_rfl) rfl rfl (by (first | exact y_ixI rfl rfl rfl rfl rfl ha rfl (by omega) (by omega) | exact y_ixI rfl rfl rfl rfl rfl (by assumption) rfl (by omega) (by omega))) rfl ?_
    refine d_takeG 11 rfl (by kernel_rfl) rfl rfl (by (first | exact y_ldK rfl rfl rfl rfl ha (by omega) | exact y_ld rfl rfl rfl (by rfl) | exact y_ldN rfl rfl rfl (by rfl) | exact y_ldK rfl rfl rfl rfl (by assumption) (by omega) | exact y_ldI rfl rfl rfl rfl (by assumption) (by omega) (by omega))) rfl ?_
    refine d_takeG 12 rfl (by kernel_rfl) rfl rfl (by (first | exact y_fieldAddrB rfl rfl rfl rfl rfl rfl | exact y_fieldAddr rfl rfl rfl rfl rfl rfl)) rfl ?_
    refine d_takeG 13 rfl (by kernel_rfl) rfl rfl (by (first | exact y_ldK rfl rfl rfl rfl ha (by omega) | exact y_ld rfl rfl rfl (by rfl) | exact y_ldN rfl rfl rfl (by rfl) | exact y_ldK rfl rfl rfl rfl (by assumption) (by omega) | exact y_ldI rfl rfl rfl rfl (by assumption) (by omega) (by omega))) rfl ?_
    refine d_takeG 14 rfl (by kernel_rfl) rfl rfl (by (first | exact y_as (y_geq rfl rfl) (congrArg Value.bool (decide_eq_false g2)) | exact y_geq rfl rfl)) rfl ?_
    refine d_take 15 rfl (by kernel_rfl) (by (first | exact y_pickT rfl rfl | exact y_pickF rfl rfl)) rfl ?_
    refine d_take 16 rfl (by kernel_rfl) (by exact y_move rfl) rfl ?_
    refine d_takeG 17 rfl (by kernel_rfl) rfl rfl (by (first | exact y_fieldAddrB rfl rfl rfl rfl rfl rfl | exact y_fieldAddr rfl rfl rfl rfl rfl rfl)) rfl ?_
    refine d_takeG 18 rfl (by kernel_rfl) rfl rfl (by (first | exact y_ldK rfl rfl rfl rfl ha (by omega) | exact y_ld rfl rfl rfl (by rfl) | exact y_ldN rfl rfl rfl (by rfl) | exact y_ldK rfl rfl rfl rfl (by assumption) (by omega) | exact y_ldI rfl rfl rfl rfl (by assumption) (by omega) (by omega))) rfl ?_
    refine d_takeG 19 rfl (by kernel_rfl) rfl rfl (by exact y_move rfl) rfl ?_
    refine d_takeG 20 rfl (by kernel_rfl) rfl rfl (by (first | exact y_sliceHi (m := k) rfl rfl rfl (by omega) rfl rfl | exact y_sliceHi rfl rfl rfl (by omega) rfl rfl)) rfl ?_
    refine d_takeG 21 rfl (by kernel_rfl) rfl rfl (by (first | exact y_fieldAddrB rfl rfl rfl rfl rfl rfl | exact y_fieldAddr rfl rfl rfl rfl rfl rfl)) rfl ?_
    refine d_takeG 22 rfl (by kernel_rfl) rfl rfl (by (first | exact y_ldK rfl rfl rfl rfl ha (by omega) | exact y_ld rfl rfl rfl (by rfl) | exact y_ldN rfl rfl rfl (by rfl) | exact y_ldK rfl rfl rfl rfl (by assumption) (by omega) | exact y_ldI rfl rfl rfl rfl (by assumption) (by omega) (by omega))) rfl ?_
    refine d_takeG 23 rfl (by kernel_rfl) rfl rfl (by exact y_move rfl) rfl ?_
    refine d_takeG 24 rfl (by kernel_rfl) rfl rfl (by (first | exact y_ixI rfl rfl rfl rfl rfl ha rfl (by omega) (by omega) | exact y_ixI rfl rfl rfl rfl rfl (by assumption) rfl (by omega) (by omega))) rfl ?_
    refine d_takeG 25 rfl (by kernel_rfl) rfl rfl (by (first | exact y_ldK rfl rfl rfl rfl ha (by omega) | exact y_ld rfl rfl rfl (by rfl) | exact y_ldN rfl rfl rfl (by rfl) | exact y_ldK rfl rfl rfl rfl (by assumption) (by omega) | exact y_ldI rfl rfl rfl rfl (by assumption) (by omega) (by omega))) rfl ?_
    refine d_effM 26 [25, 24, 23, 22, 21, 20, 19, 18, 17, 16, 15, 14, 13, 12, 11, 10, 9, 8, 7, 6, 5, 4, 3, 2, 1, 0] [false, true, true, true, true, false, true, true, true, false, true, true, true, true, true, true, true, true, true, true, true, true, true, true, true, true] rfl (by kernel_rfl) rfl (by kernel_rfl) (fun K hK => ?_)
    refine s_guard rfl rfl ?_
    refine s_call (pre := []) (rem := _) rfl rfl tk (fun w N ho hl => refHas5_spec w N A c k (m.args.take k) (m.args.getD k 0) (by rw [List.length_take]; omega) ho ((ha.take k).of hl) (by rw [List.length_take]; omega)) rfl ?_
    rintro e L' ⟨rfl, rfl⟩
    try simp only [List.nil_append, List.cons_append, List.append_nil]
    refine s_done ?_
    refine hK _ _ (by refine rm_skip ?_; refine rm_yd rfl (by (first | exact y_ixI rfl rfl rfl rfl rfl ha rfl (by omega) (by omega) | exact y_ixI rfl rfl rfl rfl rfl (by assumption) rfl (by omega) (by omega))) ?_; refine rm_yd rfl (by exact y_move rfl) ?_; refine rm_yd rfl (by (first | exact y_ldK rfl rfl rfl rfl ha (by omega) | exact y_ld rfl rfl rfl (by rfl) | exact y_ldN rfl rfl rfl (by rfl) | exact y_ldK rfl rfl rfl rfl (by assumption) (by omega) | exact y_ldI rfl rfl rfl rfl (by assumption) (by omega) (by omega))) ?_; refine rm_yd rfl (by (first | exact y_fieldAddrB rfl rfl rfl rfl rfl rfl | exact y_fieldAddr rfl rfl rfl rfl rfl rfl)) ?_; refine rm_skip ?_; refine rm_yd rfl (by exact y_move rfl) ?_; refine rm_yd rfl (by (first | exact y_ldK rfl rfl rfl rfl ha (by omega) | exact y_ld rfl rfl rfl (by rfl) | exact y_ldN rfl rfl rfl (by rfl) | exact y_ldK rfl rfl rfl rfl (by assumption) (by omega) | exact y_ldI rfl rfl rfl rfl (by assumption) (by omega) (by omega))) ?_; refine rm_yd rfl (by (first | exact y_fieldAddrB rfl rfl rfl rfl rfl rfl | exact y_fieldAddr rfl rfl rfl rfl rfl rfl)) ?_; refine rm_skip ?_; refine rm_yd rfl (by (first | exact y_pickT rfl rfl | exact y_pickF rfl rfl)) ?_; refine rm_yd rfl (by (first | exact y_as (y_geq rfl rfl) (congrArg Value.bool (decide_eq_false g2)) | exact y_geq rfl rfl)) ?_; refine rm_yd rfl (by (first | exact y_ldK rfl rfl rfl rfl ha (by omega) | exact y_ld rfl rfl rfl (by rfl) | exact y_ldN rfl rfl rfl (by rfl) | exact y_ldK rfl rfl rfl rfl (by assumption) (by omega) | exact y_ldI rfl rfl rfl rfl (by assumption) (by omega) (by omega))) ?_; refine rm_yd rfl (by (first | exact y_fieldAddrB rfl rfl rfl rfl rfl rfl | exact y_fieldAddr rfl rfl rfl rfl rfl rfl)) ?_; refine rm_yd rfl (by (first | exact y_ldK rfl rfl rfl rfl ha (by omega) | exact y_ld rfl rfl rfl (by rfl) | exact y_ldN rfl rfl rfl (by rfl) | exact y_ldK rfl rfl rfl rfl (by assumption) (by omega) | exact y_ldI rfl rfl rfl rfl (by assumption) (by omega) (by omega))) ?_; refine rm_yd rfl (by (first | exact y_ixI rfl rfl rfl rfl rfl ha rfl (by omega) (by omega) | exact y_ixI rfl rfl rfl rfl rfl (by assumption) rfl (by omega) (by omega))) ?_; refine rm_yd rfl (by exact y_move rfl) ?_; refine rm_yd rfl (by (first | exact y_ldK rfl rfl rfl rfl ha (by omega) | exact y_ld rfl rfl rfl (by rfl) | exact y_ldN rfl rfl rfl (by rfl) | exact y_ldK rfl rfl rfl rfl (by assumption) (by omega) | exact y_ldI rfl rfl rfl rfl (by assumption) (by omega) (by omega))) ?_; refine rm_yd rfl (by (first | exact y_fieldAddrB rfl rfl rfl rfl rfl rfl | exact y_fieldAddr rfl rfl rfl rfl rfl rfl)) ?_; refine rm_yd rfl (by exact y_move rfl) ?_; refine rm_yd rfl (by (first | exact y_as (y_lss rfl rfl) (congrArg Value.bool (decide_eq_false g1)) | exact y_lss rfl rfl)) ?_; refine rm_yd rfl (by (first | exact y_ldK rfl rfl rfl rfl ha (by omega) | exact y_ld rfl rfl rfl (by rfl) | exact y_ldN rfl rfl rfl (by rfl) | exact y_ldK rfl rfl rfl rfl (by assumption) (by omega) | exact y_ldI rfl rfl rfl rfl (by assumption) (by omega) (by omega))) ?_; refine rm_yd rfl (by (first | exact y_ixI rfl rfl rfl rfl rfl ha rfl (by omega) (by omega) | exact y_ixI rfl rfl rfl rfl rfl (by assumption) rfl (by omega) (by omega))) ?_; refine rm_yd rfl (by exact y_move rfl) ?_; refine rm_yd rfl (by (first | exact y_ldK rfl rfl rfl rfl ha (by omega) | exact y_ld rfl rfl rfl (by rfl) | exact y_ldN rfl rfl rfl (by rfl) | exact y_ldK rfl rfl rfl rfl (by assumption) (by omega) | exact y_ldI rfl rfl rfl rfl (by assumption) (by omega) (by omega))) ?_; refine rm_yd rfl (by (first | exact y_fieldAddrB rfl rfl rfl rfl rfl rfl | exact y_fieldAddr rfl rfl rfl rfl rfl rfl)) ?_; exact rm_nil) ?_
    clear hK K
    refine d_take 27 rfl (by kernel_rfl) (by (first | exact y_pickT rfl rfl | exact y_pickF rfl rfl)) rfl ?_
    refine d_done (by kernel_rfl) ?_
    by_cases g3 : m.args.getD k 0 ∈ m.args.take k
    · rw [decide_eq_true g3]
      refine s_condT2 rfl (by with_reducible rfl) ?_
      refine s_seq ?_
      refine s_region ?_
      refine s_q (y_assign rfl) rfl ?_
      refine s_done ?_
      exact s_return ⟨by rw [bad (fun x => x.2.2 g3)], rfl⟩ (res_tmp Try.results41 rfl)
    · rw [decide_eq_false g3]
      refine s_condF2 rfl (by with_reducible rfl) ?_
      refine s_skip ?_
      refine s_endb ?_
      refine s_region ?_
      refine s_q (y_move rfl) rfl ?_
      refine s_q (y_add rfl rfl (by omega)) rfl ?_
      refine s_q (y_assign rfl) rfl ?_
      refine s_done ?_
      refine s_inv (k + 1) ⟨(by (try dsimp only); omega), by (try dsimp only); rw [hts]; exact setOK_snoc.2 ⟨hst, by omega, by omega, g3⟩⟩ (by (try dsimp only); omega) ⟨rfl, rfl, trivial⟩ tk
  have hk0 : k = m.args.length := by omega
  subst hk0
  rw [List.take_length] at hst
  refine s_exit rfl ?_
  refine s_seq ?_
  refine s_seq ?_
  refine s_region ?_
  refine s_q (y_assign rfl) rfl ?_
  refine s_done ?_
  refine s_block ?_
  refine s_loopV (σ := Nat) (fun s => [(4, .int .i64 s)]) (fun s => []) (fun s => (s ≤ m.saved.length) ∧ (∀ i, i < s → (0 ≤ m.saved.getD i 0 ∧ m.saved.getD i 0 < m.regs) ∧ (0 < i → m.saved.getD (i - 1) 0 < m.saved.getD i 0))) (fun s => m.saved.length - s) (0) [(1, _)] ⟨rfl, trivial⟩ ⟨rfl, trivial⟩ tk ⟨Nat.zero_le _, fun i hi => absurd hi (Nat.not_lt_zero i)⟩ ?_
  rintro k ⟨hk, hinc⟩
  try dsimp only [List.cons_append, List.nil_append, List.append_nil] at hk hinc ⊢
  refine s_seq ?_
  refine s_seq ?_
  refine s_region ?_
  refine s_q (y_move rfl) rfl ?_
  refine s_q (by (first | exact y_fieldAddrB rfl rfl rfl rfl rfl rfl | exact y_fieldAddr rfl rfl rfl rfl rfl rfl)) rfl ?_
  refine s_q (by (first | exact y_ld rfl rfl rfl (by rfl) | exact y_ldN rfl rfl rfl (by rfl) | exact y_ldK rfl rfl rfl rfl (by assumption) (by omega) | exact y_ldI rfl rfl rfl rfl (by assumption) (by omega) (by omega))) rfl ?_
  refine s_q (y_lenS rfl rfl rfl) rfl ?_
  refine s_q (y_lss rfl rfl) rfl ?_
  refine s_done ?_
  refine s_cond rfl (fun hc => ?_) (fun hc => ?_)
  · have hkl : k < m.saved.length := by omega
    have bad : ¬ ((0 ≤ m.saved.getD k 0 ∧ m.saved.getD k 0 < m.regs) ∧ (0 < k → m.saved.getD (k - 1) 0 < m.saved.getD k 0)) → machOK m = false := fun x => hmF fun y => x (y.2.2.2.2 k hkl)
    have next : ((0 ≤ m.saved.getD k 0 ∧ m.saved.getD k 0 < m.regs) ∧ (0 < k → m.saved.getD (k - 1) 0 < m.saved.getD k 0)) → ∀ i, i < k + 1 → (0 ≤ m.saved.getD i 0 ∧ m.saved.getD i 0 < m.regs) ∧ (0 < i → m.saved.getD (i - 1) 0 < m.saved.getD i 0) := fun x i hi => by
      by_cases e : i = k
      · subst e; exact x
      · exact hinc i (by omega)
    refine s_skip ?_
    refine s_seq ?_
    refine s_block ?_
    refine s_seq ?_
    by_cases g1 : m.saved.getD k 0 < 0
    · skip
      refine d_start ?_
      refine d_take 0 rfl (by kernel_rfl) (by (first | exact y_fieldAddrB rfl rfl rfl rfl rfl rfl | exact y_fieldAddr rfl rfl rfl rfl rfl rfl)) rfl ?_
      refine d_take 1 rfl (by kernel_rfl) (by (first | exact y_ldK rfl rfl rfl rfl hs (by omega) | exact y_ld rfl rfl rfl (by rfl) | exact y_ldN rfl rfl rfl (by rfl) | exact y_ldK rfl rfl rfl rfl (by assumption) (by omega) | exact y_ldI rfl rfl rfl rfl (by assumption) (by omega) (by omega))) rfl ?_
      refine d_take 2 rfl (by kernel_rfl) (by exact y_move rfl) rfl ?_
      refine d_take 3 rfl (by kernel_rfl) (by (first | exact y_ixI rfl rfl rfl rfl rfl hs rfl (by omega) (by omega) | exact y_ixI rfl rfl rfl rfl rfl (by assumption) rfl (by omega) (by omega))) rfl ?_
      refine d_take 4 rfl (by kernel_rfl) (by (first | exact y_ldK rfl rfl rfl rfl hs (by omega) | exact y_ld rfl rfl rfl (by rfl) | exact y_ldN rfl rfl rfl (by rfl) | exact y_ldK rfl rfl rfl rfl (by assumption) (by omega) | exact y_ldI rfl rfl rfl rfl (by assumption) (by omega) (by omega))) rfl ?_
      refine d_take 5 rfl (by kernel_rfl) (by (first | exact y_as (y_lss rfl rfl) (congrArg Value.bool (decide_eq_true g1)) | exact y_lss rfl rfl)) rfl ?_
      refine d_take 6 rfl (by kernel_rfl) (by exact y_move rfl) rfl ?_
      refine d_skip 7 rfl (by kernel_rfl) (fun c e => by cases e) rfl rfl rfl rfl ?_
      refine d_skip 8 rfl (by kernel_rfl) (fun c e => by cases e) rfl rfl rfl rfl ?_
      refine d_skip 9 rfl (by kernel_rfl) (fun c e => by cases e) rfl rfl rfl rfl ?_
      refine d_skip 10 rfl (by kernel_rfl) (fun c e => by cases e) rfl rfl rfl rfl ?_
      refine d_skip 11 rfl (by kernel_rfl) (fun c e => by cases e) rfl rfl rfl rfl ?_
      refine d_skip 12 rfl (by kernel_rfl) (fun c e => by cases e) rfl rfl rfl rfl ?_
      refine d_skip 13 rfl (by kernel_rfl) (fun c e => by cases e) rfl rfl rfl rfl ?_
      refine d_skip 14 rfl (by kernel_rfl) (fun c e => by cases e) rfl rfl rfl rfl ?_
      refine d_take 15 rfl (by kernel_rfl) (by (first | exact y_pickT rfl rfl | exact y_pickF rfl rfl)) rfl ?_
      refine d_take 16 rfl (by kernel_rfl) (by exact y_move rfl) rfl ?_
      refine d_skip 17 rfl (by kernel_rfl) (fun c e => by cases e) rfl rfl rfl rfl ?_
      refine d_skip 18 rfl (by kernel_rfl) (fun c e => by cases e) rfl rfl rfl rfl ?_
      refine d_skip 19 rfl (by kernel_rfl) (fun c e => by cases e) rfl rfl rfl rfl ?_
      refine d_skipU 20 rfl (by kernel_rfl) (fun c e => by cases e) rfl rfl rfl ?_
      refine d_skipU 21 rfl (by kernel_rfl) (fun c e => by cases e) rfl rfl rfl ?_
      refine d_skipU 22 rfl (by kernel_rfl) (fun c e => by cases e) rfl rfl rfl ?_
      refine d_skipU 23 rfl (by kernel_rfl) (fun c e => by cases e) rfl rfl rfl ?_
      refine d_skipU 24 rfl (by kernel_rfl) (fun c e => by cases e) rfl rfl rfl ?_
      refine d_skipU 25 rfl (by kernel_rfl) (fun c e => by cases e) rfl rfl rfl ?_
      refine d_skipU 26 rfl (by kernel_rfl) (fun c e => by cases e) rfl rfl rfl ?_
      refine d_skipU 27 rfl (by kernel_rfl) (fun c e => by cases e) rfl rfl rfl ?_
      refine d_skipU 28 rfl (by kernel_rfl) (fun c e => by cases e) rfl rfl rfl ?_
      refine d_skipU 29 rfl (by kernel_rfl) (fun c e => by cases e) rfl rfl rfl ?_
      refine d_skipU 30 rfl (by kernel_rfl) (fun c e => by cases e) rfl rfl rfl ?_
      refine d_skipU 31 rfl (by kernel_rfl) (fun c e => by cases e) rfl rfl rfl ?_
      refine d_skip 32 rfl (by kernel_rfl) (fun c e => by cases e) rfl rfl rfl rfl ?_
      refine d_take 33 rfl (by kernel_rfl) (by (first | exact y_pickT rfl rfl | exact y_pickF rfl rfl)) rfl ?_
      refine d_done (by kernel_rfl) ?_
      refine s_condT2 rfl (by with_reducible rfl) ?_
      refine s_seq ?_
      refine s_region ?_
      refine s_q (y_assign rfl) rfl ?_
      refine s_done ?_
      exact s_return ⟨by rw [bad (fun x => by omega)], rfl⟩ (res_tmp Try.results41 rfl)
    by_cases g2 : m.regs ≤ m.saved.getD k 0
    · skip
      refine d_start ?_
      refine d_take 0 rfl (by kernel_rfl) (by (first | exact y_fieldAddrB rfl rfl rfl rfl rfl rfl | exact y_fieldAddr rfl rfl rfl rfl rfl rfl)) rfl ?_
      refine d_take 1 rfl (by kernel_rfl) (by (first | exact y_ldK rfl rfl rfl rfl hs (by omega) | exact y_ld rfl rfl rfl (by rfl) | exact y_ldN rfl rfl rfl (by rfl) | exact y_ldK rfl rfl rfl rfl (by assumption) (by omega) | exact y_ldI rfl rfl rfl rfl (by assumption) (by omega) (by omega))) rfl ?_
      refine d_take 2 rfl (by kernel_rfl) (by exact y_move rfl) rfl ?_
      refine d_take 3 rfl (by kernel_rfl) (by (first | exact y_ixI rfl rfl rfl rfl rfl hs rfl (by omega) (by omega) | exact y_ixI rfl rfl rfl rfl rfl (by assumption) rfl (by omega) (by omega))) rfl ?_
      refine d_take 4 rfl (by kernel_rfl) (by (first | exact y_ldK rfl rfl rfl rfl hs (by omega) | exact y_ld rfl rfl rfl (by rfl) | exact y_ldN rfl rfl rfl (by rfl) | exact y_ldK rfl rfl rfl rfl (by assumption) (by omega) | exact y_ldI rfl rfl rfl rfl (by assumption) (by omega) (by omega))) rfl ?_
      refine d_take 5 rfl (by kernel_rfl) (by (first | exact y_as (y_lss rfl rfl) (congrArg Value.bool (decide_eq_false g1)) | exact y_lss rfl rfl)) rfl ?_
      refine d_take 6 rfl (by kernel_rfl) (by exact y_move rfl) rfl ?_
      refine d_takeG 7 rfl (by kernel_rfl) rfl rfl (by (first | exact y_fieldAddrB rfl rfl rfl rfl rfl rfl | exact y_fieldAddr rfl rfl rfl rfl rfl rfl)) rfl ?_
      refine d_takeG 8 rfl (by kernel_rfl) rfl rfl (by (first | exact y_ldK rfl rfl rfl rfl hs (by omega) | exact y_ld rfl rfl rfl (by rfl) | exact y_ldN rfl rfl rfl (by rfl) | exact y_ldK rfl rfl rfl rfl (by assumption) (by omega) | exact y_ldI rfl rfl rfl rfl (by assumption) (by omega) (by omega))) rfl ?_
      refine d_takeG 9 rfl (by kernel_rfl) rfl rfl (by exact y_move rfl) rfl ?_
      refine d_takeG 10 rfl (by kernel_rfl) rfl rfl (by (first | exact y_ixI rfl rfl rfl rfl rfl hs rfl (by omega) (by omega) | exact y_ixI rfl rfl rfl rfl rfl (by assumption) rfl (by omega) (by omega))) rfl ?_
      refine d_takeG 11 rfl (by kernel_rfl) rfl rfl (by (first | exact y_ldK rfl rfl rfl rfl hs (by omega) | exact y_ld rfl rfl rfl (by rfl) | exact y_ldN rfl rfl rfl (by rfl) | exact y_ldK rfl rfl rfl rfl (by assumption) (by omega) | exact y_ldI rfl rfl rfl rfl (by assumption) (by omega) (by omega))) rfl ?_
      refine d_takeG 12 rfl (by kernel_rfl) rfl rfl (by (first | exact y_fieldAddrB rfl rfl rfl rfl rfl rfl | exact y_fieldAddr rfl rfl rfl rfl rfl rfl)) rfl ?_
      refine d_takeG 13 rfl (by kernel_rfl) rfl rfl (by (first | exact y_ldK rfl rfl rfl rfl hs (by omega) | exact y_ld rfl rfl rfl (by rfl) | exact y_ldN rfl rfl rfl (by rfl) | exact y_ldK rfl rfl rfl rfl (by assumption) (by omega) | exact y_ldI rfl rfl rfl rfl (by assumption) (by omega) (by omega))) rfl ?_
      refine d_takeG 14 rfl (by kernel_rfl) rfl rfl (by (first | exact y_as (y_geq rfl rfl) (congrArg Value.bool (decide_eq_true g2)) | exact y_geq rfl rfl)) rfl ?_
      refine d_take 15 rfl (by kernel_rfl) (by (first | exact y_pickT rfl rfl | exact y_pickF rfl rfl)) rfl ?_
      refine d_take 16 rfl (by kernel_rfl) (by exact y_move rfl) rfl ?_
      refine d_skip 17 rfl (by kernel_rfl) (fun c e => by cases e) rfl rfl rfl rfl ?_
      refine d_skip 18 rfl (by kernel_rfl) (fun c e => by cases e) rfl rfl rfl rfl ?_
      refine d_skip 19 rfl (by kernel_rfl) (fun c e => by cases e) rfl rfl rfl rfl ?_
      refine d_skipU 20 rfl (by kernel_rfl) (fun c e => by cases e) rfl rfl rfl ?_
      refine d_skipU 21 rfl (by kernel_rfl) (fun c e => by cases e) rfl rfl rfl ?_
      refine d_skipU 22 rfl (by kernel_rfl) (fun c e => by cases e) rfl rfl rfl ?_
      refine d_skipU 23 rfl (by kernel_rfl) (fun c e => by cases e) rfl rfl rfl ?_
      refine d_skipU 24 rfl (by kernel_rfl) (fun c e => by cases e) rfl rfl rfl ?_
      refine d_skipU 25 rfl (by kernel_rfl) (fun c e => by cases e) rfl rfl rfl ?_
      refine d_skipU 26 rfl (by kernel_rfl) (fun c e => by cases e) rfl rfl rfl ?_
      refine d_skipU 27 rfl (by kernel_rfl) (fun c e => by cases e) rfl rfl rfl ?_
      refine d_skipU 28 rfl (by kernel_rfl) (fun c e => by cases e) rfl rfl rfl ?_
      refine d_skipU 29 rfl (by kernel_rfl) (fun c e => by cases e) rfl rfl rfl ?_
      refine d_skipU 30 rfl (by kernel_rfl) (fun c e => by cases e) rfl rfl rfl ?_
      refine d_skipU 31 rfl (by kernel_rfl) (fun c e => by cases e) rfl rfl rfl ?_
      refine d_skip 32 rfl (by kernel_rfl) (fun c e => by cases e) rfl rfl rfl rfl ?_
      refine d_take 33 rfl (by kernel_rfl) (by (first | exact y_pickT rfl rfl | exact y_pickF rfl rfl)) rfl ?_
      refine d_done (by kernel_rfl) ?_
      refine s_condT2 rfl (by with_reducible rfl) ?_
      refine s_seq ?_
      refine s_region ?_
      refine s_q (y_assign rfl) rfl ?_
      refine s_done ?_
      exact s_return ⟨by rw [bad (fun x => by omega)], rfl⟩ (res_tmp Try.results41 rfl)
    by_cases g3 : (0 : Int) < (k : Int)
    · have e1 : ((k : Int) - 1) = ((k - 1 : Nat) : Int) := by omega
      by_cases g4 : m.saved.getD k 0 ≤ m.saved.getD (k - 1) 0
      · skip
        refine d_start ?_
        refine d_take 0 rfl (by kernel_rfl) (by (first | exact y_fieldAddrB rfl rfl rfl rfl rfl rfl | exact y_fieldAddr rfl rfl rfl rfl rfl rfl)) rfl ?_
        refine d_take 1 rfl (by kernel_rfl) (by (first | exact y_ldK rfl rfl rfl rfl hs (by omega) | exact y_ld rfl rfl rfl (by rfl) | exact y_ldN rfl rfl rfl (by rfl) | exact y_ldK rfl rfl rfl rfl (by assumption) (by omega) | exact y_ldI rfl rfl rfl rfl (by assumption) (by omega) (by omega))) rfl ?_
        refine d_take 2 rfl (by kernel_rfl) (by exact y_move rfl) rfl ?_
        refine d_take 3 rfl (by kernel_rfl) (by (first | exact y_ixI rfl rfl rfl rfl rfl hs rfl (by omega) (by omega) | exact y_ixI rfl rfl rfl rfl rfl (by assumption) rfl (by omega) (by omega))) rfl ?_
        refine d_take 4 rfl (by kernel_rfl) (by (first | exact y_ldK rfl rfl rfl rfl hs (by omega) | exact y_ld rfl rfl rfl (by rfl) | exact y_ldN rfl rfl rfl (by rfl) | exact y_ldK rfl rfl rfl rfl (by assumption) (by omega) | exact y_ldI rfl rfl rfl rfl (by assumption) (by omega) (by omega))) rfl ?_
        refine d_take 5 rfl (by kernel_rfl) (by (first | exact y_as (y_lss rfl rfl) (congrArg Value.bool (decide_eq_false g1)) | exact y_lss rfl rfl)) rfl ?_
        refine d_take 6 rfl (by kernel_rfl) (by exact y_move rfl) rfl ?_
        refine d_takeG 7 rfl (by kernel_rfl) rfl rfl (by (first | exact y_fieldAddrB rfl rfl rfl rfl rfl rfl | exact y_fieldAddr rfl rfl rfl rfl rfl rfl)) rfl ?_
        refine d_takeG 8 rfl (by kernel_rfl) rfl rfl (by (first | exact y_ldK rfl rfl rfl rfl hs (by omega) | exact y_ld rfl rfl rfl (by rfl) | exact y_ldN rfl rfl rfl (by rfl) | exact y_ldK rfl rfl rfl rfl (by assumption) (by omega) | exact y_ldI rfl rfl rfl rfl (by assumption) (by omega) (by omega))) rfl ?_
        refine d_takeG 9 rfl (by kernel_rfl) rfl rfl (by exact y_move rfl) rfl ?_
        refine d_takeG 10 rfl (by kernel_rfl) rfl rfl (by (first | exact y_ixI rfl rfl rfl rfl rfl hs rfl (by omega) (by omega) | exact y_ixI rfl rfl rfl rfl rfl (by assumption) rfl (by omega) (by omega))) rfl ?_
        refine d_takeG 11 rfl (by kernel_rfl) rfl rfl (by (first | exact y_ldK rfl rfl rfl rfl hs (by omega) | exact y_ld rfl rfl rfl (by rfl) | exact y_ldN rfl rfl rfl (by rfl) | exact y_ldK rfl rfl rfl rfl (by assumption) (by omega) | exact y_ldI rfl rfl rfl rfl (by assumption) (by omega) (by omega))) rfl ?_
        refine d_takeG 12 rfl (by kernel_rfl) rfl rfl (by (first | exact y_fieldAddrB rfl rfl rfl rfl rfl rfl | exact y_fieldAddr rfl rfl rfl rfl rfl rfl)) rfl ?_
        refine d_takeG 13 rfl (by kernel_rfl) rfl rfl (by (first | exact y_ldK rfl rfl rfl rfl hs (by omega) | exact y_ld rfl rfl rfl (by rfl) | exact y_ldN rfl rfl rfl (by rfl) | exact y_ldK rfl rfl rfl rfl (by assumption) (by omega) | exact y_ldI rfl rfl rfl rfl (by assumption) (by omega) (by omega))) rfl ?_
        refine d_takeG 14 rfl (by kernel_rfl) rfl rfl (by (first | exact y_as (y_geq rfl rfl) (congrArg Value.bool (decide_eq_false g2)) | exact y_as (y_geq rfl rfl) (congrArg Value.bool (decide_eq_true g4)) | exact y_geq rfl rfl)) rfl ?_
        refine d_take 15 rfl (by kernel_rfl) (by (first | exact y_pickT rfl rfl | exact y_pickF rfl rfl)) rfl ?_
        refine d_take 16 rfl (by kernel_rfl) (by exact y_move rfl) rfl ?_
        refine d_takeG 17 rfl (by kernel_rfl) rfl rfl (by exact y_move rfl) rfl ?_
        refine d_takeG 18 rfl (by kernel_rfl) rfl rfl (by (first | exact y_as (y_gtr rfl rfl) (congrArg Value.bool (decide_eq_true g3)) | exact y_gtr rfl rfl)) rfl ?_
        refine d_takeG 19 rfl (by kernel_rfl) rfl rfl (by exact y_move rfl) rfl ?_
        refine d_takeG 20 rfl (by kernel_rfl) rfl rfl (by (first | exact y_fieldAddrB rfl rfl rfl rfl rfl rfl | exact y_fieldAddr rfl rfl rfl rfl rfl rfl)) rfl ?_
        refine d_takeG 21 rfl (by kernel_rfl) rfl rfl (by (first | exact y_ldK rfl rfl rfl rfl hs (by omega) | exact y_ld rfl rfl rfl (by rfl) | exact y_ldN rfl rfl rfl (by rfl) | exact y_ldK rfl rfl rfl rfl (by assumption) (by omega) | exact y_ldI rfl rfl rfl rfl (by assumption) (by omega) (by omega))) rfl ?_
        refine d_takeG 22 rfl (by kernel_rfl) rfl rfl (by exact y_move rfl) rfl ?_
        refine d_takeG 23 rfl (by kernel_rfl) rfl rfl (by (first | exact y_as (y_sub rfl rfl (by omega)) (congrArg (Value.int .i64) e1) | exact y_sub rfl rfl (by omega))) rfl ?_
        refine d_takeG 24 rfl (by kernel_rfl) rfl rfl (by (first | exact y_ixI rfl rfl rfl rfl rfl hs rfl (by omega) (by omega) | exact y_ixI rfl rfl rfl rfl rfl (by assumption) rfl (by omega) (by omega))) rfl ?_
        refine d_takeG 25 rfl (by kernel_rfl) rfl rfl (by (first | exact y_ldK rfl rfl rfl rfl hs (by omega) | exact y_ld rfl rfl rfl (by rfl) | exact y_ldN rfl rfl rfl (by rfl) | exact y_ldK rfl rfl rfl rfl (by assumption) (by omega) | exact y_ldI rfl rfl rfl rfl (by assumption) (by omega) (by omega))) rfl ?_
        refine d_takeG 26 rfl (by kernel_rfl) rfl rfl (by (first | exact y_fieldAddrB rfl rfl rfl rfl rfl rfl | exact y_fieldAddr rfl rfl rfl rfl rfl rfl)) rfl ?_
        refine d_takeG 27 rfl (by kernel_rfl) rfl rfl (by (first | exact y_ldK rfl rfl rfl rfl hs (by omega) | exact y_ld rfl rfl rfl (by rfl) | exact y_ldN rfl rfl rfl (by rfl) | exact y_ldK rfl rfl rfl rfl (by assumption) (by omega) | exact y_ldI rfl rfl rfl rfl (by assumption) (by omega) (by omega))) rfl ?_
        refine d_takeG 28 rfl (by kernel_rfl) rfl rfl (by exact y_move rfl) rfl ?_
        refine d_takeG 29 rfl (by kernel_rfl) rfl rfl (by (first | exact y_ixI rfl rfl rfl rfl rfl hs rfl (by omega) (by omega) | exact y_ixI rfl rfl rfl rfl rfl (by assumption) rfl (by omega) (by omega))) rfl ?_
        refine d_takeG 30 rfl (by kernel_rfl) rfl rfl (by (first | exact y_ldK rfl rfl rfl rfl hs (by omega) | exact y_ld rfl rfl rfl (by rfl) | exact y_ldN rfl rfl rfl (by rfl) | exact y_ldK rfl rfl rfl rfl (by assumption) (by omega) | exact y_ldI rfl rfl rfl rfl (by assumption) (by omega) (by omega))) rfl ?_
        refine d_takeG 31 rfl (by kernel_rfl) rfl rfl (by (first | exact y_as (y_geq rfl rfl) (congrArg Value.bool (decide_eq_false g2)) | exact y_as (y_geq rfl rfl) (congrArg Value.bool (decide_eq_true g4)) | exact y_geq rfl rfl)) rfl ?_
        refine d_takeG 32 rfl (by kernel_rfl) rfl rfl (by (first | exact y_pickT rfl rfl | exact y_pickF rfl rfl)) rfl ?_
        refine d_take 33 rfl (by kernel_rfl) (by (first | exact y_pickT rfl rfl | exact y_pickF rfl rfl)) rfl ?_
        refine d_done (by kernel_rfl) ?_
        refine s_condT2 rfl (by with_reducible rfl) ?_
        refine s_seq ?_
        refine s_region ?_
        refine s_q (y_assign rfl) rfl ?_
        refine s_done ?_
        exact s_return ⟨by rw [bad (fun x => by have := x.2 (by omega); omega)], rfl⟩ (res_tmp Try.results41 rfl)
      · skip
        refine d_start ?_
        refine d_take 0 rfl (by kernel_rfl) (by (first | exact y_fieldAddrB rfl rfl rfl rfl rfl rfl | exact y_fieldAddr rfl rfl rfl rfl rfl rfl)) rfl ?_
        refine d_take 1 rfl (by kernel_rfl) (by (first | exact y_ldK rfl rfl rfl rfl hs (by omega) | exact y_ld rfl rfl rfl (by rfl) | exact y_ldN rfl rfl rfl (by rfl) | exact y_ldK rfl rfl rfl rfl (by assumption) (by omega) | exact y_ldI rfl rfl rfl rfl (by assumption) (by omega) (by omega))) rfl ?_
        refine d_take 2 rfl (by kernel_rfl) (by exact y_move rfl) rfl ?_
        refine d_take 3 rfl (by kernel_rfl) (by (first | exact y_ixI rfl rfl rfl rfl rfl hs rfl (by omega) (by omega) | exact y_ixI rfl rfl rfl rfl rfl (by assumption) rfl (by omega) (by omega))) rfl ?_
        refine d_take 4 rfl (by kernel_rfl) (by (first | exact y_ldK rfl rfl rfl rfl hs (by omega) | exact y_ld rfl rfl rfl (by rfl) | exact y_ldN rfl rfl rfl (by rfl) | exact y_ldK rfl rfl rfl rfl (by assumption) (by omega) | exact y_ldI rfl rfl rfl rfl (by assumption) (by omega) (by omega))) rfl ?_
        refine d_take 5 rfl (by kernel_rfl) (by (first | exact y_as (y_lss rfl rfl) (congrArg Value.bool (decide_eq_false g1)) | exact y_lss rfl rfl)) rfl ?_
        refine d_take 6 rfl (by kernel_rfl) (by exact y_move rfl) rfl ?_
        refine d_takeG 7 rfl (by kernel_rfl) rfl rfl (by (first | exact y_fieldAddrB rfl rfl rfl rfl rfl rfl | exact y_fieldAddr rfl rfl rfl rfl rfl rfl)) rfl ?_
        refine d_takeG 8 rfl (by kernel_rfl) rfl rfl (by (first | exact y_ldK rfl rfl rfl rfl hs (by omega) | exact y_ld rfl rfl rfl (by rfl) | exact y_ldN rfl rfl rfl (by rfl) | exact y_ldK rfl rfl rfl rfl (by assumption) (by omega) | exact y_ldI rfl rfl rfl rfl (by assumption) (by omega) (by omega))) rfl ?_
        refine d_takeG 9 rfl (by kernel_rfl) rfl rfl (by exact y_move rfl) rfl ?_
        refine d_takeG 10 rfl (by kernel_rfl) rfl rfl (by (first | exact y_ixI rfl rfl rfl rfl rfl hs rfl (by omega) (by omega) | exact y_ixI rfl rfl rfl rfl rfl (by assumption) rfl (by omega) (by omega))) rfl ?_
        refine d_takeG 11 rfl (by kernel_rfl) rfl rfl (by (first | exact y_ldK rfl rfl rfl rfl hs (by omega) | exact y_ld rfl rfl rfl (by rfl) | exact y_ldN rfl rfl rfl (by rfl) | exact y_ldK rfl rfl rfl rfl (by assumption) (by omega) | exact y_ldI rfl rfl rfl rfl (by assumption) (by omega) (by omega))) rfl ?_
        refine d_takeG 12 rfl (by kernel_rfl) rfl rfl (by (first | exact y_fieldAddrB rfl rfl rfl rfl rfl rfl | exact y_fieldAddr rfl rfl rfl rfl rfl rfl)) rfl ?_
        refine d_takeG 13 rfl (by kernel_rfl) rfl rfl (by (first | exact y_ldK rfl rfl rfl rfl hs (by omega) | exact y_ld rfl rfl rfl (by rfl) | exact y_ldN rfl rfl rfl (by rfl) | exact y_ldK rfl rfl rfl rfl (by assumption) (by omega) | exact y_ldI rfl rfl rfl rfl (by assumption) (by omega) (by omega))) rfl ?_
        refine d_takeG 14 rfl (by kernel_rfl) rfl rfl (by (first | exact y_as (y_geq rfl rfl) (congrArg Value.bool (decide_eq_false g2)) | exact y_as (y_geq rfl rfl) (congrArg Value.bool (decide_eq_false g4)) | exact y_geq rfl rfl)) rfl ?_
        refine d_take 15 rfl (by kernel_rfl) (by (first | exact y_pickT rfl rfl | exact y_pickF rfl rfl)) rfl ?_
        refine d_take 16 rfl (by kernel_rfl) (by exact y_move rfl) rfl ?_
        refine d_takeG 17 rfl (by kernel_rfl) rfl rfl (by exact y_move rfl) rfl ?_
        refine d_takeG 18 rfl (by kernel_rfl) rfl rfl (by (first | exact y_as (y_gtr rfl rfl) (congrArg Value.bool (decide_eq_true g3)) | exact y_gtr rfl rfl)) rfl ?_
        refine d_takeG 19 rfl (by kernel_rfl) rfl rfl (by exact y_move rfl) rfl ?_
        refine d_takeG 20 rfl (by kernel_rfl) rfl rfl (by (first | exact y_fieldAddrB rfl rfl rfl rfl rfl rfl | exact y_fieldAddr rfl rfl rfl rfl rfl rfl)) rfl ?_
        refine d_takeG 21 rfl (by kernel_rfl) rfl rfl (by (first | exact y_ldK rfl rfl rfl rfl hs (by omega) | exact y_ld rfl rfl rfl (by rfl) | exact y_ldN rfl rfl rfl (by rfl) | exact y_ldK rfl rfl rfl rfl (by assumption) (by omega) | exact y_ldI rfl rfl rfl rfl (by assumption) (by omega) (by omega))) rfl ?_
        refine d_takeG 22 rfl (by kernel_rfl) rfl rfl (by exact y_move rfl) rfl ?_
        refine d_takeG 23 rfl (by kernel_rfl) rfl rfl (by (first | exact y_as (y_sub rfl rfl (by omega)) (congrArg (Value.int .i64) e1) | exact y_sub rfl rfl (by omega))) rfl ?_
        refine d_takeG 24 rfl (by kernel_rfl) rfl rfl (by (first | exact y_ixI rfl rfl rfl rfl rfl hs rfl (by omega) (by omega) | exact y_ixI rfl rfl rfl rfl rfl (by assumption) rfl (by omega) (by omega))) rfl ?_
        refine d_takeG 25 rfl (by kernel_rfl) rfl rfl (by (first | exact y_ldK rfl rfl rfl rfl hs (by omega) | exact y_ld rfl rfl rfl (by rfl) | exact y_ldN rfl rfl rfl (by rfl) | exact y_ldK rfl rfl rfl rfl (by assumption) (by omega) | exact y_ldI rfl rfl rfl rfl (by assumption) (by omega) (by omega))) rfl ?_
        refine d_takeG 26 rfl (by kernel_rfl) rfl rfl (by (first | exact y_fieldAddrB rfl rfl rfl rfl rfl rfl | exact y_fieldAddr rfl rfl rfl rfl rfl rfl)) rfl ?_
        refine d_takeG 27 rfl (by kernel_rfl) rfl rfl (by (first | exact y_ldK rfl rfl rfl rfl hs (by omega) | exact y_ld rfl rfl rfl (by rfl) | exact y_ldN rfl rfl rfl (by rfl) | exact y_ldK rfl rfl rfl rfl (by assumption) (by omega) | exact y_ldI rfl rfl rfl rfl (by assumption) (by omega) (by omega))) rfl ?_
        refine d_takeG 28 rfl (by kernel_rfl) rfl rfl (by exact y_move rfl) rfl ?_
        refine d_takeG 29 rfl (by kernel_rfl) rfl rfl (by (first | exact y_ixI rfl rfl rfl rfl rfl hs rfl (by omega) (by omega) | exact y_ixI rfl rfl rfl rfl rfl (by assumption) rfl (by omega) (by omega))) rfl ?_
        refine d_takeG 30 rfl (by kernel_rfl) rfl rfl (by (first | exact y_ldK rfl rfl rfl rfl hs (by omega) | exact y_ld rfl rfl rfl (by rfl) | exact y_ldN rfl rfl rfl (by rfl) | exact y_ldK rfl rfl rfl rfl (by assumption) (by omega) | exact y_ldI rfl rfl rfl rfl (by assumption) (by omega) (by omega))) rfl ?_
        refine d_takeG 31 rfl (by kernel_rfl) rfl rfl (by (first | exact y_as (y_geq rfl rfl) (congrArg Value.bool (decide_eq_false g2)) | exact y_as (y_geq rfl rfl) (congrArg Value.bool (decide_eq_false g4)) | exact y_geq rfl rfl)) rfl ?_
        refine d_takeG 32 rfl (by kernel_rfl) rfl rfl (by (first | exact y_pickT rfl rfl | exact y_pickF rfl rfl)) rfl ?_
        refine d_take 33 rfl (by kernel_rfl) (by (first | exact y_pickT rfl rfl | exact y_pickF rfl rfl)) rfl ?_
        refine d_done (by kernel_rfl) ?_
        refine s_condF2 rfl (by with_reducible rfl) ?_
        refine s_skip ?_
        refine s_endb ?_
        refine s_region ?_
        refine s_q (y_move rfl) rfl ?_
        refine s_q (y_add rfl rfl (by omega)) rfl ?_
        refine s_q (y_assign rfl) rfl ?_
        refine s_done ?_
        refine s_inv (k + 1) ⟨(by (try dsimp only); omega), next ⟨by omega, fun _ => by omega⟩⟩ (by (try dsimp only); omega) ⟨rfl, rfl, trivial⟩ tk
    · skip
      refine d_start ?_
      refine d_take 0 rfl (by kernel_rfl) (by (first | exact y_fieldAddrB rfl rfl rfl rfl rfl rfl | exact y_fieldAddr rfl rfl rfl rfl rfl rfl)) rfl ?_
      refine d_take 1 rfl (by kernel_rfl) (by (first | exact y_ldK rfl rfl rfl rfl hs (by omega) | exact y_ld rfl rfl rfl (by rfl) | exact y_ldN rfl rfl rfl (by rfl) | exact y_ldK rfl rfl rfl rfl (by assumption) (by omega) | exact y_ldI rfl rfl rfl rfl (by assumption) (by omega) (by omega))) rfl ?_
      refine d_take 2 rfl (by kernel_rfl) (by exact y_move rfl) rfl ?_
      refine d_take 3 rfl (by kernel_rfl) (by (first | exact y_ixI rfl rfl rfl rfl rfl hs rfl (by omega) (by omega) | exact y_ixI rfl rfl rfl rfl rfl (by assumption) rfl (by omega) (by omega))) rfl ?_
      refine d_take 4 rfl (by kernel_rfl) (by (first | exact y_ldK rfl rfl rfl rfl hs (by omega) | exact y_ld rfl rfl rfl (by rfl) | exact y_ldN rfl rfl rfl (by rfl) | exact y_ldK rfl rfl rfl rfl (by assumption) (by omega) | exact y_ldI rfl rfl rfl rfl (by assumption) (by omega) (by omega))) rfl ?_
      refine d_take 5 rfl (by kernel_rfl) (by (first | exact y_as (y_lss rfl rfl) (congrArg Value.bool (decide_eq_false g1)) | exact y_lss rfl rfl)) rfl ?_
      refine d_take 6 rfl (by kernel_rfl) (by exact y_move rfl) rfl ?_
      refine d_takeG 7 rfl (by kernel_rfl) rfl rfl (by (first | exact y_fieldAddrB rfl rfl rfl rfl rfl rfl | exact y_fieldAddr rfl rfl rfl rfl rfl rfl)) rfl ?_
      refine d_takeG 8 rfl (by kernel_rfl) rfl rfl (by (first | exact y_ldK rfl rfl rfl rfl hs (by omega) | exact y_ld rfl rfl rfl (by rfl) | exact y_ldN rfl rfl rfl (by rfl) | exact y_ldK rfl rfl rfl rfl (by assumption) (by omega) | exact y_ldI rfl rfl rfl rfl (by assumption) (by omega) (by omega))) rfl ?_
      refine d_takeG 9 rfl (by kernel_rfl) rfl rfl (by exact y_move rfl) rfl ?_
      refine d_takeG 10 rfl (by kernel_rfl) rfl rfl (by (first | exact y_ixI rfl rfl rfl rfl rfl hs rfl (by omega) (by omega) | exact y_ixI rfl rfl rfl rfl rfl (by assumption) rfl (by omega) (by omega))) rfl ?_
      refine d_takeG 11 rfl (by kernel_rfl) rfl rfl (by (first | exact y_ldK rfl rfl rfl rfl hs (by omega) | exact y_ld rfl rfl rfl (by rfl) | exact y_ldN rfl rfl rfl (by rfl) | exact y_ldK rfl rfl rfl rfl (by assumption) (by omega) | exact y_ldI rfl rfl rfl rfl (by assumption) (by omega) (by omega))) rfl ?_
      refine d_takeG 12 rfl (by kernel_rfl) rfl rfl (by (first | exact y_fieldAddrB rfl rfl rfl rfl rfl rfl | exact y_fieldAddr rfl rfl rfl rfl rfl rfl)) rfl ?_
      refine d_takeG 13 rfl (by kernel_rfl) rfl rfl (by (first | exact y_ldK rfl rfl rfl rfl hs (by omega) | exact y_ld rfl rfl rfl (by rfl) | exact y_ldN rfl rfl rfl (by rfl) | exact y_ldK rfl rfl rfl rfl (by assumption) (by omega) | exact y_ldI rfl rfl rfl rfl (by assumption) (by omega) (by omega))) rfl ?_
      refine d_takeG 14 rfl (by kernel_rfl) rfl rfl (by (first | exact y_as (y_geq rfl rfl) (congrArg Value.bool (decide_eq_false g2)) | exact y_geq rfl rfl)) rfl ?_
      refine d_take 15 rfl (by kernel_rfl) (by (first | exact y_pickT rfl rfl | exact y_pickF rfl rfl)) rfl ?_
      refine d_take 16 rfl (by kernel_rfl) (by exact y_move rfl) rfl ?_
      refine d_takeG 17 rfl (by kernel_rfl) rfl rfl (by exact y_move rfl) rfl ?_
      refine d_takeG 18 rfl (by kernel_rfl) rfl rfl (by (first | exact y_as (y_gtr rfl rfl) (congrArg Value.bool (decide_eq_false g3)) | exact y_gtr rfl rfl)) rfl ?_
      refine d_takeG 19 rfl (by kernel_rfl) rfl rfl (by exact y_move rfl) rfl ?_
      refine d_skip 20 rfl (by kernel_rfl) (fun c e => by cases e) rfl rfl rfl rfl ?_
      refine d_skip 21 rfl (by kernel_rfl) (fun c e => by cases e) rfl rfl rfl rfl ?_
      refine d_skip 22 rfl (by kernel_rfl) (fun c e => by cases e) rfl rfl rfl rfl ?_
      refine d_skip 23 rfl (by kernel_rfl) (fun c e => by cases e) rfl rfl rfl rfl ?_
      refine d_skip 24 rfl (by kernel_rfl) (fun c e => by cases e) rfl rfl rfl rfl ?_
      refine d_skip 25 rfl (by kernel_rfl) (fun c e => by cases e) rfl rfl rfl rfl ?_
      refine d_skip 26 rfl (by kernel_rfl) (fun c e => by cases e) rfl rfl rfl rfl ?_
      refine d_skip 27 rfl (by kernel_rfl) (fun c e => by cases e) rfl rfl rfl rfl ?_
      refine d_skip 28 rfl (by kernel_rfl) (fun c e => by cases e) rfl rfl rfl rfl ?_
      refine d_skip 29 rfl (by kernel_rfl) (fun c e => by cases e) rfl rfl rfl rfl ?_
      refine d_skip 30 rfl (by kernel_rfl) (fun c e => by cases e) rfl rfl rfl rfl ?_
      refine d_skip 31 rfl (by kernel_rfl) (fun c e => by cases e) rfl rfl rfl rfl ?_
      refine d_takeG 32 rfl (by kernel_rfl) rfl rfl (by (first | exact y_pickT rfl rfl | exact y_pickF rfl rfl)) rfl ?_
      refine d_take 33 rfl (by kernel_rfl) (by (first | exact y_pickT rfl rfl | exact y_pickF rfl rfl)) rfl ?_
      refine d_done (by kernel_rfl) ?_
      refine s_condF2 rfl (by with_reducible rfl) ?_
      refine s_skip ?_
      refine s_endb ?_
      refine s_region ?_
      refine s_q (y_move rfl) rfl ?_
      refine s_q (y_add rfl rfl (by omega)) rfl ?_
      refine s_q (y_assign rfl) rfl ?_
      refine s_done ?_
      refine s_inv (k + 1) ⟨(by (try dsimp only); omega), next ⟨by omega, fun h => by omega⟩⟩ (by (try dsimp only); omega) ⟨rfl, rfl, trivial⟩ tk
  · refine s_exit rfl ?_
    refine s_seq ?_
    refine s_region ?_
    refine s_q (y_assign rfl) rfl ?_
    refine s_done ?_
    exact s_return ⟨by rw [hm.2 ⟨hst, by omega, by omega, h7, fun i hi => hinc i (by omega)⟩], rfl⟩ (res_tmp Try.results41 rfl)
end Go.Proofs.Ytgpebcfeeagoaaa
