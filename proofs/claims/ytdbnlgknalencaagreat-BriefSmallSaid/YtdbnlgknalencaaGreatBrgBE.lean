/- Layer 23 (brief): the variables that are kept. -/
import Derived.Test.YtdbnlgknalencaaGreatBrgBD
import Derived.Test.YtdbnlgknalencaaGreatEEb
set_option linter.unusedVariables false
set_option linter.unusedSimpArgs false
namespace Go.Proofs.YtdbnlgknalencaaGreat
open Go Go.E
set_option maxRecDepth 4000
set_option maxHeartbeats 1000000
def spB : List Int → List Int → Int → Bool
  | v :: vs, c :: cs, x => (decide (v = x) && decide (c < 0)) || spB vs cs x
  | _, _, _ => false
theorem spB_snoc (v c x : Int) : ∀ (vs cs : List Int), vs.length = cs.length → spB (vs ++ [v]) (cs ++ [c]) x = (spB vs cs x || (decide (v = x) && decide (c < 0)))
  | [], [], _ => by simp [spB]
  | [], _ :: _, h => by simp at h
  | _ :: _, [], h => by simp at h
  | a :: vs, b :: cs, h => by simp only [List.cons_append, spB, spB_snoc v c x vs cs (by simpa using h), Bool.or_assoc]
def hasV (l : List BrD) (x : Int) : Prop := ∃ b ∈ l, x ∈ b.vars
def isSp (l : List BrD) (x : Int) : Bool := l.any fun b => spB b.vars b.cols x
def keptL (l : List BrD) : List Int := if l.all rightB = true then ((List.range 200).map fun n : Nat => (n : Int) + 1).filter (fun v => l.any (fun b => decide (v ∈ b.vars)) && !isSp l v) else []
/-- While the variables are told: those of the briefs gone through, those of this one. -/
def K1 (l : List BrD) (j k : Nat) (m : List (Int × Value)) : Prop := ∀ x, x ∈ ksOf m ↔ hasV (l.take j) x ∨ x ∈ (l.getD j .no).vars.take k
def K2 (l : List BrD) (j k : Nat) (m : List (Int × Value)) : Prop := ∀ x, x ∈ ksOf m ↔ hasV l x ∧ isSp (l.take j) x = false ∧ spB ((l.getD j .no).vars.take k) ((l.getD j .no).cols.take k) x = false
def kLI (b3 mb : Nat) (φ : Nat → List (Int × Value) → Prop) (k : Nat) : HP := exHP fun m : List (Int × Value) => star [pu (φ k m), cb b3 59 [.map (some mb)], Mp ki mb m]
theorem hasV_snoc (l : List BrD) (b : BrD) (x : Int) : hasV (l ++ [b]) x ↔ hasV l x ∨ x ∈ b.vars := by
  simp only [hasV, List.mem_append, List.mem_singleton]
  constructor
  · rintro ⟨y, h | rfl, hx⟩
    · exact .inl ⟨y, h, hx⟩
    · exact .inr hx
  · rintro (⟨y, h, hx⟩ | hx)
    · exact ⟨y, .inl h, hx⟩
    · exact ⟨b, .inr rfl, hx⟩
theorem isSp_snoc (l : List BrD) (b : BrD) (x : Int) : isSp (l ++ [b]) x = (isSp l x || spB b.vars b.cols x) := by simp [isSp]
theorem K1.step {l : List BrD} {j k : Nat} {m : List (Int × Value)} {v : Value} (h : K1 l j k m) (hk : k < (l.getD j .no).vars.length) : K1 l j (k + 1) (mset ((l.getD j .no).vars.getD k 0) v m) := fun x => by
  rw [ksOf, mem_keys_mset, take_D 0 hk, List.mem_append, List.mem_singleton]
  have := h x
  rw [ksOf] at this
  rw [this]
  constructor
  · rintro (h | h | h)
    · exact .inr (.inr h)
    · exact .inl h
    · exact .inr (.inl h)
  · rintro (h | h | h)
    · exact .inr (.inl h)
    · exact .inr (.inr h)
    · exact .inl h
theorem K1.next {l : List BrD} {j : Nat} {m : List (Int × Value)} (h : K1 l j (l.getD j .no).vars.length m) (hj : j < l.length) : K1 l (j + 1) 0 m := fun x => by
  rw [h x, take_D .no hj, hasV_snoc, List.take_length]; simp
theorem K2.step {l : List BrD} {j k : Nat} {m : List (Int × Value)} (h : K2 l j k m) (hn : (m.map (·.1)).Nodup) (hk : k < (l.getD j .no).vars.length) (hl : (l.getD j .no).cols.length = (l.getD j .no).vars.length) :
    K2 l j (k + 1) (if (l.getD j .no).cols.getD k 0 < 0 then mdel ((l.getD j .no).vars.getD k 0) m else m) := fun x => by
  have h0 := h x
  rw [take_D 0 hk, take_D 0 (l := (l.getD j .no).cols) (by omega), spB_snoc _ _ _ _ _ (by rw [List.length_take, List.length_take]; omega), Bool.or_eq_false_iff]
  by_cases e : (l.getD j .no).cols.getD k 0 < 0
  · rw [if_pos e, ksOf, mem_keys_mdel _ _ _ hn]
    rw [ksOf] at h0
    rw [h0, decide_eq_true e, Bool.and_true, decide_eq_false_iff_not]
    constructor
    · rintro ⟨a, b, c, d⟩; exact ⟨b, c, d, fun x => a x.symm⟩
    · rintro ⟨b, c, d, a⟩; exact ⟨fun x => a x.symm, b, c, d⟩
  · rw [if_neg e, h0, decide_eq_false e, Bool.and_false]; simp
theorem K2.next {l : List BrD} {j : Nat} {m : List (Int × Value)} (h : K2 l j (l.getD j .no).vars.length m) (hj : j < l.length) (hl : (l.getD j .no).cols.length = (l.getD j .no).vars.length) : K2 l (j + 1) 0 m := fun x => by
  rw [h x, take_D .no hj, isSp_snoc, List.take_length, show (l.getD j .no).cols.take (l.getD j .no).vars.length = (l.getD j .no).cols by rw [← hl, List.take_length], Bool.or_eq_false_iff]; simp [spB]
theorem kept_eq {l : List BrD} {m : List (Int × Value)} {ys : List Int} (hr : l.all rightB = true) (h : K2 l l.length 0 m) (hn : (m.map (·.1)).Nodup) (hp : ys.Perm (ksOf m)) (hs : ys.Pairwise (· ≤ ·)) : ys = keptL l := by
  rw [keptL, if_pos hr]
  have hrn : ((List.range 200).map fun n : Nat => (n : Int) + 1).Nodup := by
    rw [List.nodup_iff_pairwise_ne, List.pairwise_map]; exact List.nodup_range.imp (fun h e => h (by omega))
  have hrs : ((List.range 200).map fun n : Nat => (n : Int) + 1).Pairwise (· ≤ ·) := by
    rw [List.pairwise_map]; exact List.pairwise_lt_range.imp (fun h => by omega)
  refine sorted_eq ((List.perm_ext_iff_of_nodup (hp.nodup_iff.2 hn) (hrn.filter _)).2 fun x => ?_) hs (hrs.filter _)
  rw [hp.mem_iff, h x, List.mem_filter, List.mem_map, List.take_length]
  simp only [Bool.and_eq_true, List.any_eq_true, decide_eq_true_eq, Bool.not_eq_true', List.mem_range]
  constructor
  · rintro ⟨⟨b, hb, hx⟩, h2, _⟩
    have h3 := (risB_lt _ _ ((Bool.and_eq_true _ _).mp (List.all_eq_true.1 hr b hb)).1).1 x hx
    exact ⟨⟨(x - 1).toNat, by omega, by omega⟩, ⟨b, hb, hx⟩, h2⟩
  · rintro ⟨_, ⟨b, hb, hx⟩, h2⟩
    refine ⟨⟨b, hb, hx⟩, h2, ?_⟩
    simp [spB]
theorem kept_len {l : List BrD} {m : List (Int × Value)} (hr : l.all rightB = true) (h : ∀ x, x ∈ ksOf m → hasV l x) (hn : (m.map (·.1)).Nodup) : (ksOf m).length ≤ 200 := by
  have := nodup_len 1 200 hn (fun x hx => by
    obtain ⟨b, hb, hx⟩ := h x hx
    have h3 := (risB_lt _ _ ((Bool.and_eq_true _ _).mp (List.all_eq_true.1 hr b hb)).1).1 x hx
    omega) (by omega)
  rw [ksOf]; omega
def KeptPost (l : List BrD) (v : Value) (L : List HP) : Prop := ∃ (A : Option Addr) (c : Nat), v = .slice A (keptL l).length c ∧ L = [Sl 3 1 A (keptL l).length c (ints (keptL l))]
theorem Kept_spec (w : World) (N : Nat → Prop) (T : Option Addr) (t n : Nat) (l : List BrD) (hn : n = l.length) (ho : Owns w [] N) (hl0 : KBr w N T l) (hok : ∀ b ∈ l, b.ok) (h3 : l.length < 100000000000000) : Ret Tryz.prog 17 [.slice T n t] w N (KeptPost l) := by
  subst hn
  refine ret_of_J cx Tryz.func17 rfl (Nat.le_of_ble_eq_true rfl) ho ?_
  refine s_seq ?_
  refine s_region ?_
  refine s_q (y_assign rfl) rfl ?_
  refine s_done ?_
  refine s_seq ?_
  refine s_seq ?_
  refine s_region ?_
  refine s_q (y_move rfl) rfl ?_
  refine s_call (pre := []) (rem := _) rfl rfl tk (fun w N ho hl => ContainsWrong_spec w N T t l.length l rfl (hl0.of hl) hok ho h3) rfl ?_
  rintro e L' ⟨rfl, rfl⟩
  try simp only [List.nil_append, List.cons_append, List.append_nil]
  cases hr : l.all rightB with
  | false =>
    have e0 : keptL l = [] := by rw [keptL, hr]; simp
    refine s_done ?_
    refine s_condT2 rfl (congrArg Value.bool (by decide)) ?_
    refine s_seq ?_
    refine s_region ?_
    refine s_q (y_assign rfl) rfl ?_
    refine s_done ?_
    refine J.emp (B := Sl 3 1 none 0 0 (ints [])) (Sl.ofNil _ _) ?_
    exact s_return (R := KeptPost l) ⟨none, 0, by rw [e0, List.length_nil], by rw [e0, List.length_nil]⟩ (res_tmp Tryz.results17 rfl)
  | true =>
  have hr2 := List.all_eq_true.1 hr
  refine s_done ?_
  refine s_condF2 rfl (congrArg Value.bool (by decide)) ?_
  refine s_skip ?_
  refine s_seq ?_
  refine s_region ?_
  refine s_makeMap ki rfl (fun mb => ?_)
  refine s_alloc rfl rfl (fun b3 => ?_)
  first | (refine s_storeC rfl rfl rfl rfl (by rfl) ?_) | (refine s_store rfl rfl rfl rfl (by rfl) ?_)
  change J _ _ _ (cb b3 59 [.map (some mb)] :: Mp ki mb [] :: _) _
  refine s_done ?_
  refine s_seq ?_
  refine s_seq ?_
  refine s_region ?_
  refine s_q (y_move rfl) rfl ?_
  refine s_q (y_lenS rfl rfl rfl) rfl ?_
  refine s_q (y_move rfl) rfl ?_
  refine s_done ?_
  refine s_block ?_
  refine J.emp (B := dms []) rfl ?_
  refine s_loopVD (σ := Nat × List (Int × Value) × List Nat) (fun s => s.2.2) (fun s => [(16, .int .i64 s.1)]) (fun s => [Mp ki mb s.2.1, dms s.2.2]) (fun s => (s.1 ≤ l.length) ∧ (K1 l s.1 0 s.2.1)) (fun s => l.length - s.1) (0, [], []) [(0, _), (3, _), (14, _), (15, _)] rfl ⟨rfl, rfl, rfl, rfl, trivial⟩ ⟨rfl, trivial⟩ tk ⟨Nat.zero_le _, fun x => by simp [ksOf, hasV]⟩ ?_
  rintro ⟨j, m, Ds⟩ ⟨hj, hK⟩
  try dsimp only [List.cons_append, List.nil_append, List.append_nil] at hj hK ⊢
  refine s_seq ?_
  refine s_region ?_
  refine s_q (y_lss rfl rfl) rfl ?_
  refine s_done ?_
  refine s_seq ?_
  refine s_cond rfl (fun h => ?_) (fun h => ?_)
  · have hjl : j < l.length := by omega
    have hm := getD_mem BrD.no hjl
    have hrt := hr2 _ hm
    have hvl := right_vars hrt
    simp only [rightB, Bool.and_eq_true, decide_eq_true_eq] at hrt
    refine s_skip ?_
    refine s_seq ?_
    refine s_block ?_
    refine s_seq ?_
    refine s_region ?_
    refine s_q (by (first | exact y_ixE hl0.blk rfl rfl rfl rfl rfl rfl (by omega) (by omega) | exact y_ixI rfl rfl rfl rfl rfl (by assumption) rfl (by omega) (by omega))) rfl ?_
    refine s_q (by (first | exact y_ldE hl0.blk rfl rfl rfl (by omega) rfl | exact y_ld rfl rfl rfl (by rfl) | exact y_ldN rfl rfl rfl (by rfl) | exact y_ldK rfl rfl rfl rfl (by assumption) (by omega) | exact y_ldI rfl rfl rfl rfl (by assumption) (by omega) (by omega))) rfl ?_
    refine s_alloc rfl rfl (fun b5 => ?_)
    first | (refine s_storeW rfl rfl rfl rfl rfl (by rfl) ?_) | (refine s_storeN rfl rfl rfl rfl rfl (by rfl) ?_)
    change J _ _ _ (cb b5 43 (encBr (l.getD j .no)) :: _) _
    refine s_done ?_
    refine s_seq ?_
    refine s_region ?_
    refine s_q (by (first | exact y_ldN rfl rfl rfl (by rfl) | exact y_ld rfl rfl rfl (by rfl) | exact y_ldN rfl rfl rfl (by rfl) | exact y_ldK rfl rfl rfl rfl (by assumption) (by omega) | exact y_ldI rfl rfl rfl rfl (by assumption) (by omega) (by omega))) rfl ?_
    refine s_call (pre := []) (rem := _) rfl rfl tk (fun w N ho hl => each_spec w N (l.getD j .no) ho) rfl ?_
    rintro e L' ⟨p, rfl, rfl⟩
    try simp only [List.nil_append, List.cons_append, List.append_nil]
    refine s_done ?_
    refine s_block ?_
    refine J.puI hK ?_
    refine J.perm (Tk.perm (K := [Go.E.pu (K1 l j 0 m), cb b3 59 [.map (some mb)], Mp ki mb m])) ?_
    refine J.group.1 ?_
    refine J.exI (f := fun m : List (Int × Value) => star [Go.E.pu (K1 l j 0 m), cb b3 59 [.map (some mb)], Mp ki mb m]) m ?_
    change J _ _ _ (kLI b3 mb (K1 l j) 0 :: _) _
    refine s_rangeG (τ := Empty) (α := Unit) (ps := [22, 23]) (rem := _) rfl rfl rfl (fun k : Nat => [kLI b3 mb (K1 l j) k]) (fun e => nomatch e) (fun k _ => [.int .i64 ((l.getD j .no).vars.getD k 0), .int .i64 ((l.getD j .no).cols.getD k 0)]) (fun k _ => k + 1) (fun k _ => k < (l.getD j .no).vars.length) (fun k => k = (l.getD j .no).vars.length) 0 (List.Perm.refl _) (fun _ _ => rfl) rfl ?_ ?_ ?_ ?_
    · intro l2 R w0 N0 ho hl hy
      exact each1_spec w0 N0 l2 R _ _ p (l.getD j .no) (KC.ofCb hl (by repeat (first | exact List.mem_cons_self | refine List.mem_cons_of_mem _ ?_))) ((hl0.row _ hm).of hl) hrt.2.1 (by omega) ho hy
    · intro l2 R w1 N1 k _ hkl hl
      clear hl
      dsimp only
      refine s_region ?_
      refine s_q (y_assign rfl) rfl ?_
      refine s_done ?_
      refine s_begin (rem := _) (List.Perm.refl _) ?_
      refine J.swap ?_
      refine J.ex fun m => ?_
      refine J.group.2 ?_
      dsimp only [List.cons_append, List.nil_append]
      refine J.pu fun hK => ?_
      refine s_block ?_
      refine s_region ?_
      refine s_q (by (first | exact y_ld rfl rfl rfl (by rfl) | exact y_ldN rfl rfl rfl (by rfl) | exact y_ldK rfl rfl rfl rfl (by assumption) (by omega) | exact y_ldI rfl rfl rfl rfl (by assumption) (by omega) (by omega))) rfl ?_
      refine s_q (y_move rfl) rfl ?_
      refine s_mapUpdate rfl rfl rfl rfl (kt_int (by kernel_rfl)) rfl ?_
      refine s_done ?_
      refine s_endb ?_
      refine J.puI (hK.step hkl (v := .int .i64 1)) ?_
      refine J.perm (Tk.perm (K := [Go.E.pu (K1 l j (k + 1) (mset ((l.getD j .no).vars.getD k 0) (.int .i64 1) m)), cb b3 59 [.map (some mb)], Mp ki mb (mset ((l.getD j .no).vars.getD k 0) (.int .i64 1) m)])) ?_
      refine J.group.1 ?_
      refine J.exI (f := fun m : List (Int × Value) => star [Go.E.pu (K1 l j (k + 1) m), cb b3 59 [.map (some mb)], Mp ki mb m]) _ ?_
      change J _ _ _ (kLI b3 mb (K1 l j) (k + 1) :: _) _
      exact s_roundEndG (by first | exact tk1 | (dsimp only; exact tk1))
    · intro D k' hk'
      subst hk'
      refine J.swap ?_
      refine J.ex fun m => ?_
      refine J.group.2 ?_
      simp only [List.cons_append, List.nil_append, List.append_eq]
      refine J.pu fun hK => ?_
      refine s_endb ?_
      refine s_endb ?_
      refine s_region ?_
      refine s_q (y_add rfl rfl (by omega)) rfl ?_
      refine s_q (y_move rfl) rfl ?_
      refine s_done ?_
      refine J.perm (Tk.perm (K := [dm D, dms Ds])) ?_
      dsimp only [List.cons_append, List.nil_append]
      refine J.marks ?_
      refine s_invD (j + 1, m, D :: Ds) ⟨(by (try dsimp only); omega), hK.next hjl⟩ (by (try dsimp only); omega) rfl ⟨rfl, rfl, rfl, rfl, rfl, trivial⟩ tk
    · intro D t; exact nomatch t
  have hjl : j = l.length := by omega
  subst hjl
  rw [K1] at hK
  simp only [List.take_length, List.take_zero, List.not_mem_nil, or_false] at hK
  refine s_exit rfl ?_
  refine s_seq ?_
  refine s_seq ?_
  refine s_region ?_
  refine s_q (y_move rfl) rfl ?_
  refine s_q (y_lenS rfl rfl rfl) rfl ?_
  refine s_q (y_move rfl) rfl ?_
  refine s_done ?_
  refine s_block ?_
  refine s_loopVD (σ := Nat × List (Int × Value) × List Nat) (fun s => s.2.2) (fun s => [(29, .int .i64 s.1)]) (fun s => [Mp ki mb s.2.1, dms s.2.2]) (fun s => (s.1 ≤ l.length) ∧ (K2 l s.1 0 s.2.1)) (fun s => l.length - s.1) (0, m, Ds) [(3, _), (27, _), (28, _)] rfl ⟨rfl, rfl, rfl, trivial⟩ ⟨rfl, trivial⟩ tk ⟨Nat.zero_le _, fun x => by rw [hK x]; simp [isSp, spB]⟩ ?_
  rintro ⟨j, m, Ds⟩ ⟨hj, hK⟩
  try dsimp only [List.cons_append, List.nil_append, List.append_nil] at hj hK ⊢
  refine s_seq ?_
  refine s_region ?_
  refine s_q (y_lss rfl rfl) rfl ?_
  refine s_done ?_
  refine s_seq ?_
  refine s_cond rfl (fun h => ?_) (fun h => ?_)
  · have hjl : j < l.length := by omega
    have hm := getD_mem BrD.no hjl
    have hrt := hr2 _ hm
    have hvl := right_vars hrt
    simp only [rightB, Bool.and_eq_true, decide_eq_true_eq] at hrt
    refine s_skip ?_
    refine s_seq ?_
    refine s_block ?_
    refine s_seq ?_
    refine s_region ?_
    refine s_q (by (first | exact y_ixE hl0.blk rfl rfl rfl rfl rfl rfl (by omega) (by omega) | exact y_ixI rfl rfl rfl rfl rfl (by assumption) rfl (by omega) (by omega))) rfl ?_
    refine s_q (by (first | exact y_ldE hl0.blk rfl rfl rfl (by omega) rfl | exact y_ld rfl rfl rfl (by rfl) | exact y_ldN rfl rfl rfl (by rfl) | exact y_ldK rfl rfl rfl rfl (by assumption) (by omega) | exact y_ldI rfl rfl rfl rfl (by assumption) (by omega) (by omega))) rfl ?_
    refine s_alloc rfl rfl (fun b5 => ?_)
    first | (refine s_storeW rfl rfl rfl rfl rfl (by rfl) ?_) | (refine s_storeN rfl rfl rfl rfl rfl (by rfl) ?_)
    change J _ _ _ (cb b5 43 (encBr (l.getD j .no)) :: _) _
    refine s_done ?_
    refine s_seq ?_
    refine s_region ?_
    refine s_q (by (first | exact y_ldN rfl rfl rfl (by rfl) | exact y_ld rfl rfl rfl (by rfl) | exact y_ldN rfl rfl rfl (by rfl) | exact y_ldK rfl rfl rfl rfl (by assumption) (by omega) | exact y_ldI rfl rfl rfl rfl (by assumption) (by omega) (by omega))) rfl ?_
    refine s_call (pre := []) (rem := _) rfl rfl tk (fun w N ho hl => each_spec w N (l.getD j .no) ho) rfl ?_
    rintro e L' ⟨p, rfl, rfl⟩
    try simp only [List.nil_append, List.cons_append, List.append_nil]
    refine s_done ?_
    refine s_block ?_
    refine J.puI hK ?_
    refine J.perm (Tk.perm (K := [Go.E.pu (K2 l j 0 m), cb b3 59 [.map (some mb)], Mp ki mb m])) ?_
    refine J.group.1 ?_
    refine J.exI (f := fun m : List (Int × Value) => star [Go.E.pu (K2 l j 0 m), cb b3 59 [.map (some mb)], Mp ki mb m]) m ?_
    change J _ _ _ (kLI b3 mb (K2 l j) 0 :: _) _
    refine s_rangeG (τ := Empty) (α := Unit) (ps := [35, 36]) (rem := _) rfl rfl rfl (fun k : Nat => [kLI b3 mb (K2 l j) k]) (fun e => nomatch e) (fun k _ => [.int .i64 ((l.getD j .no).vars.getD k 0), .int .i64 ((l.getD j .no).cols.getD k 0)]) (fun k _ => k + 1) (fun k _ => k < (l.getD j .no).vars.length) (fun k => k = (l.getD j .no).vars.length) 0 (List.Perm.refl _) (fun _ _ => rfl) rfl ?_ ?_ ?_ ?_
    · intro l2 R w0 N0 ho hl hy
      exact each1_spec w0 N0 l2 R _ _ p (l.getD j .no) (KC.ofCb hl (by repeat (first | exact List.mem_cons_self | refine List.mem_cons_of_mem _ ?_))) ((hl0.row _ hm).of hl) hrt.2.1 (by omega) ho hy
    · intro l2 R w1 N1 k _ hkl hl
      clear hl
      dsimp only
      refine s_seq ?_
      refine s_region ?_
      refine s_q (y_assign rfl) rfl ?_
      refine s_done ?_
      refine s_region ?_
      refine s_q (y_assign rfl) rfl ?_
      refine s_done ?_
      refine s_begin (rem := _) (List.Perm.refl _) ?_
      refine J.swap ?_
      refine J.ex fun m => ?_
      refine J.group.2 ?_
      dsimp only [List.cons_append, List.nil_append]
      refine J.pu fun hK => ?_
      refine J.swap ?_
      refine J.fact Mp.nodup fun hmn => ?_
      have hst := hK.step hmn hkl hrt.2.1
      have fin : ∀ (fr : Fr Tryz.prog) (ds : List Deferred) (ρ : Env) (m' : List (Int × Value)) (L : List HP) (k' : List It), K2 l j (k + 1) m' → J fr ds ρ (kLI b3 mb (K2 l j) (k + 1) :: L) k' → J fr ds ρ (Mp ki mb m' :: cb b3 59 [.map (some mb)] :: L) k' := fun fr ds ρ m' L k' hk2 hJ => by
        refine J.puI hk2 ?_
        refine J.perm (Tk.perm (K := [Go.E.pu (K2 l j (k + 1) m'), cb b3 59 [.map (some mb)], Mp ki mb m'])) ?_
        refine J.group.1 ?_
        exact J.exI (f := fun m : List (Int × Value) => star [Go.E.pu (K2 l j (k + 1) m), cb b3 59 [.map (some mb)], Mp ki mb m]) _ hJ
      refine s_block ?_
      refine s_seq ?_
      refine s_region ?_
      refine s_q (y_move rfl) rfl ?_
      refine s_q (y_lss rfl rfl) rfl ?_
      refine s_done ?_
      refine s_cond rfl (fun h6 => ?_) (fun h6 => ?_)
      · rw [if_pos h6] at hst
        refine s_region ?_
        refine s_q (by (first | exact y_ld rfl rfl rfl (by rfl) | exact y_ldN rfl rfl rfl (by rfl) | exact y_ldK rfl rfl rfl rfl (by assumption) (by omega) | exact y_ldI rfl rfl rfl rfl (by assumption) (by omega) (by omega))) rfl ?_
        refine s_q (y_move rfl) rfl ?_
        refine s_mapDelete rfl rfl rfl (kt_int (by kernel_rfl)) rfl ?_
        refine s_done ?_
        refine s_endb ?_
        refine fin _ _ _ _ _ _ hst ?_
        exact s_roundEndG (by first | exact tk1 | (dsimp only; exact tk1))
      · rw [if_neg h6] at hst
        refine s_skip ?_
        refine s_endb ?_
        refine fin _ _ _ _ _ _ hst ?_
        exact s_roundEndG (by first | exact tk1 | (dsimp only; exact tk1))
    · intro D k' hk'
      subst hk'
      refine J.swap ?_
      refine J.ex fun m => ?_
      refine J.group.2 ?_
      simp only [List.cons_append, List.nil_append, List.append_eq]
      refine J.pu fun hK => ?_
      refine s_endb ?_
      refine s_endb ?_
      refine s_region ?_
      refine s_q (y_add rfl rfl (by omega)) rfl ?_
      refine s_q (y_move rfl) rfl ?_
      refine s_done ?_
      refine J.perm (Tk.perm (K := [dm D, dms Ds])) ?_
      dsimp only [List.cons_append, List.nil_append]
      refine J.marks ?_
      refine s_invD (j + 1, m, D :: Ds) ⟨(by (try dsimp only); omega), hK.next hjl hrt.2.1⟩ (by (try dsimp only); omega) rfl ⟨rfl, rfl, rfl, rfl, trivial⟩ tk
    · intro D t; exact nomatch t
  have hjl : j = l.length := by omega
  subst hjl
  refine J.fact Mp.nodup fun hmn => ?_
  have hkl := kept_len hr (fun x hx => ((hK x).1 hx).1) hmn
  refine J.openMp fun es clock he => ?_
  refine s_exit rfl ?_
  refine s_seq ?_
  refine s_region ?_
  refine s_q (by (first | exact y_ld rfl rfl rfl (by rfl) | exact y_ldN rfl rfl rfl (by rfl) | exact y_ldK rfl rfl rfl rfl (by assumption) (by omega) | exact y_ldI rfl rfl rfl rfl (by assumption) (by omega) (by omega))) rfl ?_
  refine s_call (pre := []) (rem := _) rfl rfl tk (fun w N ho hl => KeysI_spec w N mb ho) rfl ?_
  rintro e L' ⟨q, rfl, rfl⟩
  try simp only [List.nil_append, List.cons_append, List.append_nil]
  refine s_call (pre := []) (rem := _) rfl rfl tk (fun w N ho hl => Sorted_spec w N 67 _ _ _ ho (KeysI_seq w N q mb _ es clock (KC.ofCb hl (by repeat (first | exact List.mem_cons_self | refine List.mem_cons_of_mem _ ?_))) (KM.ofPt hl (by repeat (first | exact List.mem_cons_self | refine List.mem_cons_of_mem _ ?_))) he) rfl (fun d a h => by have := keysDom_len h; omega) (fun d h => by have := List.Perm.length_eq h; omega)) rfl ?_
  rintro e L' ⟨Y, yc, ys, ⟨xs, hx, hys⟩, rfl, rfl⟩
  try simp only [List.nil_append, List.cons_append, List.append_nil]
  have hyk : ys = keptL l := kept_eq hr hK hmn (by rw [hys]; exact (sortI_perm xs).trans hx) (by rw [hys]; exact sortI_le xs)
  refine s_q (y_assign rfl) rfl ?_
  refine s_done ?_
  rw [hyk]
  exact s_returnM (R := KeptPost l) (Ds := Ds) ⟨Y, yc, rfl, rfl⟩ rfl (res_tmp Tryz.results17 rfl)
end Go.Proofs.YtdbnlgknalencaaGreat
