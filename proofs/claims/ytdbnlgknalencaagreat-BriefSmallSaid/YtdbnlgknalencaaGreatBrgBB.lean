/- Layer 23 (brief): wrong; sums; what variables are worth. -/
import Derived.Test.YtdbnlgknalencaaGreatBrgBA
import Derived.Test.YtdbnlgknalencaaGreatEEb
set_option linter.unusedVariables false
set_option linter.unusedSimpArgs false
namespace Go.Proofs.YtdbnlgknalencaaGreat
open Go Go.E
set_option maxRecDepth 4000
set_option maxHeartbeats 1000000
/-- Briefs, as they lie. -/
structure KBr (w : World) (N : Nat → Prop) (T : Option Addr) (l : List BrD) : Prop where
  blk : KE 3 encBr .no w N T l
  row : ∀ b ∈ l, KR w N b
theorem KBr.of {base w : World} {M N : Nat → Prop} {L : List HP} {T : Option Addr} {l : List BrD} (h : KBr base M T l) (hl : ∀ w', Since w N w' → Sat base M L w') : KBr w N T l := ⟨h.blk.of hl, fun b hb => (h.row b hb).of hl⟩
theorem wrong_spec (w : World) (N : Nat → Prop) (b : BrD) (B : HP) (ho : Owns w [B] N) (hk : KR w N b) (hok : b.ok) : Ret Tryz.prog 32 [.agg (encBr b).toArray] w N fun v L => v = .bool (!rightB b) ∧ L = [B] := by
  refine ret_of_J cx Tryz.func32 rfl (Nat.le_of_ble_eq_true rfl) ho ?_
  refine s_seq ?_
  refine s_region ?_
  first | (refine s_box1 rfl rfl rfl (fun b1 => ?_)) | (refine s_boxA rfl rfl (fun b1 => ?_))
  change J _ _ _ (cb b1 43 (encBr b) :: _) _
  refine s_q (y_assign rfl) rfl ?_
  refine s_done ?_
  refine s_seq ?_
  refine s_region ?_
  refine s_q (by (first | exact y_ldN rfl rfl rfl (by rfl) | exact y_ld rfl rfl rfl (by rfl) | exact y_ldN rfl rfl rfl (by rfl) | exact y_ldK rfl rfl rfl rfl (by assumption) (by omega) | exact y_ldI rfl rfl rfl rfl (by assumption) (by omega) (by omega))) rfl ?_
  refine s_call (pre := []) (rem := _) rfl rfl tk (fun w N ho hl => Right_spec w N b ho (hk.of hl) hok) rfl ?_
  rintro e L' ⟨rfl, rfl⟩
  try simp only [List.nil_append, List.cons_append, List.append_nil]
  refine s_q (by (first | exact y_notT rfl | exact y_notF rfl | exact y_notp rfl | exact y_notb rfl)) rfl ?_
  refine s_q (y_assign rfl) rfl ?_
  refine s_done ?_
  exact s_return ⟨rfl, rfl⟩ (res_tmp Tryz.results32 rfl)
def idxR (p : BrD → Bool) : List BrD → Int → Int
  | [], _ => -1
  | x :: xs, k => if p x = true then k else idxR p xs (k + 1)
theorem idxR_any (p : BrD → Bool) : ∀ (xs : List BrD) (k : Int), 0 ≤ k → (0 ≤ idxR p xs k ↔ xs.any p = true)
  | [], k, h => by simp [idxR]
  | x :: xs, k, h => by
    simp only [idxR, List.any_cons, Bool.or_eq_true]
    by_cases e : p x = true
    · simp [e, h]
    · rw [if_neg e, idxR_any p xs (k + 1) (by omega)]; simp [e]
theorem IndexWrong_spec (w : World) (N : Nat → Prop) (A : Option Addr) (c n : Nat) (xs : List BrD) (hn : n = xs.length) (hk : KBr w N A xs) (hok : ∀ b ∈ xs, b.ok) (ho : Owns w [] N) (hlen : xs.length < 100000000000000) :
    Ret Tryz.prog 46 [.slice A n c, .func (.func 32) #[] #[]] w N fun v L => v = .int .i64 (idxR (fun b => !rightB b) xs 0) ∧ L = [] := by
  subst hn
  have hb := hk.blk
  refine ret_of_J cx Tryz.func46 rfl (Nat.le_of_ble_eq_true rfl) ho ?_
  refine J.puI (p := True) trivial ?_
  refine s_seq ?_
  refine s_region ?_
  refine s_q (y_assign rfl) rfl ?_
  refine s_done ?_
  refine s_seq ?_
  refine s_seq ?_
  refine s_region ?_
  refine s_q (y_move rfl) rfl ?_
  refine s_q (y_lenS rfl rfl rfl) rfl ?_
  refine s_q (y_move rfl) rfl ?_
  refine s_done ?_
  refine s_block ?_
  refine s_loopV (σ := Nat) (fun s => [(8, .int .i64 s)]) (fun s => []) (fun s => (s ≤ xs.length) ∧ (idxR (fun b => !rightB b) (xs.drop s) s = idxR (fun b => !rightB b) xs 0)) (fun s => xs.length - s) (0) [(0, _), (1, _), (7, _)] ⟨rfl, rfl, rfl, trivial⟩ ⟨rfl, trivial⟩ tk ⟨Nat.zero_le _, rfl⟩ ?_
  rintro i ⟨hi, h1⟩
  try dsimp only [List.cons_append, List.nil_append, List.append_nil] at hi h1 ⊢
  refine s_seq ?_
  refine s_region ?_
  refine s_q (y_lss rfl rfl) rfl ?_
  refine s_done ?_
  refine s_seq ?_
  refine s_cond rfl (fun h => ?_) (fun h => ?_)
  · have hil : i < xs.length := by omega
    have hm := getD_mem BrD.no hil
    rw [drop_D .no xs i hil] at h1
    simp only [idxR] at h1
    refine s_skip ?_
    refine s_seq ?_
    refine s_block ?_
    refine s_seq ?_
    refine s_region ?_
    refine s_q (y_move rfl) rfl ?_
    refine s_q (y_assign rfl) rfl ?_
    refine s_done ?_
    refine s_seq ?_
    refine s_region ?_
    refine s_q (y_move rfl) rfl ?_
    refine s_q (y_move rfl) rfl ?_
    refine s_q (y_move rfl) rfl ?_
    refine s_q (by (first | exact y_ixE hb rfl rfl rfl rfl rfl rfl (by omega) (by omega) | exact y_ixI rfl rfl rfl rfl rfl (by assumption) rfl (by omega) (by omega))) rfl ?_
    refine s_q (by (first | exact y_ldE hb rfl rfl rfl (by omega) rfl | exact y_ld rfl rfl rfl (by rfl) | exact y_ldN rfl rfl rfl (by rfl) | exact y_ldK rfl rfl rfl rfl (by assumption) (by omega) | exact y_ldI rfl rfl rfl rfl (by assumption) (by omega) (by omega))) rfl ?_
    refine s_callV (pre := [Go.E.pu True]) (rem := []) (caps := []) rfl rfl rfl (List.Perm.refl _) (fun w N ho hl => wrong_spec w N _ _ ho ((hk.row _ hm).of hl) (hok _ hm)) rfl ?_
    rintro e L' ⟨rfl, rfl⟩
    simp only [List.append_nil]
    refine s_done ?_
    refine s_condb rfl (fun h2 => ?_) (fun h2 => ?_)
    · rw [if_pos h2] at h1
      refine s_seq ?_
      refine s_region ?_
      refine s_q (y_move rfl) rfl ?_
      refine s_q (y_assign rfl) rfl ?_
      refine s_done ?_
      exact s_return ⟨by rw [← h1], rfl⟩ (res_tmp Tryz.results46 rfl)
    · rw [if_neg (by rw [h2]; simp)] at h1
      refine s_skip ?_
      refine s_endb ?_
      refine s_region ?_
      refine s_q (y_add rfl rfl (by omega)) rfl ?_
      refine s_q (y_move rfl) rfl ?_
      refine s_done ?_
      refine s_inv (i + 1) ⟨(by (try dsimp only); omega), h1⟩ (by (try dsimp only); omega) ⟨rfl, rfl, rfl, rfl, trivial⟩ tk
  · have hil : i = xs.length := by omega
    subst hil
    refine s_exit rfl ?_
    refine s_seq ?_
    refine s_region ?_
    refine s_q (y_assign rfl) rfl ?_
    refine s_done ?_
    exact s_return ⟨by rw [← h1]; simp [idxR], rfl⟩ (res_tmp Tryz.results46 rfl)
theorem ContainsWrong_spec (w : World) (N : Nat → Prop) (A : Option Addr) (c n : Nat) (xs : List BrD) (hn : n = xs.length) (hk : KBr w N A xs) (hok : ∀ b ∈ xs, b.ok) (ho : Owns w [] N) (hlen : xs.length < 100000000000000) :
    Ret Tryz.prog 31 [.slice A n c, .func (.func 32) #[] #[]] w N fun v L => v = .bool (!xs.all rightB) ∧ L = [] := by
  subst hn
  refine ret_of_J cx Tryz.func31 rfl (Nat.le_of_ble_eq_true rfl) ho ?_
  refine s_seq ?_
  refine s_region ?_
  refine s_q (y_assign rfl) rfl ?_
  refine s_done ?_
  refine s_seq ?_
  refine s_region ?_
  refine s_q (y_move rfl) rfl ?_
  refine s_q (y_move rfl) rfl ?_
  refine s_call (pre := []) (rem := _) rfl rfl tk (fun w N ho hl => IndexWrong_spec w N A c xs.length xs rfl (hk.of hl) hok ho hlen) rfl ?_
  rintro e L' ⟨rfl, rfl⟩
  try simp only [List.nil_append, List.cons_append, List.append_nil]
  refine s_q (y_geq rfl rfl) rfl ?_
  refine s_q (y_assign rfl) rfl ?_
  refine s_done ?_
  exact s_return ⟨by congr 1; rw [Bool.eq_iff_iff, decide_eq_true_iff]; exact (idxR_any _ xs 0 (Int.le_refl 0)).trans (by simp), rfl⟩ (res_tmp Tryz.results31 rfl)
/-! What a brief adds. -/
def dl : List Int → List Int → List Int → Int → Int
  | v :: vs, c :: cs, e :: es, x => (if v = x then (if c < 0 then -e else e) else 0) + dl vs cs es x
  | _, _, _, _ => 0
def dls : List BrD → Int → Int
  | [], _ => 0
  | b :: l, x => dl b.vars b.cols b.edge x + dls l x
abbrev ki : Int → Value := Value.int .i64
/-- A map from numbers to numbers, as a function: nought where there is nothing. -/
def MF (m : List (Int × Value)) (F : Int → Int) : Prop := ∀ x, (mget x m).getD (ki 0) = ki (F x)
theorem MF.set {m : List (Int × Value)} {F : Int → Int} (h : MF m F) (v n : Int) : MF (mset v (ki n) m) (fun x => if x = v then n else F x) := fun x => by
  rw [mget_mset]
  by_cases e : v = x
  · subst e; simp
  · rw [if_neg e, show (fun x => if x = v then n else F x) x = F x from if_neg (Ne.symm e)]; exact h x
abbrev encSum (b : BrD) (mb : Nat) : List Value := [.slice b.A b.vars.length b.c, .slice b.B b.cols.length b.d, .slice b.C b.edge.length b.e, .map (some mb)]
theorem add_spec (w : World) (N : Nat → Prop) (b : BrD) (mb : Nat) (m : List (Int × Value)) (F : Int → Int) (Bd : Int) (ho : Owns w [Mp ki mb m] N) (hk : KR w N b) (hr : rightB b = true) (hv : b.vars.length ≤ 200) (hF : MF m F) (hB : ∀ x, -Bd ≤ F x ∧ F x ≤ Bd) (hBd : Bd ≤ 500000000000000000) :
    Ret Tryz.prog 33 [.agg (encSum b mb).toArray] w N fun v L => ∃ m', v = .tuple #[] ∧ L = [Mp ki mb m'] ∧ MF m' (fun x => F x + dl b.vars b.cols b.edge x) := by
  simp only [rightB, Bool.and_eq_true, decide_eq_true_eq, List.all_eq_true, inB] at hr
  obtain ⟨h1, h2, h3, h4, h5⟩ := hr
  have hkv := hk.v
  have hkc := hk.c
  have hke := hk.e
  refine ret_of_J cx Tryz.func33 rfl (Nat.le_of_ble_eq_true rfl) ho ?_
  refine s_seq ?_
  refine s_region ?_
  first | (refine s_box1 rfl rfl rfl (fun b1 => ?_)) | (refine s_boxA rfl rfl (fun b1 => ?_))
  change J _ _ _ (cb b1 61 (encSum b mb) :: _) _
  refine s_done ?_
  refine s_seq ?_
  refine s_region ?_
  refine s_q (by (first | exact y_fieldAddrB rfl rfl rfl rfl rfl rfl | exact y_fieldAddr rfl rfl rfl rfl rfl rfl)) rfl ?_
  refine s_q (by (first | exact y_fieldAddrB rfl rfl rfl rfl rfl rfl | exact y_fieldAddr rfl rfl rfl rfl rfl rfl)) rfl ?_
  refine s_q (by (first | exact y_ld rfl rfl rfl (by rfl) | exact y_ldN rfl rfl rfl (by rfl) | exact y_ldK rfl rfl rfl rfl (by assumption) (by omega) | exact y_ldI rfl rfl rfl rfl (by assumption) (by omega) (by omega))) rfl ?_
  refine s_q (y_lenS rfl rfl rfl) rfl ?_
  refine s_q (y_move rfl) rfl ?_
  refine s_done ?_
  refine s_block ?_
  refine s_loopV (σ := Nat × List (Int × Value) × (Int → Int)) (fun s => [(9, .int .i64 s.1)]) (fun s => [Mp ki mb s.2.1]) (fun s => (s.1 ≤ b.vars.length) ∧ (MF s.2.1 s.2.2) ∧ (∀ x, s.2.2 x + dl (b.vars.drop s.1) (b.cols.drop s.1) (b.edge.drop s.1) x = F x + dl b.vars b.cols b.edge x) ∧ (∀ x, -Bd - 1099511627776 * s.1 ≤ s.2.2 x ∧ s.2.2 x ≤ Bd + 1099511627776 * s.1)) (fun s => b.vars.length - s.1) (0, m, F) [(1, _), (7, _), (8, _)] ⟨rfl, rfl, rfl, trivial⟩ ⟨rfl, trivial⟩ tk ⟨Nat.zero_le _, hF, fun x => rfl, fun x => by have := hB x; dsimp only; omega⟩ ?_
  rintro ⟨k, m, f⟩ ⟨hk2, hf, hs, hb⟩
  try dsimp only [List.cons_append, List.nil_append, List.append_nil] at hk2 hf hs hb ⊢
  refine s_seq ?_
  refine s_region ?_
  refine s_q (y_lss rfl rfl) rfl ?_
  refine s_done ?_
  refine s_seq ?_
  refine s_cond rfl (fun h => ?_) (fun h => ?_)
  · have hkl : k < b.vars.length := by omega
    have he := h5 _ (getD_mem 0 (k := k) (by omega))
    rw [drop_D 0 b.vars k hkl, drop_D 0 b.cols k (by omega), drop_D 0 b.edge k (by omega)] at hs
    refine s_skip ?_
    refine s_seq ?_
    refine s_block ?_
    refine s_seq ?_
    refine s_region ?_
    refine s_q (y_move rfl) rfl ?_
    refine s_q (by (first | exact y_ixI rfl rfl rfl rfl rfl hkv rfl (by omega) (by omega) | exact y_ixI rfl rfl rfl rfl rfl (by assumption) rfl (by omega) (by omega))) rfl ?_
    refine s_q (by (first | exact y_ldK rfl rfl rfl rfl hkv (by omega) | exact y_ld rfl rfl rfl (by rfl) | exact y_ldN rfl rfl rfl (by rfl) | exact y_ldK rfl rfl rfl rfl (by assumption) (by omega) | exact y_ldI rfl rfl rfl rfl (by assumption) (by omega) (by omega))) rfl ?_
    refine s_q (y_assign rfl) rfl ?_
    refine s_q (y_assign rfl) rfl ?_
    refine s_done ?_
    refine s_seq ?_
    refine s_region ?_
    refine s_q (by (first | exact y_fieldAddrB rfl rfl rfl rfl rfl rfl | exact y_fieldAddr rfl rfl rfl rfl rfl rfl)) rfl ?_
    refine s_q (by (first | exact y_fieldAddrB rfl rfl rfl rfl rfl rfl | exact y_fieldAddr rfl rfl rfl rfl rfl rfl)) rfl ?_
    refine s_q (by (first | exact y_ldK rfl rfl rfl rfl hkv (by omega) | exact y_ld rfl rfl rfl (by rfl) | exact y_ldN rfl rfl rfl (by rfl) | exact y_ldK rfl rfl rfl rfl (by assumption) (by omega) | exact y_ldI rfl rfl rfl rfl (by assumption) (by omega) (by omega))) rfl ?_
    refine s_q (y_move rfl) rfl ?_
    refine s_q (by (first | exact y_ixI rfl rfl rfl rfl rfl hkv rfl (by omega) (by omega) | exact y_ixI rfl rfl rfl rfl rfl (by assumption) rfl (by omega) (by omega))) rfl ?_
    refine s_q (by (first | exact y_ldK rfl rfl rfl rfl hkv (by omega) | exact y_ld rfl rfl rfl (by rfl) | exact y_ldN rfl rfl rfl (by rfl) | exact y_ldK rfl rfl rfl rfl (by assumption) (by omega) | exact y_ldI rfl rfl rfl rfl (by assumption) (by omega) (by omega))) rfl ?_
    refine s_q (y_assign rfl) rfl ?_
    refine s_done ?_
    refine s_seq ?_
    refine s_joinV (σ := Int) (fun s => [(4, .int .i64 s)]) [] (fun s => []) (fun s => (s = (if b.cols.getD k 0 < 0 then -(b.edge.getD k 0) else b.edge.getD k 0))) [(1, _), (3, _), (7, _), (8, _), (9, _)] ⟨rfl, rfl, rfl, rfl, rfl, trivial⟩ tk (fun k' hr => ?_) ?_
    · refine s_seq ?_
      refine s_region ?_
      refine s_q (by (first | exact y_fieldAddrB rfl rfl rfl rfl rfl rfl | exact y_fieldAddr rfl rfl rfl rfl rfl rfl)) rfl ?_
      refine s_q (by (first | exact y_fieldAddrB rfl rfl rfl rfl rfl rfl | exact y_fieldAddr rfl rfl rfl rfl rfl rfl)) rfl ?_
      refine s_q (by (first | exact y_ldK rfl rfl rfl rfl hkc (by omega) | exact y_ld rfl rfl rfl (by rfl) | exact y_ldN rfl rfl rfl (by rfl) | exact y_ldK rfl rfl rfl rfl (by assumption) (by omega) | exact y_ldI rfl rfl rfl rfl (by assumption) (by omega) (by omega))) rfl ?_
      refine s_q (y_move rfl) rfl ?_
      refine s_q (by (first | exact y_ixI rfl rfl rfl rfl rfl hkc rfl (by omega) (by omega) | exact y_ixI rfl rfl rfl rfl rfl (by assumption) rfl (by omega) (by omega))) rfl ?_
      refine s_q (by (first | exact y_ldK rfl rfl rfl rfl hkc (by omega) | exact y_ld rfl rfl rfl (by rfl) | exact y_ldN rfl rfl rfl (by rfl) | exact y_ldK rfl rfl rfl rfl (by assumption) (by omega) | exact y_ldI rfl rfl rfl rfl (by assumption) (by omega) (by omega))) rfl ?_
      refine s_q (y_lss rfl rfl) rfl ?_
      refine s_done ?_
      refine s_cond rfl (fun g => ?_) (fun g => ?_)
      · refine s_region ?_
        refine s_q (y_move rfl) rfl ?_
        refine s_q (by (first | exact y_neg rfl (by omega) | exact y_notT rfl | exact y_notF rfl | exact y_notp rfl | exact y_notb rfl)) rfl ?_
        refine s_q (y_assign rfl) rfl ?_
        refine s_done ?_
        have hr' := hr (-(b.edge.getD k 0)) (by rw [if_pos g])
        try dsimp only [List.cons_append, List.nil_append, List.append_nil] at hr'
        exact J.to hr' ⟨rfl, rfl, rfl, rfl, rfl, rfl, trivial⟩ tk
      · refine s_skip ?_
        have hr' := hr (b.edge.getD k 0) (by rw [if_neg g])
        try dsimp only [List.cons_append, List.nil_append, List.append_nil] at hr'
        exact J.to hr' ⟨rfl, rfl, rfl, rfl, rfl, rfl, trivial⟩ tk
    rintro z hz
    dsimp only [List.cons_append, List.nil_append] at hz ⊢
    have hfk := hb (b.vars.getD k 0)
    have hzb : -1099511627776 ≤ z ∧ z ≤ 1099511627776 := by rw [hz]; split <;> omega
    refine s_region ?_
    refine s_q (by (first | exact y_fieldAddrB rfl rfl rfl rfl rfl rfl | exact y_fieldAddr rfl rfl rfl rfl rfl rfl)) rfl ?_
    refine s_q (by (first | exact y_ld rfl rfl rfl (by rfl) | exact y_ldN rfl rfl rfl (by rfl) | exact y_ldK rfl rfl rfl rfl (by assumption) (by omega) | exact y_ldI rfl rfl rfl rfl (by assumption) (by omega) (by omega))) rfl ?_
    refine s_q (y_move rfl) rfl ?_
    refine s_q (y_lookupV (hf _) rfl rfl rfl (kt_int (by kernel_rfl)) rfl rfl (.inr ⟨rfl, rfl⟩)) rfl ?_
    refine s_q (y_move rfl) rfl ?_
    refine s_q (y_add rfl rfl (by omega)) rfl ?_
    refine s_mapUpdate rfl rfl rfl rfl (kt_int (by kernel_rfl)) rfl ?_
    refine s_done ?_
    refine s_endb ?_
    refine s_region ?_
    refine s_q (y_add rfl rfl (by omega)) rfl ?_
    refine s_q (y_move rfl) rfl ?_
    refine s_done ?_
    refine s_inv (k + 1, mset (b.vars.getD k 0) (ki (f (b.vars.getD k 0) + z)) m, fun x => if x = b.vars.getD k 0 then f (b.vars.getD k 0) + z else f x) ⟨(by (try dsimp only); omega), hf.set _ _, fun x => ?_, fun x => ?_⟩ (by (try dsimp only); omega) ⟨rfl, rfl, rfl, rfl, trivial⟩ tk
    · have := hs x
      simp only [dl] at this
      dsimp only
      by_cases e : x = b.vars.getD k 0
      · rw [if_pos e]; rw [if_pos e.symm, ← hz] at this; rw [← e]; omega
      · rw [if_neg e]; rw [if_neg (Ne.symm e)] at this; omega
    · have := hb x
      dsimp only
      split <;> omega
  · have hkl : k = b.vars.length := by omega
    subst hkl
    simp only [List.drop_length, dl] at hs
    refine s_exit rfl ?_
    exact s_end (R := fun v L => ∃ m', v = .tuple #[] ∧ L = [Mp ki mb m'] ∧ MF m' (fun x => F x + dl b.vars b.cols b.edge x)) ⟨m, rfl, rfl, fun x => by rw [hf x]; exact congrArg ki (by have := hs x; simpa using this)⟩ (res_none Tryz.results33)
theorem risB_len : ∀ (xs : List Int) (p : Int), p ≤ 200 → risB p xs = true → (xs.length : Int) ≤ 200 - p
  | [], p, h, _ => by simp; omega
  | v :: r, p, h, hr => by
    simp only [risB, Bool.and_eq_true, decide_eq_true_eq] at hr
    have := risB_len r v hr.1.2 hr.2
    simp only [List.length_cons]; omega
theorem risB_lt : ∀ (xs : List Int) (p : Int), risB p xs = true → (∀ x ∈ xs, p < x ∧ x ≤ 200) ∧ xs.Pairwise (· < ·)
  | [], p, _ => ⟨fun x hx => absurd hx List.not_mem_nil, List.Pairwise.nil⟩
  | v :: r, p, hr => by
    simp only [risB, Bool.and_eq_true, decide_eq_true_eq] at hr
    obtain ⟨h1, h2⟩ := risB_lt r v hr.2
    refine ⟨fun x hx => ?_, List.pairwise_cons.2 ⟨fun x hx => (h1 x hx).1, h2⟩⟩
    rcases List.mem_cons.1 hx with rfl | hx
    · exact hr.1
    · have := h1 x hx; omega
theorem risB_ne {xs : List Int} {p : Int} (h : risB p xs = true) {i j : Nat} (hi : i < xs.length) (hj : j < xs.length) (hij : i ≠ j) : xs.getD i 0 ≠ xs.getD j 0 := by
  have hp := (risB_lt xs p h).2
  have key : ∀ i j, i < j → (hj : j < xs.length) → xs.getD i 0 < xs.getD j 0 := fun i j hij hj => by
    have := List.pairwise_iff_getElem.1 hp i j (by omega) hj hij
    rw [List.getD_eq_getElem?_getD, List.getD_eq_getElem?_getD, List.getElem?_eq_getElem hj, List.getElem?_eq_getElem (by omega)]; exact this
  rcases Nat.lt_or_gt_of_ne hij with h | h
  · have := key i j h hj; omega
  · have := key j i h hi; omega
theorem dl_zero : ∀ (vs cs es : List Int) (x : Int), x ∉ vs → dl vs cs es x = 0
  | [], _, _, _, _ => by simp [dl]
  | _ :: _, [], _, _, _ => by simp [dl]
  | _ :: _, _ :: _, [], _, _ => by simp [dl]
  | v :: vs, c :: cs, e :: es, x, h => by
    simp only [List.mem_cons, not_or] at h
    simp only [dl, dl_zero vs cs es x h.2, if_neg (Ne.symm h.1)]; rfl
theorem dl_bound : ∀ (vs cs es : List Int) (p x : Int), risB p vs = true → (∀ e ∈ es, 0 ≤ e ∧ e ≤ 1099511627776) → -1099511627776 ≤ dl vs cs es x ∧ dl vs cs es x ≤ 1099511627776
  | [], _, _, _, _, _, _ => by simp [dl]
  | _ :: _, [], _, _, _, _, _ => by simp [dl]
  | _ :: _, _ :: _, [], _, _, _, _ => by simp [dl]
  | v :: vs, c :: cs, e :: es, p, x, h, he => by
    simp only [risB, Bool.and_eq_true] at h
    have h1 := he e List.mem_cons_self
    have ih := dl_bound vs cs es v x h.2 (fun y hy => he y (List.mem_cons_of_mem _ hy))
    simp only [dl]
    by_cases hx : v = x
    · subst hx
      have : dl vs cs es v = 0 := dl_zero vs cs es v (fun hm => by have := (risB_lt vs v h.2).1 v hm; omega)
      rw [if_pos rfl, this]; split <;> omega
    · rw [if_neg hx]; omega
theorem dl_le (b : BrD) (h : rightB b = true) (x : Int) : -1099511627776 ≤ dl b.vars b.cols b.edge x ∧ dl b.vars b.cols b.edge x ≤ 1099511627776 := by
  simp only [rightB, Bool.and_eq_true, decide_eq_true_eq, List.all_eq_true, inB] at h
  exact dl_bound _ _ _ 0 x h.1 h.2.2.2.2
theorem right_vars {b : BrD} (h : rightB b = true) : b.vars.length ≤ 200 := by
  simp only [rightB, Bool.and_eq_true] at h
  have := risB_len b.vars 0 (by omega) h.1; omega
def wrongW (vars weight : List Int) (l : List BrD) : Bool := !risB 0 vars || (!decide (weight.length = vars.length) || (!weight.all (inB 0 1099511627776) || (decide (200 < l.length) || !l.all rightB)))
def worthL (vars weight : List Int) (l : List BrD) : List Int := (List.range vars.length).map fun i => max (weight.getD i 0 + dls l (vars.getD i 0)) 0
def worthO (vars weight : List Int) (l : List BrD) : List Int := if wrongW vars weight l = true then [] else worthL vars weight l
def worthE (vars weight : List Int) (l : List BrD) : Int := if wrongW vars weight l = true then 2 else 0
def WorthPost (vars weight : List Int) (l : List BrD) (v : Value) (L : List HP) : Prop := ∃ (G : Option Addr) (g : Nat), v = .tuple #[.slice G (worthO vars weight l).length g, .int .i64 (worthE vars weight l)] ∧ L = [Sl 3 1 G (worthO vars weight l).length g (ints (worthO vars weight l))]
theorem worthL_snoc (vars weight : List Int) (l : List BrD) (i : Nat) (h : i < vars.length) : (worthL vars weight l).take (i + 1) = (worthL vars weight l).take i ++ [max (weight.getD i 0 + dls l (vars.getD i 0)) 0] := by
  rw [take_D 0 (by simpa [worthL] using h)]; congr 2
  have e : (List.range vars.length).getD i 0 = i := by rw [List.getD_eq_getElem?_getD, List.getElem?_range h]; rfl
  rw [worthL, getD_map (d := 0) _ _ (by simpa using h), e]
theorem Worth_spec (w : World) (N : Nat → Prop) (A B T : Option Addr) (c d t n p q : Nat) (vars weight : List Int) (l : List BrD) (hn : n = vars.length) (hp : p = weight.length) (hq : q = l.length) (ho : Owns w [] N) (hv : KI w N A vars) (hw : KI w N B weight) (hl0 : KBr w N T l) (hok : ∀ b ∈ l, b.ok) (h1 : vars.length < 100000000000000) (h2 : weight.length < 100000000000000) (h3 : l.length < 100000000000000) :
    Ret Tryz.prog 10 [.slice A n c, .slice B p d, .slice T q t] w N (WorthPost vars weight l) := by
  subst hn hp hq
  refine ret_of_J cx Tryz.func10 rfl (Nat.le_of_ble_eq_true rfl) ho ?_
  refine s_seq ?_
  refine s_region ?_
  refine s_q (y_assign rfl) rfl ?_
  refine s_q (y_assign rfl) rfl ?_
  refine s_done ?_
  refine s_seq ?_
  refine s_seq ?_
  have bad : wrongW vars weight l = true → worthO vars weight l = [] ∧ worthE vars weight l = 2 := fun h => ⟨by rw [worthO, if_pos h], by rw [worthE, if_pos h]⟩
  refine s_joinV (σ := Bool) (fun s => [(38, .bool s)]) [] (fun s => []) (fun s => (s = wrongW vars weight l)) [(0, _), (1, _), (2, _), (6, _)] ⟨rfl, rfl, rfl, rfl, trivial⟩ tk (fun k' hr => ?_) ?_
  · refine s_region ?_
    refine s_q (y_move rfl) rfl ?_
    refine s_call (pre := []) (rem := _) rfl rfl tk (fun w N ho hl => rising_spec w N A c _ vars rfl ho (hv.of hl) h1) rfl ?_
    rintro e L' ⟨rfl, rfl⟩
    try simp only [List.nil_append, List.cons_append, List.append_nil]
    refine s_q (by (first | exact y_notT rfl | exact y_notF rfl | exact y_notp rfl | exact y_notb rfl)) rfl ?_
    refine s_q (y_move rfl) rfl ?_
    first | refine J.split (t := 16) rfl (fun c1 => ?_) (fun c1 => ?_) | refine J.splitb (t := 16) rfl (fun c1 => ?_) (fun c1 => ?_)
    · skip
      first | refine J.known (t := 18) (b := false) rfl (decide_eq_false (not_not_intro c1)) ?_ | refine J.known (t := 18) (b := false) rfl (congrArg not c1) ?_
      refine s_guard rfl rfl ?_
      refine s_q (y_move rfl) rfl ?_
      refine s_guard rfl rfl ?_
      refine s_q (y_lenS rfl rfl rfl) rfl ?_
      refine s_guard rfl rfl ?_
      refine s_q (y_move rfl) rfl ?_
      refine s_guard rfl rfl ?_
      refine s_q (y_lenS rfl rfl rfl) rfl ?_
      refine s_guard rfl rfl ?_
      refine s_q (by (first | exact y_neq rfl rfl | exact y_neqB rfl rfl rfl)) rfl ?_
      refine s_q (y_pickF rfl rfl) rfl ?_
      refine s_q (y_move rfl) rfl ?_
      first | refine J.split (t := 23) rfl (fun c2 => ?_) (fun c2 => ?_) | refine J.splitb (t := 23) rfl (fun c2 => ?_) (fun c2 => ?_)
      · skip
        first | refine J.known (t := 25) (b := true) rfl (decide_eq_true c2) ?_ | refine J.known (t := 25) (b := true) rfl c2 ?_
        refine s_unguard2 (b := true) rfl rfl rfl rfl rfl ?_
        refine s_unguard2 (b := true) rfl rfl rfl rfl rfl ?_
        refine s_unguard2 (b := true) rfl rfl rfl rfl rfl ?_
        refine s_q (y_pickT rfl rfl) rfl ?_
        refine s_q (y_move rfl) rfl ?_
        refine s_unguard2 (b := true) rfl rfl rfl rfl rfl ?_
        refine s_unguard2 (b := true) rfl rfl rfl rfl rfl ?_
        refine s_unguard2 (b := true) rfl rfl rfl rfl rfl ?_
        refine s_q (y_pickT rfl rfl) rfl ?_
        refine s_q (y_move rfl) rfl ?_
        refine s_unguard2 (b := true) rfl rfl rfl rfl rfl ?_
        refine s_unguard2 (b := true) rfl rfl rfl rfl rfl ?_
        refine s_q (y_pickT rfl rfl) rfl ?_
        refine s_done ?_
        have hr' := hr true (by simp only [wrongW]; grind)
        try dsimp only [List.cons_append, List.nil_append, List.append_nil] at hr'
        exact J.to hr' ⟨rfl, rfl, rfl, rfl, rfl, trivial⟩ tk
      first | refine J.known (t := 25) (b := false) rfl (decide_eq_false c2) ?_ | refine J.known (t := 25) (b := false) rfl c2 ?_
      refine s_guard rfl rfl ?_
      refine s_q (y_move rfl) rfl ?_
      refine s_guard rfl rfl ?_
      refine s_call (pre := []) (rem := _) rfl rfl tk (fun w N ho hl => outside_spec w N 0 1099511627776 ho) rfl ?_
      rintro e L' ⟨p, q, rfl, rfl⟩
      try simp only [List.nil_append, List.cons_append, List.append_nil]
      refine (J.group (K := [cb q 3 [.int .i64 1099511627776], cb p 3 [.int .i64 0]])).1 ?_
      refine s_guard rfl rfl ?_
      refine s_call (pre := [star [cb q 3 [.int .i64 1099511627776], cb p 3 [.int .i64 0]]]) (rem := _) rfl rfl tk (fun w N ho hl => ContainsFuncI_spec w N B d weight.length weight 45 _ _ _ rfl rfl (hw.of hl) ho h2 (fun w' N' x ho' => outside1_spec w' N' 0 1099511627776 x p q ho')) rfl ?_
      rintro e L' ⟨rfl, rfl⟩
      try simp only [List.nil_append, List.cons_append, List.append_nil]
      rw [outside_any]
      refine s_q (y_pickF rfl rfl) rfl ?_
      refine s_q (y_move rfl) rfl ?_
      first | refine J.split (t := 28) rfl (fun c3 => ?_) (fun c3 => ?_) | refine J.splitb (t := 28) rfl (fun c3 => ?_) (fun c3 => ?_)
      · skip
        first | refine J.known (t := 30) (b := true) rfl (decide_eq_true c3) ?_ | refine J.known (t := 30) (b := true) rfl c3 ?_
        refine s_unguard2 (b := true) rfl rfl rfl rfl rfl ?_
        refine s_unguard2 (b := true) rfl rfl rfl rfl rfl ?_
        refine s_unguard2 (b := true) rfl rfl rfl rfl rfl ?_
        refine s_q (y_pickT rfl rfl) rfl ?_
        refine s_q (y_move rfl) rfl ?_
        refine s_unguard2 (b := true) rfl rfl rfl rfl rfl ?_
        refine s_unguard2 (b := true) rfl rfl rfl rfl rfl ?_
        refine s_q (y_pickT rfl rfl) rfl ?_
        refine s_done ?_
        have hr' := hr true (by simp only [wrongW]; grind)
        try dsimp only [List.cons_append, List.nil_append, List.append_nil] at hr'
        exact J.to hr' ⟨rfl, rfl, rfl, rfl, rfl, trivial⟩ tk
      first | refine J.known (t := 30) (b := false) rfl (decide_eq_false c3) ?_ | refine J.known (t := 30) (b := false) rfl c3 ?_
      refine s_guard rfl rfl ?_
      refine s_q (y_move rfl) rfl ?_
      refine s_guard rfl rfl ?_
      refine s_q (y_lenS rfl rfl rfl) rfl ?_
      refine s_guard rfl rfl ?_
      refine s_q (y_gtr rfl rfl) rfl ?_
      refine s_q (y_pickF rfl rfl) rfl ?_
      refine s_q (y_move rfl) rfl ?_
      first | refine J.split (t := 33) rfl (fun c4 => ?_) (fun c4 => ?_) | refine J.splitb (t := 33) rfl (fun c4 => ?_) (fun c4 => ?_)
      · skip
        first | refine J.known (t := 35) (b := true) rfl (decide_eq_true c4) ?_ | refine J.known (t := 35) (b := true) rfl c4 ?_
        refine s_unguard2 (b := true) rfl rfl rfl rfl rfl ?_
        refine s_unguard2 (b := true) rfl rfl rfl rfl rfl ?_
        refine s_q (y_pickT rfl rfl) rfl ?_
        refine s_done ?_
        have hr' := hr true (by simp only [wrongW]; grind)
        try dsimp only [List.cons_append, List.nil_append, List.append_nil] at hr'
        exact J.to hr' ⟨rfl, rfl, rfl, rfl, rfl, trivial⟩ tk
      first | refine J.known (t := 35) (b := false) rfl (decide_eq_false c4) ?_ | refine J.known (t := 35) (b := false) rfl c4 ?_
      refine s_guard rfl rfl ?_
      refine s_q (y_move rfl) rfl ?_
      refine s_guard rfl rfl ?_
      refine s_call (pre := []) (rem := _) rfl rfl tk (fun w N ho hl => ContainsWrong_spec w N T t l.length l rfl (hl0.of hl) hok ho h3) rfl ?_
      rintro e L' ⟨rfl, rfl⟩
      try simp only [List.nil_append, List.cons_append, List.append_nil]
      refine s_q (y_pickF rfl rfl) rfl ?_
      refine s_done ?_
      first | refine J.split (t := 37) rfl (fun c5 => ?_) (fun c5 => ?_) | refine J.splitb (t := 37) rfl (fun c5 => ?_) (fun c5 => ?_)
      · skip
        first | refine J.known (t := 38) (b := true) rfl (decide_eq_true c5) ?_ | refine J.known (t := 38) (b := true) rfl c5 ?_
        have hr' := hr true (by simp only [wrongW]; grind)
        try dsimp only [List.cons_append, List.nil_append, List.append_nil] at hr'
        exact J.to hr' ⟨rfl, rfl, rfl, rfl, rfl, trivial⟩ tk
      first | refine J.known (t := 38) (b := false) rfl (decide_eq_false c5) ?_ | refine J.known (t := 38) (b := false) rfl c5 ?_
      have hr' := hr false (by simp only [wrongW]; grind)
      try dsimp only [List.cons_append, List.nil_append, List.append_nil] at hr'
      exact J.to hr' ⟨rfl, rfl, rfl, rfl, rfl, trivial⟩ tk
    first | refine J.known (t := 18) (b := true) rfl (decide_eq_true c1) ?_ | refine J.known (t := 18) (b := true) rfl (congrArg not c1) ?_
    refine s_unguard2 (b := true) rfl rfl rfl rfl rfl ?_
    refine s_unguard2 (b := true) rfl rfl rfl rfl rfl ?_
    refine s_unguard2 (b := true) rfl rfl rfl rfl rfl ?_
    refine s_unguard2 (b := true) rfl rfl rfl rfl rfl ?_
    refine s_unguard2 (b := true) rfl rfl rfl rfl rfl ?_
    refine s_q (y_pickT rfl rfl) rfl ?_
    refine s_q (y_move rfl) rfl ?_
    refine s_unguard2 (b := true) rfl rfl rfl rfl rfl ?_
    refine s_unguard2 (b := true) rfl rfl rfl rfl rfl ?_
    refine s_unguard2 (b := true) rfl rfl rfl rfl rfl ?_
    refine s_q (y_pickT rfl rfl) rfl ?_
    refine s_q (y_move rfl) rfl ?_
    refine s_unguard2 (b := true) rfl rfl rfl rfl rfl ?_
    refine s_unguard2 (b := true) rfl rfl rfl rfl rfl ?_
    refine s_unguard2 (b := true) rfl rfl rfl rfl rfl ?_
    refine s_q (y_pickT rfl rfl) rfl ?_
    refine s_q (y_move rfl) rfl ?_
    refine s_unguard2 (b := true) rfl rfl rfl rfl rfl ?_
    refine s_unguard2 (b := true) rfl rfl rfl rfl rfl ?_
    refine s_q (y_pickT rfl rfl) rfl ?_
    refine s_done ?_
    have hr' := hr true (by simp only [wrongW]; grind)
    try dsimp only [List.cons_append, List.nil_append, List.append_nil] at hr'
    exact J.to hr' ⟨rfl, rfl, rfl, rfl, rfl, trivial⟩ tk
  rintro b hb
  dsimp only [List.cons_append, List.nil_append] at hb ⊢
  cases b with
  | true =>
    obtain ⟨e1, e2⟩ := bad hb.symm
    refine s_condT2 rfl (by with_reducible rfl) ?_
    refine s_seq ?_
    refine s_region ?_
    refine s_q (y_assign rfl) rfl ?_
    refine s_q (y_assign rfl) rfl ?_
    refine s_done ?_
    refine J.emp (B := Sl 3 1 none 0 0 (ints [])) (Sl.ofNil _ _) ?_
    exact s_return (R := WorthPost vars weight l) ⟨none, 0, by rw [e1, e2, List.length_nil], by rw [e1, List.length_nil]⟩ (res_tmp2 Tryz.results10 rfl rfl)
  | false =>
  have e1 : worthO vars weight l = worthL vars weight l := by rw [worthO, ← hb]; simp
  have e2 : worthE vars weight l = 0 := by rw [worthE, ← hb]; simp
  have hw0 : wrongW vars weight l = false := hb.symm
  simp only [wrongW, Bool.or_eq_false_iff, Bool.not_eq_false', decide_eq_true_eq, decide_eq_false_iff_not, List.all_eq_true] at hw0
  obtain ⟨g1, g2, g3, g4, g5⟩ := hw0
  have hvl := risB_len vars 0 (by omega) g1
  clear hb bad
  refine s_condF2 rfl (by with_reducible rfl) ?_
  refine s_skip ?_
  refine s_seq ?_
  refine s_region ?_
  refine s_makeMap ki rfl (fun mb => ?_)
  refine s_q (y_assign rfl) rfl ?_
  refine s_done ?_
  refine s_seq ?_
  refine s_seq ?_
  refine s_region ?_
  refine s_q (y_move rfl) rfl ?_
  refine s_q (y_lenS rfl rfl rfl) rfl ?_
  refine s_q (y_move rfl) rfl ?_
  refine s_done ?_
  refine s_block ?_
  refine s_loopV (σ := Nat × List (Int × Value) × (Int → Int)) (fun s => [(42, .int .i64 s.1)]) (fun s => [Mp ki mb s.2.1]) (fun s => (s.1 ≤ vars.length) ∧ (MF s.2.1 s.2.2) ∧ (∀ j, j < s.1 → s.2.2 (vars.getD j 0) = weight.getD j 0) ∧ (∀ x, 0 ≤ s.2.2 x ∧ s.2.2 x ≤ 1099511627776)) (fun s => vars.length - s.1) (0, [], fun _ => 0) [(0, _), (1, _), (2, _), (6, _), (8, _), (40, _), (41, _)] ⟨rfl, rfl, rfl, rfl, rfl, rfl, rfl, trivial⟩ ⟨rfl, trivial⟩ tk ⟨Nat.zero_le _, fun x => rfl, fun j hj => absurd hj (Nat.not_lt_zero j), fun x => by simp⟩ ?_
  rintro ⟨k, m, f⟩ ⟨hk, hf, hs, hb⟩
  try dsimp only [List.cons_append, List.nil_append, List.append_nil] at hk hf hs hb ⊢
  refine s_seq ?_
  refine s_region ?_
  refine s_q (y_lss rfl rfl) rfl ?_
  refine s_done ?_
  refine s_seq ?_
  refine s_cond rfl (fun h => ?_) (fun h => ?_)
  · have hkl : k < vars.length := by omega
    have hwk := g3 _ (getD_mem 0 (k := k) (by omega))
    simp only [inB, decide_eq_true_eq] at hwk
    refine s_skip ?_
    refine s_seq ?_
    refine s_block ?_
    refine s_seq ?_
    refine s_region ?_
    refine s_q (y_move rfl) rfl ?_
    refine s_q (by (first | exact y_ixI rfl rfl rfl rfl rfl hv rfl (by omega) (by omega) | exact y_ixI rfl rfl rfl rfl rfl hw rfl (by omega) (by omega) | exact y_ixI rfl rfl rfl rfl rfl (by assumption) rfl (by omega) (by omega))) rfl ?_
    refine s_q (by (first | exact y_ldK rfl rfl rfl rfl hv (by omega) | exact y_ldK rfl rfl rfl rfl hw (by omega) | exact y_ld rfl rfl rfl (by rfl) | exact y_ldN rfl rfl rfl (by rfl) | exact y_ldK rfl rfl rfl rfl (by assumption) (by omega) | exact y_ldI rfl rfl rfl rfl (by assumption) (by omega) (by omega))) rfl ?_
    refine s_q (y_assign rfl) rfl ?_
    refine s_q (y_assign rfl) rfl ?_
    refine s_done ?_
    refine s_region ?_
    refine s_q (y_move rfl) rfl ?_
    refine s_q (y_move rfl) rfl ?_
    refine s_q (y_move rfl) rfl ?_
    refine s_q (y_move rfl) rfl ?_
    refine s_q (by (first | exact y_ixI rfl rfl rfl rfl rfl hv rfl (by omega) (by omega) | exact y_ixI rfl rfl rfl rfl rfl hw rfl (by omega) (by omega) | exact y_ixI rfl rfl rfl rfl rfl (by assumption) rfl (by omega) (by omega))) rfl ?_
    refine s_q (by (first | exact y_ldK rfl rfl rfl rfl hv (by omega) | exact y_ldK rfl rfl rfl rfl hw (by omega) | exact y_ld rfl rfl rfl (by rfl) | exact y_ldN rfl rfl rfl (by rfl) | exact y_ldK rfl rfl rfl rfl (by assumption) (by omega) | exact y_ldI rfl rfl rfl rfl (by assumption) (by omega) (by omega))) rfl ?_
    refine s_mapUpdate rfl rfl rfl rfl (kt_int (by kernel_rfl)) rfl ?_
    refine s_done ?_
    refine s_endb ?_
    refine s_region ?_
    refine s_q (y_add rfl rfl (by omega)) rfl ?_
    refine s_q (y_move rfl) rfl ?_
    refine s_done ?_
    refine s_inv (k + 1, mset (vars.getD k 0) (ki (weight.getD k 0)) m, fun x => if x = vars.getD k 0 then weight.getD k 0 else f x) ⟨(by (try dsimp only); omega), hf.set _ _, fun j hj => ?_, fun x => ?_⟩ (by (try dsimp only); omega) ⟨rfl, rfl, rfl, rfl, rfl, rfl, rfl, rfl, trivial⟩ tk
    · dsimp only at hj ⊢
      by_cases e : j = k
      · subst e; rw [if_pos rfl]
      · rw [if_neg (risB_ne g1 (by omega) hkl e)]; exact hs j (by omega)
    · have := hb x
      dsimp only
      split <;> omega
  have hkl : k = vars.length := by omega
  subst hkl
  obtain ⟨F0, hF0⟩ : ∃ F0, f = F0 := ⟨_, rfl⟩
  rw [hF0] at hf hs hb
  refine s_exit rfl ?_
  refine s_seq ?_
  refine s_seq ?_
  refine s_region ?_
  refine s_q (y_move rfl) rfl ?_
  refine s_q (y_lenS rfl rfl rfl) rfl ?_
  refine s_q (y_move rfl) rfl ?_
  refine s_done ?_
  refine s_block ?_
  refine s_loopV (σ := Nat × List (Int × Value) × (Int → Int)) (fun s => [(56, .int .i64 s.1)]) (fun s => [Mp ki mb s.2.1]) (fun s => (s.1 ≤ l.length) ∧ (MF s.2.1 s.2.2) ∧ (∀ x, s.2.2 x + dls (l.drop s.1) x = F0 x + dls l x) ∧ (∀ x, -(220000000000000 * (s.1 + 1) : Int) ≤ s.2.2 x ∧ s.2.2 x ≤ 220000000000000 * (s.1 + 1))) (fun s => l.length - s.1) (0, m, F0) [(0, _), (6, _), (8, _), (54, _), (55, _)] ⟨rfl, rfl, rfl, rfl, rfl, trivial⟩ ⟨rfl, trivial⟩ tk ⟨Nat.zero_le _, hf, fun x => rfl, fun x => by have := hb x; dsimp only; omega⟩ ?_
  rintro ⟨j, m, f⟩ ⟨hj, hf, hs2, hb2⟩
  try dsimp only [List.cons_append, List.nil_append, List.append_nil] at hj hf hs2 hb2 ⊢
  refine s_seq ?_
  refine s_region ?_
  refine s_q (y_lss rfl rfl) rfl ?_
  refine s_done ?_
  refine s_seq ?_
  refine s_cond rfl (fun h => ?_) (fun h => ?_)
  · have hjl : j < l.length := by omega
    have hm := getD_mem BrD.no hjl
    have hrt := g5 _ hm
    have hvl2 := right_vars hrt
    rw [drop_D .no l j hjl] at hs2
    refine s_skip ?_
    refine s_seq ?_
    refine s_block ?_
    refine s_seq ?_
    refine s_region ?_
    refine s_q (by (first | exact y_ixE hl0.blk rfl rfl rfl rfl rfl rfl (by omega) (by omega) | exact y_ixI rfl rfl rfl rfl rfl (by assumption) rfl (by omega) (by omega))) rfl ?_
    refine s_q (by (first | exact y_ldE hl0.blk rfl rfl rfl (by omega) rfl | exact y_ld rfl rfl rfl (by rfl) | exact y_ldN rfl rfl rfl (by rfl) | exact y_ldK rfl rfl rfl rfl (by assumption) (by omega) | exact y_ldI rfl rfl rfl rfl (by assumption) (by omega) (by omega))) rfl ?_
    refine s_alloc rfl rfl (fun b1 => ?_)
    first | (refine s_storeW rfl rfl rfl rfl rfl (by rfl) ?_) | (refine s_storeN rfl rfl rfl rfl rfl (by rfl) ?_)
    change J _ _ _ (cb b1 43 (encBr (l.getD j .no)) :: _) _
    refine s_done ?_
    refine s_region ?_
    refine s_q (by (first | exact y_ldN rfl rfl rfl (by rfl) | exact y_ld rfl rfl rfl (by rfl) | exact y_ldN rfl rfl rfl (by rfl) | exact y_ldK rfl rfl rfl rfl (by assumption) (by omega) | exact y_ldI rfl rfl rfl rfl (by assumption) (by omega) (by omega))) rfl ?_
    refine s_q (y_move rfl) rfl ?_
    refine s_q (y_build rfl rfl rfl rfl) rfl ?_
    refine s_call (pre := [Mp ki mb m]) (rem := _) rfl rfl tk (fun w N ho hl => add_spec w N (l.getD j .no) mb m f (220000000000000 * (j + 1)) ho ((hl0.row _ hm).of hl) hrt hvl2 hf hb2 (by omega)) rfl ?_
    rintro e L' ⟨m', rfl, rfl, hf'⟩
    try simp only [List.nil_append, List.cons_append, List.append_nil]
    refine s_done ?_
    refine s_endb ?_
    refine s_region ?_
    refine s_q (y_add rfl rfl (by omega)) rfl ?_
    refine s_q (y_move rfl) rfl ?_
    refine s_done ?_
    refine s_inv (j + 1, m', fun x => f x + dl (l.getD j .no).vars (l.getD j .no).cols (l.getD j .no).edge x) ⟨(by (try dsimp only); omega), hf', fun x => ?_, fun x => ?_⟩ (by (try dsimp only); omega) ⟨rfl, rfl, rfl, rfl, rfl, rfl, trivial⟩ tk
    · have := hs2 x
      simp only [dls] at this
      dsimp only
      omega
    · have := hb2 x
      have := dl_le (l.getD j .no) hrt x
      dsimp only
      omega
  have hjl : j = l.length := by omega
  subst hjl
  simp only [List.drop_length, dls] at hs2
  refine s_exit rfl ?_
  refine s_seq ?_
  refine s_seq ?_
  refine s_region ?_
  refine s_q (y_move rfl) rfl ?_
  refine s_q (y_lenS rfl rfl rfl) rfl ?_
  refine s_q (y_move rfl) rfl ?_
  refine s_done ?_
  refine s_block ?_
  refine J.emp (B := Sl 3 1 none 0 0 (ints ((worthL vars weight l).take 0))) (by rw [List.take_zero]; exact Sl.ofNil _ _) ?_
  refine s_loopV (σ := Nat × Option Addr × Nat) (fun s => [(67, .int .i64 s.1), (6, .slice s.2.1 s.1 s.2.2)]) (fun s => [Sl 3 1 s.2.1 s.1 s.2.2 (ints ((worthL vars weight l).take s.1))]) (fun s => (s.1 ≤ vars.length)) (fun s => vars.length - s.1) (0, none, 0) [(8, _), (65, _), (66, _)] ⟨rfl, rfl, rfl, trivial⟩ ⟨rfl, rfl, trivial⟩ tk (Nat.zero_le _) ?_
  rintro ⟨i, G, g⟩ hi
  try dsimp only [List.cons_append, List.nil_append, List.append_nil] at hi ⊢
  refine s_seq ?_
  refine s_region ?_
  refine s_q (y_lss rfl rfl) rfl ?_
  refine s_done ?_
  refine s_seq ?_
  refine s_cond rfl (fun h => ?_) (fun h => ?_)
  · have hil : i < vars.length := by omega
    have hval : max (f (vars.getD i 0)) 0 = max (weight.getD i 0 + dls l (vars.getD i 0)) 0 := by have := hs2 (vars.getD i 0); rw [hs i hil] at this; congr 1; omega
    refine s_skip ?_
    refine s_seq ?_
    refine s_block ?_
    refine s_seq ?_
    refine s_region ?_
    refine s_q (by (first | exact y_ixI rfl rfl rfl rfl rfl hv rfl (by omega) (by omega) | exact y_ixI rfl rfl rfl rfl rfl (by assumption) rfl (by omega) (by omega))) rfl ?_
    refine s_q (by (first | exact y_ldK rfl rfl rfl rfl hv (by omega) | exact y_ld rfl rfl rfl (by rfl) | exact y_ldN rfl rfl rfl (by rfl) | exact y_ldK rfl rfl rfl rfl (by assumption) (by omega) | exact y_ldI rfl rfl rfl rfl (by assumption) (by omega) (by omega))) rfl ?_
    refine s_q (y_assign rfl) rfl ?_
    refine s_done ?_
    refine s_region ?_
    refine s_q (y_move rfl) rfl ?_
    refine s_q (y_move rfl) rfl ?_
    refine s_q (y_move rfl) rfl ?_
    refine s_q (y_lookupV (hf _) rfl rfl rfl (kt_int (by kernel_rfl)) rfl rfl (.inr ⟨rfl, rfl⟩)) rfl ?_
    refine s_q (y_max rfl rfl) rfl ?_
    refine s_bslice rfl rfl rfl rfl rfl rfl rfl rfl (fun bn => ?_)
    rw [hval]
    refine s_append rfl rfl rfl rfl rfl rfl rfl rfl rfl (by omega) rfl (fun G' g' => ?_)
    change J _ _ _ (Sl 3 1 G' (i + 1) g' (ints ((worthL vars weight l).take i) ++ ints [max (weight.getD i 0 + dls l (vars.getD i 0)) 0]) :: _) _
    rw [show ints ((worthL vars weight l).take i) ++ ints [max (weight.getD i 0 + dls l (vars.getD i 0)) 0] = ints ((worthL vars weight l).take (i + 1)) by rw [worthL_snoc _ _ _ _ hil]; simp [ints]]
    refine s_q (y_assign rfl) rfl ?_
    refine s_done ?_
    refine s_endb ?_
    refine s_region ?_
    refine s_q (y_add rfl rfl (by omega)) rfl ?_
    refine s_q (y_move rfl) rfl ?_
    refine s_done ?_
    refine s_inv (i + 1, G', g') (by (try dsimp only); omega) (by (try dsimp only); omega) ⟨rfl, rfl, rfl, rfl, rfl, trivial⟩ tk
  · have hil : i = vars.length := by omega
    subst hil
    have e3 : (worthL vars weight l).length = vars.length := by simp [worthL]
    rw [List.take_of_length_le (by omega)]
    refine s_exit rfl ?_
    refine s_seq ?_
    refine s_region ?_
    refine s_q (y_move rfl) rfl ?_
    refine s_q (y_assign rfl) rfl ?_
    refine s_q (y_assign rfl) rfl ?_
    refine s_done ?_
    exact s_return (R := WorthPost vars weight l) ⟨G, g, by rw [e1, e2, e3], by rw [e1, e3]⟩ (res_tmp2 Tryz.results10 rfl rfl)
end Go.Proofs.YtdbnlgknalencaaGreat
