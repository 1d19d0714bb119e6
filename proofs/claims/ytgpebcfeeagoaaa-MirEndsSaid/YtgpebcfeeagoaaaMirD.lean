/- Layer 6 (mir): closures over a frame, slices.IndexFunc, ContainsFunc; regs, to. -/
import Derived.Test.YtgpebcfeeagoaaaMirC
import Derived.Test.YtgpebcfeeagoaaaEEb
set_option linter.unusedVariables false
set_option linter.unusedSimpArgs false
namespace Go.Proofs.Ytgpebcfeeagoaaa
open Go Go.E
set_option maxRecDepth 4000
set_option maxHeartbeats 1000000
/-- A frame: a machine, how many slots, blocks. -/
abbrev frv (m : MV) (A : Option Addr) (c : Nat) (B : Option Addr) (d : Nat) (slots blocks : Int) : List Value := [.int .i64 m.regs, .slice A m.args.length c, .int .i64 m.ret, .slice B m.saved.length d, .int .i64 slots, .int .i64 blocks]
theorem regs1_spec (w : World) (N : Nat → Prop) (b : Nat) (m : MV) (A B : Option Addr) (c d : Nat) (sl bl r : Int) (ho : Owns w [cb b 67 (frv m A c B d sl bl)] N) :
    Ret Try.prog 70 [.int .i64 r, .pointer (some ⟨b, 0, none⟩)] w N fun v L => v = .bool (!inR m.regs r) ∧ L = [cb b 67 (frv m A c B d sl bl)] := by
  refine ret_of_J cx Try.func70 rfl (Nat.le_of_ble_eq_true rfl) ho ?_
  unfold frv
  refine s_seq ?_
  refine s_region ?_
  refine s_q (y_assign rfl) rfl ?_
  refine s_done ?_
  refine s_seq ?_
  by_cases h1 : r < 0
  · refine s_region ?_
    refine s_q (y_move rfl) rfl ?_
    refine s_q (by (first | exact y_as (y_lss rfl rfl) (congrArg Value.bool (decide_eq_true h1)) | exact y_lss rfl rfl)) rfl ?_
    refine s_q (y_move rfl) rfl ?_
    refine s_unguard2 (b := true) rfl rfl (by with_reducible rfl) rfl rfl ?_
    refine s_unguard2 (b := true) rfl rfl (by with_reducible rfl) rfl rfl ?_
    refine s_unguard2 (b := true) rfl rfl (by with_reducible rfl) rfl rfl ?_
    refine s_unguard2 (b := true) rfl rfl (by with_reducible rfl) rfl rfl ?_
    refine s_unguard2 (b := true) rfl rfl (by with_reducible rfl) rfl rfl ?_
    refine s_q (by (first | exact y_pickT rfl rfl | exact y_pickF rfl rfl)) rfl ?_
    refine s_q (y_assign rfl) rfl ?_
    refine s_done ?_
    exact s_return ⟨by rw [inR, decide_eq_false (by omega)]; rfl, rfl⟩ (res_tmp Try.results70 rfl)
  · refine s_region ?_
    refine s_q (y_move rfl) rfl ?_
    refine s_q (by (first | exact y_as (y_lss rfl rfl) (congrArg Value.bool (decide_eq_false h1)) | exact y_lss rfl rfl)) rfl ?_
    refine s_q (y_move rfl) rfl ?_
    refine s_guard2 rfl rfl (by with_reducible rfl) ?_
    refine s_q (y_move rfl) rfl ?_
    refine s_guard2 rfl rfl (by with_reducible rfl) ?_
    refine s_q (by (first | exact y_fieldAddrB rfl rfl rfl rfl rfl rfl | exact y_fieldAddr rfl rfl rfl rfl rfl rfl)) rfl ?_
    refine s_guard2 rfl rfl (by with_reducible rfl) ?_
    refine s_q (by (first | exact y_fieldAddrB rfl rfl rfl rfl rfl rfl | exact y_fieldAddr rfl rfl rfl rfl rfl rfl)) rfl ?_
    refine s_guard2 rfl rfl (by with_reducible rfl) ?_
    refine s_q (by (first | exact y_ld rfl rfl rfl (by rfl) | exact y_ldN rfl rfl rfl (by rfl) | exact y_ldK rfl rfl rfl rfl (by assumption) (by omega) | exact y_ldI rfl rfl rfl rfl (by assumption) (by omega) (by omega))) rfl ?_
    refine s_guard2 rfl rfl (by with_reducible rfl) ?_
    refine s_q (y_geq rfl rfl) rfl ?_
    refine s_q (by (first | exact y_pickT rfl rfl | exact y_pickF rfl rfl)) rfl ?_
    refine s_q (y_assign rfl) rfl ?_
    refine s_done ?_
    exact s_return ⟨by rw [inR]; congr 1; rw [Bool.eq_iff_iff]; simp; omega, rfl⟩ (res_tmp Try.results70 rfl)
theorem to1_spec (w : World) (N : Nat → Prop) (b : Nat) (m : MV) (A B : Option Addr) (c d : Nat) (sl bl r : Int) (ho : Owns w [cb b 67 (frv m A c B d sl bl)] N) :
    Ret Try.prog 72 [.int .i64 r, .pointer (some ⟨b, 0, none⟩)] w N fun v L => v = .bool (!inR bl r) ∧ L = [cb b 67 (frv m A c B d sl bl)] := by
  refine ret_of_J cx Try.func72 rfl (Nat.le_of_ble_eq_true rfl) ho ?_
  unfold frv
  refine s_seq ?_
  refine s_region ?_
  refine s_q (y_assign rfl) rfl ?_
  refine s_done ?_
  refine s_seq ?_
  by_cases h1 : r < 0
  · refine s_region ?_
    refine s_q (y_move rfl) rfl ?_
    refine s_q (by (first | exact y_as (y_lss rfl rfl) (congrArg Value.bool (decide_eq_true h1)) | exact y_lss rfl rfl)) rfl ?_
    refine s_q (y_move rfl) rfl ?_
    refine s_unguard2 (b := true) rfl rfl (by with_reducible rfl) rfl rfl ?_
    refine s_unguard2 (b := true) rfl rfl (by with_reducible rfl) rfl rfl ?_
    refine s_unguard2 (b := true) rfl rfl (by with_reducible rfl) rfl rfl ?_
    refine s_unguard2 (b := true) rfl rfl (by with_reducible rfl) rfl rfl ?_
    refine s_q (by (first | exact y_pickT rfl rfl | exact y_pickF rfl rfl)) rfl ?_
    refine s_q (y_assign rfl) rfl ?_
    refine s_done ?_
    exact s_return ⟨by rw [inR, decide_eq_false (by omega)]; rfl, rfl⟩ (res_tmp Try.results72 rfl)
  · refine s_region ?_
    refine s_q (y_move rfl) rfl ?_
    refine s_q (by (first | exact y_as (y_lss rfl rfl) (congrArg Value.bool (decide_eq_false h1)) | exact y_lss rfl rfl)) rfl ?_
    refine s_q (y_move rfl) rfl ?_
    refine s_guard2 rfl rfl (by with_reducible rfl) ?_
    refine s_q (y_move rfl) rfl ?_
    refine s_guard2 rfl rfl (by with_reducible rfl) ?_
    refine s_q (by (first | exact y_fieldAddrB rfl rfl rfl rfl rfl rfl | exact y_fieldAddr rfl rfl rfl rfl rfl rfl)) rfl ?_
    refine s_guard2 rfl rfl (by with_reducible rfl) ?_
    refine s_q (by (first | exact y_ld rfl rfl rfl (by rfl) | exact y_ldN rfl rfl rfl (by rfl) | exact y_ldK rfl rfl rfl rfl (by assumption) (by omega) | exact y_ldI rfl rfl rfl rfl (by assumption) (by omega) (by omega))) rfl ?_
    refine s_guard2 rfl rfl (by with_reducible rfl) ?_
    refine s_q (y_geq rfl rfl) rfl ?_
    refine s_q (by (first | exact y_pickT rfl rfl | exact y_pickF rfl rfl)) rfl ?_
    refine s_q (y_assign rfl) rfl ?_
    refine s_done ?_
    exact s_return ⟨by rw [inR]; congr 1; rw [Bool.eq_iff_iff]; simp; omega, rfl⟩ (res_tmp Try.results72 rfl)
def idxP (p : Int → Bool) : List Int → Int → Int
  | [], _ => -1
  | x :: xs, k => if p x = true then k else idxP p xs (k + 1)
theorem idxP_any (p : Int → Bool) : ∀ (xs : List Int) (k : Int), 0 ≤ k → (0 ≤ idxP p xs k ↔ xs.any p = true)
  | [], k, h => by simp [idxP]
  | x :: xs, k, h => by
    simp only [idxP, List.any_cons, Bool.or_eq_true]
    by_cases e : p x = true
    · simp [e, h]
    · rw [if_neg e, idxP_any p xs (k + 1) (by omega)]; simp [e]
theorem drop_D {α : Type} (d : α) (xs : List α) (k : Nat) (h : k < xs.length) : xs.drop k = xs.getD k d :: xs.drop (k + 1) := by
  rw [List.drop_eq_getElem_cons h, List.getD_eq_getElem?_getD, List.getElem?_eq_getElem h]; rfl
theorem IndexFunc_spec (w : World) (N : Nat → Prop) (A : Option Addr) (c : Nat) (xs : List Int) (g : FuncId) (caps : List Value) (B : HP) (p : Int → Bool) (hg : cx.has g = true) (hk : KI w N A xs) (ho : Owns w [B] N) (hlen : xs.length < 1000000000)
    (hp : ∀ w' N' x, Owns w' [B] N' → Ret Try.prog g ([.int .i64 x] ++ caps) w' N' fun v L => v = .bool (p x) ∧ L = [B]) :
    Ret Try.prog 71 [.slice A xs.length c, .func (.func g) #[] caps.toArray] w N fun v L => v = .int .i64 (idxP p xs 0) ∧ L = [B] := by
  refine ret_of_J cx Try.func71 rfl (Nat.le_of_ble_eq_true rfl) ho ?_
  refine s_seq ?_
  refine s_region ?_
  refine s_q (y_assign rfl) rfl ?_
  refine s_done ?_
  refine s_seq ?_
  refine s_seq ?_
  refine s_region ?_
  refine s_q (y_move rfl) rfl ?_
  refine s_q (y_lenS rfl rfl rfl) rfl ?_
  refine s_q (y_move rfl) rfl ?_
  refine s_done ?_
  refine s_block ?_
  refine s_loopV (σ := Nat) (fun s => [(8, .int .i64 s)]) (fun s => []) (fun s => (s ≤ xs.length) ∧ (idxP p (xs.drop s) s = idxP p xs 0)) (fun s => xs.length - s) (0) [(0, _), (1, _), (7, _)] ⟨rfl, rfl, rfl, trivial⟩ ⟨rfl, trivial⟩ tk ⟨Nat.zero_le _, rfl⟩ ?_
  rintro i ⟨hi, h1⟩
  try dsimp only [List.cons_append, List.nil_append, List.append_nil] at hi h1 ⊢
  refine s_seq ?_
  refine s_region ?_
  refine s_q (y_lss rfl rfl) rfl ?_
  refine s_done ?_
  refine s_seq ?_
  refine s_cond rfl (fun h => ?_) (fun h => ?_)
  · rw [drop_D 0 xs i (by omega)] at h1
    simp only [idxP] at h1
    refine s_skip ?_
    refine s_seq ?_
    refine s_block ?_
    refine s_seq ?_
    refine s_region ?_
    refine s_q (y_move rfl) rfl ?_
    refine s_q (y_assign rfl) rfl ?_
    refine s_done ?_
    refine s_seq ?_
    refine s_region ?_
    refine s_q (y_move rfl) rfl ?_
    refine s_q (y_move rfl) rfl ?_
    refine s_q (y_move rfl) rfl ?_
    refine s_q (by (first | exact y_ixI rfl rfl rfl rfl rfl hk rfl (by omega) (by omega) | exact y_ixI rfl rfl rfl rfl rfl (by assumption) rfl (by omega) (by omega))) rfl ?_
    refine s_q (by (first | exact y_ldK rfl rfl rfl rfl hk (by omega) | exact y_ld rfl rfl rfl (by rfl) | exact y_ldN rfl rfl rfl (by rfl) | exact y_ldK rfl rfl rfl rfl (by assumption) (by omega) | exact y_ldI rfl rfl rfl rfl (by assumption) (by omega) (by omega))) rfl ?_
    refine s_callV (pre := [B]) (rem := []) rfl rfl hg (List.Perm.refl _) (fun w N ho hl => hp w N _ ho) rfl ?_
    rintro e L' ⟨rfl, rfl⟩
    simp only [List.append_nil]
    refine s_done ?_
    refine s_condb rfl (fun h2 => ?_) (fun h2 => ?_)
    · rw [if_pos h2] at h1
      refine s_seq ?_
      refine s_region ?_
      refine s_q (y_move rfl) rfl ?_
      refine s_q (y_assign rfl) rfl ?_
      refine s_done ?_
      exact s_return ⟨by rw [← h1], rfl⟩ (res_tmp Try.results71 rfl)
    · rw [if_neg (by rw [h2]; simp)] at h1
      refine s_skip ?_
      refine s_endb ?_
      refine s_region ?_
      refine s_q (y_add rfl rfl (by omega)) rfl ?_
      refine s_q (y_move rfl) rfl ?_
      refine s_done ?_
      refine s_inv (i + 1) ⟨(by (try dsimp only); omega), h1⟩ (by (try dsimp only); omega) ⟨rfl, rfl, rfl, rfl, trivial⟩ tk
  · have hil : i = xs.length := by omega
    subst hil
    refine s_exit rfl ?_
    refine s_seq ?_
    refine s_region ?_
    refine s_q (y_assign rfl) rfl ?_
    refine s_done ?_
    exact s_return ⟨by rw [← h1]; simp [idxP], rfl⟩ (res_tmp Try.results71 rfl)
theorem ContainsFunc_spec (w : World) (N : Nat → Prop) (A : Option Addr) (c : Nat) (xs : List Int) (g : FuncId) (caps : List Value) (B : HP) (p : Int → Bool) (hg : cx.has g = true) (hk : KI w N A xs) (ho : Owns w [B] N) (hlen : xs.length < 1000000000)
    (hp : ∀ w' N' x, Owns w' [B] N' → Ret Try.prog g ([.int .i64 x] ++ caps) w' N' fun v L => v = .bool (p x) ∧ L = [B]) :
    Ret Try.prog 59 [.slice A xs.length c, .func (.func g) #[] caps.toArray] w N fun v L => v = .bool (xs.any p) ∧ L = [B] := by
  refine ret_of_J cx Try.func59 rfl (Nat.le_of_ble_eq_true rfl) ho ?_
  refine s_seq ?_
  refine s_region ?_
  refine s_q (y_assign rfl) rfl ?_
  refine s_done ?_
  refine s_seq ?_
  refine s_region ?_
  refine s_q (y_move rfl) rfl ?_
  refine s_q (y_move rfl) rfl ?_
  refine s_call (pre := [B]) (rem := _) rfl rfl tk (fun w N ho hl => IndexFunc_spec w N A c xs g caps B p hg (hk.of hl) ho hlen hp) rfl ?_
  rintro e L' ⟨rfl, rfl⟩
  try simp only [List.nil_append, List.cons_append, List.append_nil]
  refine s_q (y_geq rfl rfl) rfl ?_
  refine s_q (y_assign rfl) rfl ?_
  refine s_done ?_
  exact s_return ⟨by congr 1; rw [Bool.eq_iff_iff, decide_eq_true_iff]; exact idxP_any p xs 0 (Int.le_refl 0), rfl⟩ (res_tmp Try.results59 rfl)
theorem regs_spec (w : World) (N : Nat → Prop) (m : MV) (A B C : Option Addr) (c d q : Nat) (sl bl : Int) (xs : List Int) (ho : Owns w [] N) (hk : KI w N C xs) (hlen : xs.length < 1000000000) :
    Ret Try.prog 58 [.agg (frv m A c B d sl bl).toArray, .slice C xs.length q] w N fun v L => v = .bool (xs.all (inR m.regs)) ∧ L = [] := by
  refine ret_of_J cx Try.func58 rfl (Nat.le_of_ble_eq_true rfl) ho ?_
  refine s_seq ?_
  refine s_region ?_
  first | (refine s_box1 rfl rfl rfl (fun b => ?_)) | (refine s_boxA rfl rfl (fun b => ?_))
  refine s_q (y_assign rfl) rfl ?_
  refine s_done ?_
  refine s_seq ?_
  refine s_region ?_
  refine s_q (y_move rfl) rfl ?_
  refine s_q (by (first | exact y_makeFunc rfl | exact y_move rfl | exact y_assign rfl | exact y_add rfl rfl (by omega) | exact y_sub rfl rfl (by omega) | exact y_lss rfl rfl | exact y_leq rfl rfl | exact y_gtr rfl rfl | exact y_geq rfl rfl | exact y_eql rfl rfl | exact y_neq rfl rfl | exact y_notT rfl | exact y_notF rfl | exact y_notp rfl | exact y_notb rfl | exact y_pickT rfl rfl | exact y_pickF rfl rfl | exact y_nilCheck rfl | exact y_fieldAddrB rfl rfl rfl rfl rfl rfl | exact y_fieldAddr rfl rfl rfl rfl rfl rfl | exact y_lenS rfl rfl rfl | exact y_ixI rfl rfl rfl rfl rfl (by assumption) rfl (by omega) (by omega) | exact y_ld rfl rfl rfl (by rfl) | exact y_ldN rfl rfl rfl (by rfl) | exact y_ldK rfl rfl rfl rfl (by assumption) (by omega) | exact y_ldI rfl rfl rfl rfl (by assumption) (by omega) (by omega) | exact y_extract rfl rfl | exact y_max rfl rfl | exact y_min rfl rfl | exact y_build rfl rfl rfl rfl | exact y_mul rfl rfl (by omega) | exact y_eqlB rfl rfl rfl | exact y_neqB rfl rfl rfl | exact y_sliceHi rfl rfl rfl (by omega) rfl rfl)) rfl ?_
  refine s_call (pre := [cb b 67 (frv m A c B d sl bl)]) (rem := _) rfl rfl tk (fun w N ho hl => ContainsFunc_spec w N C q xs 70 [.pointer (some ⟨b, 0, none⟩)] (cb b 67 (frv m A c B d sl bl)) (fun r => !inR m.regs r) rfl (hk.of hl) ho hlen (fun w' N' x ho' => regs1_spec w' N' b m A B c d sl bl x ho')) rfl ?_
  rintro e L' ⟨rfl, rfl⟩
  try simp only [List.nil_append, List.cons_append, List.append_nil]
  refine s_q (by (first | exact y_notT rfl | exact y_notF rfl | exact y_notp rfl | exact y_notb rfl)) rfl ?_
  refine s_q (y_assign rfl) rfl ?_
  refine s_done ?_
  exact s_return ⟨by congr 1; simp [List.all_eq_not_any_not], rfl⟩ (res_tmp Try.results58 rfl)
theorem to_spec (w : World) (N : Nat → Prop) (m : MV) (A B C : Option Addr) (c d q : Nat) (sl bl : Int) (xs : List Int) (ho : Owns w [] N) (hk : KI w N C xs) (hlen : xs.length < 1000000000) :
    Ret Try.prog 61 [.agg (frv m A c B d sl bl).toArray, .slice C xs.length q] w N fun v L => v = .bool (xs.all (inR bl)) ∧ L = [] := by
  refine ret_of_J cx Try.func61 rfl (Nat.le_of_ble_eq_true rfl) ho ?_
  refine s_seq ?_
  refine s_region ?_
  first | (refine s_box1 rfl rfl rfl (fun b => ?_)) | (refine s_boxA rfl rfl (fun b => ?_))
  refine s_q (y_assign rfl) rfl ?_
  refine s_done ?_
  refine s_seq ?_
  refine s_region ?_
  refine s_q (y_move rfl) rfl ?_
  refine s_q (by (first | exact y_makeFunc rfl | exact y_move rfl | exact y_assign rfl | exact y_add rfl rfl (by omega) | exact y_sub rfl rfl (by omega) | exact y_lss rfl rfl | exact y_leq rfl rfl | exact y_gtr rfl rfl | exact y_geq rfl rfl | exact y_eql rfl rfl | exact y_neq rfl rfl | exact y_notT rfl | exact y_notF rfl | exact y_notp rfl | exact y_notb rfl | exact y_pickT rfl rfl | exact y_pickF rfl rfl | exact y_nilCheck rfl | exact y_fieldAddrB rfl rfl rfl rfl rfl rfl | exact y_fieldAddr rfl rfl rfl rfl rfl rfl | exact y_lenS rfl rfl rfl | exact y_ixI rfl rfl rfl rfl rfl (by assumption) rfl (by omega) (by omega) | exact y_ld rfl rfl rfl (by rfl) | exact y_ldN rfl rfl rfl (by rfl) | exact y_ldK rfl rfl rfl rfl (by assumption) (by omega) | exact y_ldI rfl rfl rfl rfl (by assumption) (by omega) (by omega) | exact y_extract rfl rfl | exact y_max rfl rfl | exact y_min rfl rfl | exact y_build rfl rfl rfl rfl | exact y_mul rfl rfl (by omega) | exact y_eqlB rfl rfl rfl | exact y_neqB rfl rfl rfl | exact y_sliceHi rfl rfl rfl (by omega) rfl rfl)) rfl ?_
  refine s_call (pre := [cb b 67 (frv m A c B d sl bl)]) (rem := _) rfl rfl tk (fun w N ho hl => ContainsFunc_spec w N C q xs 72 [.pointer (some ⟨b, 0, none⟩)] (cb b 67 (frv m A c B d sl bl)) (fun r => !inR bl r) rfl (hk.of hl) ho hlen (fun w' N' x ho' => to1_spec w' N' b m A B c d sl bl x ho')) rfl ?_
  rintro e L' ⟨rfl, rfl⟩
  try simp only [List.nil_append, List.cons_append, List.append_nil]
  refine s_q (by (first | exact y_notT rfl | exact y_notF rfl | exact y_notp rfl | exact y_notb rfl)) rfl ?_
  refine s_q (y_assign rfl) rfl ?_
  refine s_done ?_
  exact s_return ⟨by congr 1; simp [List.all_eq_not_any_not], rfl⟩ (res_tmp Try.results61 rfl)
end Go.Proofs.Ytgpebcfeeagoaaa
