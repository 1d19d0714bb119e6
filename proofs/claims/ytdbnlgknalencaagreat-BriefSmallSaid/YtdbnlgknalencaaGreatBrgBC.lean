/- Layer 23 (brief): a brief's variables gone through; the keys of a map, collected, sorted. -/
import Derived.Test.YtdbnlgknalencaaGreatBrgBB
import Derived.Test.YtdbnlgknalencaaGreatBrgKW
import Derived.Test.YtdbnlgknalencaaGreatBrgLays
import Derived.Test.YtdbnlgknalencaaGreatEEb
set_option linter.unusedVariables false
set_option linter.unusedSimpArgs false
namespace Go.Proofs.YtdbnlgknalencaaGreat
open Go Go.E
set_option maxRecDepth 4000
set_option maxHeartbeats 1000000
theorem each_spec (w : World) (N : Nat → Prop) (b : BrD) (ho : Owns w [] N) : Ret Tryz.prog 40 [.agg (encBr b).toArray] w N fun v L => ∃ p, v = .func (.func 64) #[] [.pointer (some ⟨p, 0, none⟩)].toArray ∧ L = [cb p 43 (encBr b)] := by
  refine ret_of_J cx Tryz.func40 rfl (Nat.le_of_ble_eq_true rfl) ho ?_
  refine s_seq ?_
  refine s_region ?_
  first | (refine s_box1 rfl rfl rfl (fun p => ?_)) | (refine s_boxA rfl rfl (fun p => ?_))
  change J _ _ _ (cb p 43 (encBr b) :: _) _
  refine s_q (y_assign rfl) rfl ?_
  refine s_done ?_
  refine s_seq ?_
  refine s_region ?_
  refine s_q (by (first | exact y_makeFunc rfl | exact y_move rfl | exact y_assign rfl | exact y_add rfl rfl (by omega) | exact y_sub rfl rfl (by omega) | exact y_lss rfl rfl | exact y_leq rfl rfl | exact y_gtr rfl rfl | exact y_geq rfl rfl | exact y_eql rfl rfl | exact y_neq rfl rfl | exact y_notT rfl | exact y_notF rfl | exact y_notp rfl | exact y_notb rfl | exact y_pickT rfl rfl | exact y_pickF rfl rfl | exact y_nilCheck rfl | exact y_fieldAddrB rfl rfl rfl rfl rfl rfl | exact y_fieldAddr rfl rfl rfl rfl rfl rfl | exact y_lenS rfl rfl rfl | exact y_ixI rfl rfl rfl rfl rfl (by assumption) rfl (by omega) (by omega) | exact y_ld rfl rfl rfl (by rfl) | exact y_ldN rfl rfl rfl (by rfl) | exact y_ldK rfl rfl rfl rfl (by assumption) (by omega) | exact y_ldI rfl rfl rfl rfl (by assumption) (by omega) (by omega) | exact y_extract rfl rfl | exact y_max rfl rfl | exact y_min rfl rfl | exact y_build rfl rfl rfl rfl | exact y_mul rfl rfl (by omega) | exact y_eqlB rfl rfl rfl | exact y_neqB rfl rfl rfl | exact y_sliceHi rfl rfl rfl (by omega) rfl rfl)) rfl ?_
  refine s_q (y_assign rfl) rfl ?_
  refine s_done ?_
  exact s_return ⟨p, rfl, rfl⟩ (res_tmp Tryz.results40 rfl)
theorem each1_spec {τ : Type} (w0 : World) (N0 : Nat → Prop) (l : Nat) (R : Loop) (LI : Nat → List HP) (LS : τ → Code × List HP) (p : Nat) (b : BrD) (hc : KC w0 N0 p 43 (encBr b)) (hk : KR w0 N0 b) (hlc : b.cols.length = b.vars.length) (hlen : b.vars.length < 100000000000000) (ho : Owns w0 [LIg l R LI 0] N0)
    (hy : ∀ (k : Nat) (a : Unit) w N, k < b.vars.length → Owns w [LIg l R LI k] N → (∀ w', Since w N w' → Since w0 N0 w') → RetY Tryz.prog l [.int .i64 (b.vars.getD k 0), .int .i64 (b.cols.getD k 0)] w N (RYg l R LI LS (k + 1))) :
    Ret Tryz.prog 64 (.func (.yield l) #[] #[] :: [.pointer (some ⟨p, 0, none⟩)]) w0 N0 fun _ L' => (∃ s, s = b.vars.length ∧ L' = [LIg l R LI s]) ∨ L' = [LS' l R LS] := by
  have hkv := hk.v
  have hkc := hk.c
  refine ret_of_J cx Tryz.func64 rfl (Nat.le_of_ble_eq_true rfl) ho ?_
  refine s_seq ?_
  refine s_region ?_
  refine s_q (by (first | exact y_fieldAddrB rfl rfl rfl rfl rfl rfl | exact y_fieldAddr rfl rfl rfl rfl rfl rfl)) rfl ?_
  refine s_q (by (first | exact y_ldKC rfl rfl rfl hc rfl | exact y_ld rfl rfl rfl (by rfl) | exact y_ldN rfl rfl rfl (by rfl) | exact y_ldK rfl rfl rfl rfl (by assumption) (by omega) | exact y_ldI rfl rfl rfl rfl (by assumption) (by omega) (by omega))) rfl ?_
  refine s_q (y_lenS rfl rfl rfl) rfl ?_
  refine s_q (y_move rfl) rfl ?_
  refine s_done ?_
  refine s_block ?_
  refine s_loopV (σ := Nat) (fun s => [(8, .int .i64 s)]) (fun s => [LIg l R LI s]) (fun s => (s ≤ b.vars.length)) (fun s => b.vars.length - s) (0) [(0, _), (1, _), (6, _), (7, _)] ⟨rfl, rfl, rfl, rfl, trivial⟩ ⟨rfl, trivial⟩ tk (Nat.zero_le _) ?_
  rintro k hk2
  try dsimp only [List.cons_append, List.nil_append, List.append_nil] at hk2 ⊢
  refine s_seq ?_
  refine s_region ?_
  refine s_q (y_lss rfl rfl) rfl ?_
  refine s_done ?_
  refine s_seq ?_
  refine s_cond rfl (fun h => ?_) (fun h => ?_)
  · have hkl : k < b.vars.length := by omega
    refine s_skip ?_
    refine s_seq ?_
    refine s_block ?_
    refine s_seq ?_
    refine s_region ?_
    refine s_q (y_move rfl) rfl ?_
    refine s_q (by (first | exact y_ixI rfl rfl rfl rfl rfl hkv rfl (by omega) (by omega) | exact y_ixI rfl rfl rfl rfl rfl hkc rfl (by omega) (by omega) | exact y_ixI rfl rfl rfl rfl rfl (by assumption) rfl (by omega) (by omega))) rfl ?_
    refine s_q (by (first | exact y_ldKC rfl rfl rfl hc rfl | exact y_ldK rfl rfl rfl rfl hkv (by omega) | exact y_ldK rfl rfl rfl rfl hkc (by omega) | exact y_ld rfl rfl rfl (by rfl) | exact y_ldN rfl rfl rfl (by rfl) | exact y_ldK rfl rfl rfl rfl (by assumption) (by omega) | exact y_ldI rfl rfl rfl rfl (by assumption) (by omega) (by omega))) rfl ?_
    refine s_q (y_assign rfl) rfl ?_
    refine s_q (y_assign rfl) rfl ?_
    refine s_done ?_
    refine s_seq ?_
    refine s_region ?_
    refine s_q (y_move rfl) rfl ?_
    refine s_q (y_move rfl) rfl ?_
    refine s_q (by (first | exact y_fieldAddrB rfl rfl rfl rfl rfl rfl | exact y_fieldAddr rfl rfl rfl rfl rfl rfl)) rfl ?_
    refine s_q (by (first | exact y_ldKC rfl rfl rfl hc rfl | exact y_ldK rfl rfl rfl rfl hkv (by omega) | exact y_ldK rfl rfl rfl rfl hkc (by omega) | exact y_ld rfl rfl rfl (by rfl) | exact y_ldN rfl rfl rfl (by rfl) | exact y_ldK rfl rfl rfl rfl (by assumption) (by omega) | exact y_ldI rfl rfl rfl rfl (by assumption) (by omega) (by omega))) rfl ?_
    refine s_q (y_move rfl) rfl ?_
    refine s_q (by (first | exact y_ixI rfl rfl rfl rfl rfl hkv rfl (by omega) (by omega) | exact y_ixI rfl rfl rfl rfl rfl hkc rfl (by omega) (by omega) | exact y_ixI rfl rfl rfl rfl rfl (by assumption) rfl (by omega) (by omega))) rfl ?_
    refine s_q (by (first | exact y_ldKC rfl rfl rfl hc rfl | exact y_ldK rfl rfl rfl rfl hkv (by omega) | exact y_ldK rfl rfl rfl rfl hkc (by omega) | exact y_ld rfl rfl rfl (by rfl) | exact y_ldN rfl rfl rfl (by rfl) | exact y_ldK rfl rfl rfl rfl (by assumption) (by omega) | exact y_ldI rfl rfl rfl rfl (by assumption) (by omega) (by omega))) rfl ?_
    refine s_callY (pre := [LIg l R LI k]) (rem := []) rfl rfl (List.Perm.refl _) rfl (fun w N ho hl => hy k () w N hkl ho fun w' h' => (hl w' h').since) rfl ?_
    rintro v L' (⟨rfl, rfl⟩ | ⟨rfl, rfl⟩)
    · rw [List.append_nil]
      refine s_q (by (first | exact y_notT rfl | exact y_notF rfl | exact y_notp rfl | exact y_notb rfl)) rfl ?_
      refine s_done ?_
      refine s_condF2 rfl (by with_reducible rfl) ?_
      refine s_skip ?_
      refine s_endb ?_
      refine s_region ?_
      refine s_q (y_add rfl rfl (by omega)) rfl ?_
      refine s_q (y_move rfl) rfl ?_
      refine s_done ?_
      refine s_inv (k + 1) (by (try dsimp only); omega) (by (try dsimp only); omega) ⟨rfl, rfl, rfl, rfl, rfl, trivial⟩ tk
    · rw [List.append_nil]
      refine s_q (by (first | exact y_notT rfl | exact y_notF rfl | exact y_notp rfl | exact y_notb rfl)) rfl ?_
      refine s_done ?_
      refine s_condT2 rfl (by with_reducible rfl) ?_
      exact s_return (R := fun _ L' => (∃ s, s = b.vars.length ∧ L' = [LIg l R LI s]) ∨ L' = [LS' l R LS]) (.inr rfl) (res_none Tryz.results64)
  · have hkl : k = b.vars.length := by omega
    subst hkl
    refine s_exit rfl ?_
    exact s_end (R := fun _ L' => (∃ s, s = b.vars.length ∧ L' = [LIg l R LI s]) ∨ L' = [LS' l R LS]) (.inl ⟨_, rfl, rfl⟩) (res_none Tryz.results64)
/-! Sequences of numbers. -/
def SeqI (w : World) (N : Nat → Prop) (g : FuncId) (caps : List Value) (dom : List Int → Int → Prop) (fin : List Int → Prop) : Prop :=
  ∀ (l : Nat) (R : Loop) (LI : List Int → List HP) (LS : Empty → Code × List HP) (w0 : World) (N0 : Nat → Prop), (∀ w', Since w0 N0 w' → Since w N w') → Owns w0 [LIg l R LI []] N0 →
    (∀ d a w' N', dom d a → Owns w' [LIg l R LI d] N' → (∀ w'', Since w' N' w'' → Since w0 N0 w'') → RetY Tryz.prog l [.int .i64 a] w' N' (RYg l R LI LS (d ++ [a]))) →
    Ret Tryz.prog g (.func (.yield l) #[] #[] :: caps) w0 N0 fun _ L' => (∃ s, fin s ∧ L' = [LIg l R LI s]) ∨ L' = [LS' l R LS]
theorem SeqI.of {base w : World} {M N : Nat → Prop} {L : List HP} {g : FuncId} {caps : List Value} {dom : List Int → Int → Prop} {fin : List Int → Prop} (h : SeqI base M g caps dom fin) (hl : ∀ w', Since w N w' → Sat base M L w') : SeqI w N g caps dom fin :=
  fun l R LI LS w0 N0 h0 => h l R LI LS w0 N0 fun w' h' => (hl w' (h0 w' h')).since
def SeqPost (fin : List Int → Prop) (v : Value) (L : List HP) : Prop := ∃ (A : Option Addr) (c : Nat) (xs : List Int), fin xs ∧ v = .slice A xs.length c ∧ L = [Sl 3 1 A xs.length c (ints xs)]
def seqLI (b2 : Nat) (d : List Int) : HP := exHP fun s : Option Addr × Nat => star [cb b2 22 [.slice s.1 d.length s.2], Sl 3 1 s.1 d.length s.2 (ints d)]
theorem AppendSeq_spec (w : World) (N : Nat → Prop) (g : FuncId) (caps : List Value) (dom : List Int → Int → Prop) (fin : List Int → Prop) (ho : Owns w [] N) (hs : SeqI w N g caps dom fin) (hg : cx.has g = true) (hdom : ∀ d a, dom d a → d.length < 1000000) :
    Ret Tryz.prog 88 [.slice none 0 0, .func (.func g) #[] caps.toArray] w N (SeqPost fin) := by
  refine ret_of_J cx Tryz.func88 rfl (Nat.le_of_ble_eq_true rfl) ho ?_
  refine s_seq ?_
  refine s_region ?_
  first | (refine s_box1 rfl rfl rfl (fun b2 => ?_)) | (refine s_boxA rfl rfl (fun b2 => ?_))
  change J _ _ _ (cb b2 22 [.slice none 0 0] :: _) _
  refine s_q (y_assign rfl) rfl ?_
  refine s_done ?_
  refine s_seq ?_
  refine s_seq ?_
  refine s_region ?_
  refine s_q (y_move rfl) rfl ?_
  refine s_done ?_
  refine s_block ?_
  refine J.emp (B := Sl 3 1 none 0 0 (ints [])) (Sl.ofNil _ _) ?_
  refine J.swap ?_
  refine (J.group (K := [cb b2 22 [.slice none 0 0], Sl 3 1 none 0 0 (ints [])])).1 ?_
  refine J.exI (f := fun s : Option Addr × Nat => star [cb b2 22 [.slice s.1 ([] : List Int).length s.2], Sl 3 1 s.1 ([] : List Int).length s.2 (ints [])]) (none, 0) ?_
  change J _ _ _ (seqLI b2 [] :: _) _
  refine s_rangeG (τ := Empty) (ps := [7]) (rem := []) rfl rfl hg (fun d : List Int => [seqLI b2 d]) (fun e => nomatch e) (fun d (a : Int) => [.int .i64 a]) (fun d a => d ++ [a]) dom fin [] (by rw [List.append_nil]) (fun _ _ => rfl) rfl ?_ ?_ ?_ ?_
  · intro l R w0 N0 ho hl hy
    exact hs l R _ _ w0 N0 (fun w' h' => (hl w' h').since) ho hy
  · intro l R w1 N1 d a hd hl
    clear hl
    dsimp only
    have hlen := hdom d a hd
    repeat (first | (refine s_seq ?_) | (refine s_region ?_) | (refine s_done ?_) | (refine s_block ?_) | (refine s_endb ?_) | (refine s_ends ?_) | (refine s_skip ?_) | (refine s_label ?_) | (refine s_exit rfl ?_) | (refine s_condT2 rfl (by first | with_reducible rfl | exact congrArg Value.bool (by decide)) ?_) | (refine s_condF2 rfl (by first | with_reducible rfl | exact congrArg Value.bool (by decide)) ?_) | (refine s_guard2 rfl rfl (by first | with_reducible rfl | exact congrArg Value.bool (by decide)) ?_) | (refine s_unguard2 (b := false) rfl rfl (by first | with_reducible rfl | exact congrArg Value.bool (by decide)) rfl rfl ?_) | (refine s_unguard2 (b := true) rfl rfl (by first | with_reducible rfl | exact congrArg Value.bool (by decide)) rfl rfl ?_) | (refine s_unguardU rfl rfl rfl ?_) | (refine s_scope ?_) | (refine s_q (by (first | exact y_move rfl | exact y_assign rfl | exact y_add rfl rfl (by omega) | exact y_sub rfl rfl (by omega) | exact y_lss rfl rfl | exact y_leq rfl rfl | exact y_gtr rfl rfl | exact y_geq rfl rfl | exact y_eql rfl rfl | exact y_neq rfl rfl | exact y_notT rfl | exact y_notF rfl | exact y_notp rfl | exact y_notb rfl | exact y_pickT rfl rfl | exact y_pickF rfl rfl | exact y_nilCheck rfl | exact y_fieldAddrB rfl rfl rfl rfl rfl rfl | exact y_fieldAddr rfl rfl rfl rfl rfl rfl | exact y_lenS rfl rfl rfl | exact y_ixI rfl rfl rfl rfl rfl (by assumption) rfl (by omega) (by omega) | exact y_ld rfl rfl rfl (by rfl) | exact y_ldN rfl rfl rfl (by rfl) | exact y_ldK rfl rfl rfl rfl (by assumption) (by omega) | exact y_ldI rfl rfl rfl rfl (by assumption) (by omega) (by omega) | exact y_extract rfl rfl | exact y_max rfl rfl | exact y_min rfl rfl | exact y_build rfl rfl rfl rfl | exact y_mul rfl rfl (by omega) | exact y_eqlB rfl rfl rfl | exact y_neqB rfl rfl rfl | exact y_sliceHi rfl rfl rfl (by omega) rfl rfl)) rfl ?_))
    refine s_begin (rem := _) (List.Perm.refl _) ?_
    refine J.perm (List.Perm.swap _ _ _) ?_
    refine J.ex fun s => ?_
    obtain ⟨A, c⟩ := s
    refine J.group.2 ?_
    dsimp only [List.cons_append, List.nil_append]
    repeat (first | (refine s_seq ?_) | (refine s_region ?_) | (refine s_done ?_) | (refine s_block ?_) | (refine s_endb ?_) | (refine s_ends ?_) | (refine s_skip ?_) | (refine s_label ?_) | (refine s_exit rfl ?_) | (refine s_condT2 rfl (by first | with_reducible rfl | exact congrArg Value.bool (by decide)) ?_) | (refine s_condF2 rfl (by first | with_reducible rfl | exact congrArg Value.bool (by decide)) ?_) | (refine s_guard2 rfl rfl (by first | with_reducible rfl | exact congrArg Value.bool (by decide)) ?_) | (refine s_unguard2 (b := false) rfl rfl (by first | with_reducible rfl | exact congrArg Value.bool (by decide)) rfl rfl ?_) | (refine s_unguard2 (b := true) rfl rfl (by first | with_reducible rfl | exact congrArg Value.bool (by decide)) rfl rfl ?_) | (refine s_unguardU rfl rfl rfl ?_) | (refine s_scope ?_) | (refine s_q (by (first | exact y_move rfl | exact y_assign rfl | exact y_add rfl rfl (by omega) | exact y_sub rfl rfl (by omega) | exact y_lss rfl rfl | exact y_leq rfl rfl | exact y_gtr rfl rfl | exact y_geq rfl rfl | exact y_eql rfl rfl | exact y_neq rfl rfl | exact y_notT rfl | exact y_notF rfl | exact y_notp rfl | exact y_notb rfl | exact y_pickT rfl rfl | exact y_pickF rfl rfl | exact y_nilCheck rfl | exact y_fieldAddrB rfl rfl rfl rfl rfl rfl | exact y_fieldAddr rfl rfl rfl rfl rfl rfl | exact y_lenS rfl rfl rfl | exact y_ixI rfl rfl rfl rfl rfl (by assumption) rfl (by omega) (by omega) | exact y_ld rfl rfl rfl (by rfl) | exact y_ldN rfl rfl rfl (by rfl) | exact y_ldK rfl rfl rfl rfl (by assumption) (by omega) | exact y_ldI rfl rfl rfl rfl (by assumption) (by omega) (by omega) | exact y_extract rfl rfl | exact y_max rfl rfl | exact y_min rfl rfl | exact y_build rfl rfl rfl rfl | exact y_mul rfl rfl (by omega) | exact y_eqlB rfl rfl rfl | exact y_neqB rfl rfl rfl | exact y_sliceHi rfl rfl rfl (by omega) rfl rfl)) rfl ?_))
    refine s_bslice rfl rfl rfl rfl rfl rfl rfl rfl (fun bn => ?_)
    refine s_append rfl rfl rfl rfl rfl rfl rfl rfl rfl (by omega) rfl (fun A' c' => ?_)
    repeat (first | (refine s_seq ?_) | (refine s_region ?_) | (refine s_done ?_) | (refine s_block ?_) | (refine s_endb ?_) | (refine s_ends ?_) | (refine s_skip ?_) | (refine s_label ?_) | (refine s_exit rfl ?_) | (refine s_condT2 rfl (by first | with_reducible rfl | exact congrArg Value.bool (by decide)) ?_) | (refine s_condF2 rfl (by first | with_reducible rfl | exact congrArg Value.bool (by decide)) ?_) | (refine s_guard2 rfl rfl (by first | with_reducible rfl | exact congrArg Value.bool (by decide)) ?_) | (refine s_unguard2 (b := false) rfl rfl (by first | with_reducible rfl | exact congrArg Value.bool (by decide)) rfl rfl ?_) | (refine s_unguard2 (b := true) rfl rfl (by first | with_reducible rfl | exact congrArg Value.bool (by decide)) rfl rfl ?_) | (refine s_unguardU rfl rfl rfl ?_) | (refine s_scope ?_) | (refine s_q (by (first | exact y_move rfl | exact y_assign rfl | exact y_add rfl rfl (by omega) | exact y_sub rfl rfl (by omega) | exact y_lss rfl rfl | exact y_leq rfl rfl | exact y_gtr rfl rfl | exact y_geq rfl rfl | exact y_eql rfl rfl | exact y_neq rfl rfl | exact y_notT rfl | exact y_notF rfl | exact y_notp rfl | exact y_notb rfl | exact y_pickT rfl rfl | exact y_pickF rfl rfl | exact y_nilCheck rfl | exact y_fieldAddrB rfl rfl rfl rfl rfl rfl | exact y_fieldAddr rfl rfl rfl rfl rfl rfl | exact y_lenS rfl rfl rfl | exact y_ixI rfl rfl rfl rfl rfl (by assumption) rfl (by omega) (by omega) | exact y_ld rfl rfl rfl (by rfl) | exact y_ldN rfl rfl rfl (by rfl) | exact y_ldK rfl rfl rfl rfl (by assumption) (by omega) | exact y_ldI rfl rfl rfl rfl (by assumption) (by omega) (by omega) | exact y_extract rfl rfl | exact y_max rfl rfl | exact y_min rfl rfl | exact y_build rfl rfl rfl rfl | exact y_mul rfl rfl (by omega) | exact y_eqlB rfl rfl rfl | exact y_neqB rfl rfl rfl | exact y_sliceHi rfl rfl rfl (by omega) rfl rfl)) rfl ?_))
    first | (refine s_storeC rfl rfl rfl rfl (by rfl) ?_) | (refine s_store rfl rfl rfl rfl (by rfl) ?_)
    repeat (first | (refine s_seq ?_) | (refine s_region ?_) | (refine s_done ?_) | (refine s_block ?_) | (refine s_endb ?_) | (refine s_ends ?_) | (refine s_skip ?_) | (refine s_label ?_) | (refine s_exit rfl ?_) | (refine s_condT2 rfl (by first | with_reducible rfl | exact congrArg Value.bool (by decide)) ?_) | (refine s_condF2 rfl (by first | with_reducible rfl | exact congrArg Value.bool (by decide)) ?_) | (refine s_guard2 rfl rfl (by first | with_reducible rfl | exact congrArg Value.bool (by decide)) ?_) | (refine s_unguard2 (b := false) rfl rfl (by first | with_reducible rfl | exact congrArg Value.bool (by decide)) rfl rfl ?_) | (refine s_unguard2 (b := true) rfl rfl (by first | with_reducible rfl | exact congrArg Value.bool (by decide)) rfl rfl ?_) | (refine s_unguardU rfl rfl rfl ?_) | (refine s_scope ?_) | (refine s_q (by (first | exact y_move rfl | exact y_assign rfl | exact y_add rfl rfl (by omega) | exact y_sub rfl rfl (by omega) | exact y_lss rfl rfl | exact y_leq rfl rfl | exact y_gtr rfl rfl | exact y_geq rfl rfl | exact y_eql rfl rfl | exact y_neq rfl rfl | exact y_notT rfl | exact y_notF rfl | exact y_notp rfl | exact y_notb rfl | exact y_pickT rfl rfl | exact y_pickF rfl rfl | exact y_nilCheck rfl | exact y_fieldAddrB rfl rfl rfl rfl rfl rfl | exact y_fieldAddr rfl rfl rfl rfl rfl rfl | exact y_lenS rfl rfl rfl | exact y_ixI rfl rfl rfl rfl rfl (by assumption) rfl (by omega) (by omega) | exact y_ld rfl rfl rfl (by rfl) | exact y_ldN rfl rfl rfl (by rfl) | exact y_ldK rfl rfl rfl rfl (by assumption) (by omega) | exact y_ldI rfl rfl rfl rfl (by assumption) (by omega) (by omega) | exact y_extract rfl rfl | exact y_max rfl rfl | exact y_min rfl rfl | exact y_build rfl rfl rfl rfl | exact y_mul rfl rfl (by omega) | exact y_eqlB rfl rfl rfl | exact y_neqB rfl rfl rfl | exact y_sliceHi rfl rfl rfl (by omega) rfl rfl)) rfl ?_))
    have e1 : (d ++ [a]).length = d.length + 1 := by simp
    change J _ _ _ (cb b2 22 [.slice A' (d.length + 1) c'] :: Sl 3 1 A' (d.length + 1) c' (ints d ++ [.int .i64 a]) :: _) _
    refine J.perm (Tk.perm (K := [cb b2 22 [.slice A' (d.length + 1) c'], Sl 3 1 A' (d.length + 1) c' (ints d ++ [.int .i64 a])])) ?_
    rw [show ints d ++ [Value.int .i64 a] = ints (d ++ [a]) by simp [ints], ← e1]
    refine J.group.1 ?_
    refine J.exI (f := fun s : Option Addr × Nat => star [cb b2 22 [.slice s.1 (d ++ [a]).length s.2], Sl 3 1 s.1 (d ++ [a]).length s.2 (ints (d ++ [a]))]) (A', c') ?_
    change J _ _ _ (seqLI b2 (d ++ [a]) :: _) _
    exact s_roundEndG (by first | exact tk1 | (dsimp only; exact tk1))
  · intro D d hd
    rw [List.append_nil]
    refine J.swap ?_
    refine J.ex fun s => ?_
    obtain ⟨A, c⟩ := s
    refine J.group.2 ?_
    dsimp only [List.cons_append, List.nil_append]
    repeat (first | (refine s_seq ?_) | (refine s_region ?_) | (refine s_done ?_) | (refine s_block ?_) | (refine s_endb ?_) | (refine s_ends ?_) | (refine s_skip ?_) | (refine s_label ?_) | (refine s_exit rfl ?_) | (refine s_condT2 rfl (by first | with_reducible rfl | exact congrArg Value.bool (by decide)) ?_) | (refine s_condF2 rfl (by first | with_reducible rfl | exact congrArg Value.bool (by decide)) ?_) | (refine s_guard2 rfl rfl (by first | with_reducible rfl | exact congrArg Value.bool (by decide)) ?_) | (refine s_unguard2 (b := false) rfl rfl (by first | with_reducible rfl | exact congrArg Value.bool (by decide)) rfl rfl ?_) | (refine s_unguard2 (b := true) rfl rfl (by first | with_reducible rfl | exact congrArg Value.bool (by decide)) rfl rfl ?_) | (refine s_unguardU rfl rfl rfl ?_) | (refine s_scope ?_) | (refine s_q (by (first | exact y_move rfl | exact y_assign rfl | exact y_add rfl rfl (by omega) | exact y_sub rfl rfl (by omega) | exact y_lss rfl rfl | exact y_leq rfl rfl | exact y_gtr rfl rfl | exact y_geq rfl rfl | exact y_eql rfl rfl | exact y_neq rfl rfl | exact y_notT rfl | exact y_notF rfl | exact y_notp rfl | exact y_notb rfl | exact y_pickT rfl rfl | exact y_pickF rfl rfl | exact y_nilCheck rfl | exact y_fieldAddrB rfl rfl rfl rfl rfl rfl | exact y_fieldAddr rfl rfl rfl rfl rfl rfl | exact y_lenS rfl rfl rfl | exact y_ixI rfl rfl rfl rfl rfl (by assumption) rfl (by omega) (by omega) | exact y_ld rfl rfl rfl (by rfl) | exact y_ldN rfl rfl rfl (by rfl) | exact y_ldK rfl rfl rfl rfl (by assumption) (by omega) | exact y_ldI rfl rfl rfl rfl (by assumption) (by omega) (by omega) | exact y_extract rfl rfl | exact y_max rfl rfl | exact y_min rfl rfl | exact y_build rfl rfl rfl rfl | exact y_mul rfl rfl (by omega) | exact y_eqlB rfl rfl rfl | exact y_neqB rfl rfl rfl | exact y_sliceHi rfl rfl rfl (by omega) rfl rfl)) rfl ?_))
    exact s_return1 (R := SeqPost fin) ⟨A, c, d, hd, rfl, rfl⟩ (res_tmp Tryz.results88 rfl)
  · intro D t; exact nomatch t
theorem Collect_spec (w : World) (N : Nat → Prop) (g : FuncId) (caps : List Value) (dom : List Int → Int → Prop) (fin : List Int → Prop) (ho : Owns w [] N) (hs : SeqI w N g caps dom fin) (hg : cx.has g = true) (hdom : ∀ d a, dom d a → d.length < 1000000) :
    Ret Tryz.prog 65 [.func (.func g) #[] caps.toArray] w N (SeqPost fin) := by
  refine ret_of_J cx Tryz.func65 rfl (Nat.le_of_ble_eq_true rfl) ho ?_
  refine s_seq ?_
  refine s_region ?_
  refine s_q (y_assign rfl) rfl ?_
  refine s_done ?_
  refine s_seq ?_
  refine s_region ?_
  refine s_q (y_move rfl) rfl ?_
  refine s_call (pre := []) (rem := _) rfl rfl tk (fun w N ho hl => AppendSeq_spec w N g caps dom fin ho (hs.of hl) hg hdom) rfl ?_
  rintro e L' ⟨A, c, xs, hx, rfl, rfl⟩
  try simp only [List.nil_append, List.cons_append, List.append_nil]
  refine s_q (y_assign rfl) rfl ?_
  refine s_done ?_
  exact s_return (R := SeqPost fin) ⟨A, c, xs, hx, rfl, rfl⟩ (res_tmp Tryz.results65 rfl)
theorem Sort_spec (w : World) (N : Nat → Prop) (A : Option Addr) (n c : Nat) (zs : List Int) (hn : n = zs.length) (hlen : zs.length < 1000000000000) (ho : Owns w [Sl 3 1 A n c (ints zs)] N) :
    Ret Tryz.prog 66 [.slice A n c] w N fun v L => v = .tuple #[] ∧ L = [Sl 3 1 A n c (ints (sortI zs))] := sort_ret Go.Proofs.Tryz.lays189 _ (by kernel_rfl) w N A 3 n c zs hn hlen ho
theorem Sorted_spec (w : World) (N : Nat → Prop) (g : FuncId) (caps : List Value) (dom : List Int → Int → Prop) (fin : List Int → Prop) (ho : Owns w [] N) (hs : SeqI w N g caps dom fin) (hg : cx.has g = true) (hdom : ∀ d a, dom d a → d.length < 1000000) (hfin : ∀ d, fin d → d.length < 1000000) :
    Ret Tryz.prog 41 [.func (.func g) #[] caps.toArray] w N (SeqPost fun ys => ∃ xs, fin xs ∧ ys = sortI xs) := by
  refine ret_of_J cx Tryz.func41 rfl (Nat.le_of_ble_eq_true rfl) ho ?_
  refine s_seq ?_
  refine s_region ?_
  refine s_q (y_assign rfl) rfl ?_
  refine s_done ?_
  refine s_seq ?_
  refine s_region ?_
  refine s_q (y_move rfl) rfl ?_
  refine s_call (pre := []) (rem := _) rfl rfl tk (fun w N ho hl => Collect_spec w N g caps dom fin ho (hs.of hl) hg hdom) rfl ?_
  rintro e L' ⟨A, c, xs, hx, rfl, rfl⟩
  try simp only [List.nil_append, List.cons_append, List.append_nil]
  refine s_q (y_assign rfl) rfl ?_
  refine s_done ?_
  refine s_seq ?_
  refine s_region ?_
  refine s_q (y_move rfl) rfl ?_
  have hxl := hfin xs hx
  refine s_call (pre := [Sl 3 1 A xs.length c (ints xs)]) (rem := _) rfl rfl tk (fun w N ho hl => Sort_spec w N A xs.length c xs rfl (by omega) ho) rfl ?_
  rintro e L' ⟨rfl, rfl⟩
  try simp only [List.nil_append, List.cons_append, List.append_nil]
  refine s_done ?_
  refine s_seq ?_
  refine s_region ?_
  refine s_q (y_move rfl) rfl ?_
  refine s_q (y_assign rfl) rfl ?_
  refine s_done ?_
  rw [← sortI_length xs]
  exact s_return (R := SeqPost fun ys => ∃ xs, fin xs ∧ ys = sortI xs) ⟨A, c, sortI xs, ⟨xs, hx, rfl⟩, rfl, rfl⟩ (res_tmp Tryz.results41 rfl)
abbrev ksOf (m : List (Int × Value)) : List Int := m.map (·.1)
def keysDom (keys : List Int) (d : List Int) (a : Int) : Prop := ∃ t, (d ++ a :: t).Perm keys
def keysFin (keys : List Int) (d : List Int) : Prop := d.Perm keys
theorem keysDom_len {keys d : List Int} {a : Int} (h : keysDom keys d a) : d.length < keys.length := by
  obtain ⟨t, ht⟩ := h
  have := ht.length_eq
  simp only [List.length_append, List.length_cons] at this; omega
theorem KeysI_spec (w : World) (N : Nat → Prop) (mb : Nat) (ho : Owns w [] N) : Ret Tryz.prog 42 [.map (some mb)] w N fun v L => ∃ q, v = .func (.func 67) #[] [.pointer (some ⟨q, 0, none⟩)].toArray ∧ L = [cb q 59 [.map (some mb)]] := by
  refine ret_of_J cx Tryz.func42 rfl (Nat.le_of_ble_eq_true rfl) ho ?_
  refine s_seq ?_
  refine s_region ?_
  first | (refine s_box1 rfl rfl rfl (fun q => ?_)) | (refine s_boxA rfl rfl (fun q => ?_))
  refine s_q (y_assign rfl) rfl ?_
  refine s_done ?_
  refine s_seq ?_
  refine s_region ?_
  refine s_q (by (first | exact y_makeFunc rfl | exact y_move rfl | exact y_assign rfl | exact y_add rfl rfl (by omega) | exact y_sub rfl rfl (by omega) | exact y_lss rfl rfl | exact y_leq rfl rfl | exact y_gtr rfl rfl | exact y_geq rfl rfl | exact y_eql rfl rfl | exact y_neq rfl rfl | exact y_notT rfl | exact y_notF rfl | exact y_notp rfl | exact y_notb rfl | exact y_pickT rfl rfl | exact y_pickF rfl rfl | exact y_nilCheck rfl | exact y_fieldAddrB rfl rfl rfl rfl rfl rfl | exact y_fieldAddr rfl rfl rfl rfl rfl rfl | exact y_lenS rfl rfl rfl | exact y_ixI rfl rfl rfl rfl rfl (by assumption) rfl (by omega) (by omega) | exact y_ld rfl rfl rfl (by rfl) | exact y_ldN rfl rfl rfl (by rfl) | exact y_ldK rfl rfl rfl rfl (by assumption) (by omega) | exact y_ldI rfl rfl rfl rfl (by assumption) (by omega) (by omega) | exact y_extract rfl rfl | exact y_max rfl rfl | exact y_min rfl rfl | exact y_build rfl rfl rfl rfl | exact y_mul rfl rfl (by omega) | exact y_eqlB rfl rfl rfl | exact y_neqB rfl rfl rfl | exact y_sliceHi rfl rfl rfl (by omega) rfl rfl)) rfl ?_
  refine s_q (y_assign rfl) rfl ?_
  refine s_done ?_
  exact s_return ⟨q, rfl, rfl⟩ (res_tmp Tryz.results42 rfl)
theorem KeysI_seq (w : World) (N : Nat → Prop) (q mb : Nat) (m : List (Int × Value)) (es : Array MapEntry) (clock : Nat) (hc : KC w N q 59 [.map (some mb)]) (hm : KM w N mb es clock) (he : Ents ki m es clock) :
    SeqI w N 67 [.pointer (some ⟨q, 0, none⟩)] (keysDom (ksOf m)) (keysFin (ksOf m)) := by
  intro l R LI LS w0 N0 h0 ho hy
  have hc' : KC w0 N0 q 59 [.map (some mb)] := fun w' h' => hc w' (h0 w' h')
  have hm' : KM w0 N0 mb es clock := fun w' h' => hm w' (h0 w' h')
  refine ret_of_J cx Tryz.func67 rfl (Nat.le_of_ble_eq_true rfl) ho ?_
  refine s_seq ?_
  refine s_region ?_
  refine s_q (by (first | exact y_ldKC rfl rfl rfl hc' rfl | exact y_ld rfl rfl rfl (by rfl) | exact y_ldN rfl rfl rfl (by rfl) | exact y_ldK rfl rfl rfl rfl (by assumption) (by omega) | exact y_ldI rfl rfl rfl rfl (by assumption) (by omega) (by omega))) rfl ?_
  refine s_rangeMap rfl (fun w hw => hm' w hw.since) rfl rfl (fun r => ?_)
  refine s_done ?_
  refine s_block ?_
  refine s_loopV (σ := List Int × List MapEntry × Option MapEntry) (fun s => []) (fun s => [LIg l R LI s.1, Itr r mb clock es s.2.1 s.2.2]) (fun s => (∃ ks : List Int, s.2.1.map (·.key) = ks.map ki ∧ (s.1 ++ ks).Perm (ksOf m))) (fun s => s.2.1.length) ([], es.toList, none) [(0, _), (5, _)] ⟨rfl, rfl, trivial⟩ trivial tk (⟨ksOf m, by rw [he.key, ksOf, List.map_map]; rfl, List.Perm.refl _⟩) ?_
  rintro ⟨d, todo, last⟩ htd
  try dsimp only [List.cons_append, List.nil_append, List.append_nil] at htd ⊢
  obtain ⟨ks, hks, hpk⟩ := htd
  refine s_seq ?_
  refine s_region ?_
  refine s_nextMap (todo := todo) (last := last) (rem := [LIg l R LI d]) rfl (List.Perm.swap _ _ _) (fun w hw => hm' w hw.since) he.born he.nd rfl (fun e0 => ?_) (fun l1 e l2 e1 => ?_)
  · subst e0
    have : ks = [] := by simpa using hks.symm
    subst this
    rw [List.append_nil] at hpk
    refine s_q (y_extract rfl rfl) rfl ?_
    refine s_done ?_
    refine s_seq ?_
    refine s_condF2 rfl (by with_reducible rfl) ?_
    refine s_exit rfl ?_
    exact s_end (R := fun _ L' => (∃ s, keysFin (ksOf m) s ∧ L' = [LIg l R LI s]) ∨ L' = [LS' l R LS]) (.inl ⟨d, hpk, rfl⟩) (res_none Tryz.results67)
  · subst e1
    obtain ⟨k1, a, k2, e2, e3, e4⟩ : ∃ k1 a k2, ks = k1 ++ a :: k2 ∧ e.key = ki a ∧ (l1 ++ l2).map (·.key) = (k1 ++ k2).map ki := by
      rw [List.map_append, List.map_cons] at hks
      obtain ⟨k1, k3, rfl, h1, h2⟩ := List.map_eq_append_iff.1 hks.symm
      obtain ⟨a, k2, rfl, h3, h4⟩ := List.map_eq_cons_iff.1 h2
      exact ⟨k1, a, k2, rfl, h3.symm, by rw [List.map_append, List.map_append, h1, h4]⟩
    subst e2
    have hp2 : ((d ++ [a]) ++ (k1 ++ k2)).Perm (ksOf m) := by
      refine List.Perm.trans ?_ hpk
      rw [List.append_assoc]
      exact List.Perm.append_left d (List.perm_middle (l₁ := k1) (a := a) (l₂ := k2)).symm
    refine s_q (y_extract rfl rfl) rfl ?_
    refine s_done ?_
    refine s_seq ?_
    refine s_condT2 rfl (by with_reducible rfl) ?_
    refine s_skip ?_
    refine s_block ?_
    refine s_seq ?_
    refine s_region ?_
    refine s_q (y_entry rfl (by repeat (first | exact List.mem_cons_self | refine List.mem_cons_of_mem _ ?_)) (fun w hw => hm' w hw.since) he.nd) rfl ?_
    refine s_q (y_extract rfl rfl) rfl ?_
    refine s_q (y_assign rfl) rfl ?_
    refine s_done ?_
    refine s_seq ?_
    refine s_region ?_
    refine s_q (y_move rfl) rfl ?_
    refine s_q (y_move rfl) rfl ?_
    rw [e3]
    refine s_callY (pre := [LIg l R LI d]) (rem := _) rfl rfl tk rfl (fun w N ho hl => hy d a w N ⟨k1 ++ k2, by rw [← List.singleton_append, ← List.append_assoc]; exact hp2⟩ ho fun w' h' => (hl w' h').since) rfl ?_
    rintro v L' (⟨rfl, rfl⟩ | ⟨rfl, rfl⟩)
    · dsimp only [List.cons_append, List.nil_append]
      refine s_q (by (first | exact y_notT rfl | exact y_notF rfl | exact y_notp rfl | exact y_notb rfl)) rfl ?_
      refine s_done ?_
      refine s_condF2 rfl (by with_reducible rfl) ?_
      refine s_skip ?_
      refine s_endb ?_
      refine s_inv (d ++ [a], l1 ++ l2, some e) (⟨k1 ++ k2, e4, hp2⟩) (by simp only [List.length_append, List.length_cons]; omega) ⟨rfl, rfl, trivial⟩ tk
    · dsimp only [List.cons_append, List.nil_append]
      refine s_q (by (first | exact y_notT rfl | exact y_notF rfl | exact y_notp rfl | exact y_notb rfl)) rfl ?_
      refine s_done ?_
      refine s_condT2 rfl (by with_reducible rfl) ?_
      exact s_return (R := fun _ L' => (∃ s, keysFin (ksOf m) s ∧ L' = [LIg l R LI s]) ∨ L' = [LS' l R LS]) (.inr rfl) (res_none Tryz.results67)
theorem KeysR_spec (w : World) (N : Nat → Prop) (mb : Nat) (ho : Owns w [] N) : Ret Tryz.prog 43 [.map (some mb)] w N fun v L => ∃ q, v = .func (.func 68) #[] [.pointer (some ⟨q, 0, none⟩)].toArray ∧ L = [cb q 92 [.map (some mb)]] := by
  refine ret_of_J cx Tryz.func43 rfl (Nat.le_of_ble_eq_true rfl) ho ?_
  refine s_seq ?_
  refine s_region ?_
  first | (refine s_box1 rfl rfl rfl (fun q => ?_)) | (refine s_boxA rfl rfl (fun q => ?_))
  refine s_q (y_assign rfl) rfl ?_
  refine s_done ?_
  refine s_seq ?_
  refine s_region ?_
  refine s_q (by (first | exact y_makeFunc rfl | exact y_move rfl | exact y_assign rfl | exact y_add rfl rfl (by omega) | exact y_sub rfl rfl (by omega) | exact y_lss rfl rfl | exact y_leq rfl rfl | exact y_gtr rfl rfl | exact y_geq rfl rfl | exact y_eql rfl rfl | exact y_neq rfl rfl | exact y_notT rfl | exact y_notF rfl | exact y_notp rfl | exact y_notb rfl | exact y_pickT rfl rfl | exact y_pickF rfl rfl | exact y_nilCheck rfl | exact y_fieldAddrB rfl rfl rfl rfl rfl rfl | exact y_fieldAddr rfl rfl rfl rfl rfl rfl | exact y_lenS rfl rfl rfl | exact y_ixI rfl rfl rfl rfl rfl (by assumption) rfl (by omega) (by omega) | exact y_ld rfl rfl rfl (by rfl) | exact y_ldN rfl rfl rfl (by rfl) | exact y_ldK rfl rfl rfl rfl (by assumption) (by omega) | exact y_ldI rfl rfl rfl rfl (by assumption) (by omega) (by omega) | exact y_extract rfl rfl | exact y_max rfl rfl | exact y_min rfl rfl | exact y_build rfl rfl rfl rfl | exact y_mul rfl rfl (by omega) | exact y_eqlB rfl rfl rfl | exact y_neqB rfl rfl rfl | exact y_sliceHi rfl rfl rfl (by omega) rfl rfl)) rfl ?_
  refine s_q (y_assign rfl) rfl ?_
  refine s_done ?_
  exact s_return ⟨q, rfl, rfl⟩ (res_tmp Tryz.results43 rfl)
theorem KeysR_seq (w : World) (N : Nat → Prop) (q mb : Nat) (m : List (Int × Value)) (es : Array MapEntry) (clock : Nat) (hc : KC w N q 92 [.map (some mb)]) (hm : KM w N mb es clock) (he : Ents ki m es clock) :
    SeqI w N 68 [.pointer (some ⟨q, 0, none⟩)] (keysDom (ksOf m)) (keysFin (ksOf m)) := by
  intro l R LI LS w0 N0 h0 ho hy
  have hc' : KC w0 N0 q 92 [.map (some mb)] := fun w' h' => hc w' (h0 w' h')
  have hm' : KM w0 N0 mb es clock := fun w' h' => hm w' (h0 w' h')
  refine ret_of_J cx Tryz.func68 rfl (Nat.le_of_ble_eq_true rfl) ho ?_
  refine s_seq ?_
  refine s_region ?_
  refine s_q (by (first | exact y_ldKC rfl rfl rfl hc' rfl | exact y_ld rfl rfl rfl (by rfl) | exact y_ldN rfl rfl rfl (by rfl) | exact y_ldK rfl rfl rfl rfl (by assumption) (by omega) | exact y_ldI rfl rfl rfl rfl (by assumption) (by omega) (by omega))) rfl ?_
  refine s_rangeMap rfl (fun w hw => hm' w hw.since) rfl rfl (fun r => ?_)
  refine s_done ?_
  refine s_block ?_
  refine s_loopV (σ := List Int × List MapEntry × Option MapEntry) (fun s => []) (fun s => [LIg l R LI s.1, Itr r mb clock es s.2.1 s.2.2]) (fun s => (∃ ks : List Int, s.2.1.map (·.key) = ks.map ki ∧ (s.1 ++ ks).Perm (ksOf m))) (fun s => s.2.1.length) ([], es.toList, none) [(0, _), (5, _)] ⟨rfl, rfl, trivial⟩ trivial tk (⟨ksOf m, by rw [he.key, ksOf, List.map_map]; rfl, List.Perm.refl _⟩) ?_
  rintro ⟨d, todo, last⟩ htd
  try dsimp only [List.cons_append, List.nil_append, List.append_nil] at htd ⊢
  obtain ⟨ks, hks, hpk⟩ := htd
  refine s_seq ?_
  refine s_region ?_
  refine s_nextMap (todo := todo) (last := last) (rem := [LIg l R LI d]) rfl (List.Perm.swap _ _ _) (fun w hw => hm' w hw.since) he.born he.nd rfl (fun e0 => ?_) (fun l1 e l2 e1 => ?_)
  · subst e0
    have : ks = [] := by simpa using hks.symm
    subst this
    rw [List.append_nil] at hpk
    refine s_q (y_extract rfl rfl) rfl ?_
    refine s_done ?_
    refine s_seq ?_
    refine s_condF2 rfl (by with_reducible rfl) ?_
    refine s_exit rfl ?_
    exact s_end (R := fun _ L' => (∃ s, keysFin (ksOf m) s ∧ L' = [LIg l R LI s]) ∨ L' = [LS' l R LS]) (.inl ⟨d, hpk, rfl⟩) (res_none Tryz.results68)
  · subst e1
    obtain ⟨k1, a, k2, e2, e3, e4⟩ : ∃ k1 a k2, ks = k1 ++ a :: k2 ∧ e.key = ki a ∧ (l1 ++ l2).map (·.key) = (k1 ++ k2).map ki := by
      rw [List.map_append, List.map_cons] at hks
      obtain ⟨k1, k3, rfl, h1, h2⟩ := List.map_eq_append_iff.1 hks.symm
      obtain ⟨a, k2, rfl, h3, h4⟩ := List.map_eq_cons_iff.1 h2
      exact ⟨k1, a, k2, rfl, h3.symm, by rw [List.map_append, List.map_append, h1, h4]⟩
    subst e2
    have hp2 : ((d ++ [a]) ++ (k1 ++ k2)).Perm (ksOf m) := by
      refine List.Perm.trans ?_ hpk
      rw [List.append_assoc]
      exact List.Perm.append_left d (List.perm_middle (l₁ := k1) (a := a) (l₂ := k2)).symm
    refine s_q (y_extract rfl rfl) rfl ?_
    refine s_done ?_
    refine s_seq ?_
    refine s_condT2 rfl (by with_reducible rfl) ?_
    refine s_skip ?_
    refine s_block ?_
    refine s_seq ?_
    refine s_region ?_
    refine s_q (y_entry rfl (by repeat (first | exact List.mem_cons_self | refine List.mem_cons_of_mem _ ?_)) (fun w hw => hm' w hw.since) he.nd) rfl ?_
    refine s_q (y_extract rfl rfl) rfl ?_
    refine s_q (y_assign rfl) rfl ?_
    refine s_done ?_
    refine s_seq ?_
    refine s_region ?_
    refine s_q (y_move rfl) rfl ?_
    refine s_q (y_move rfl) rfl ?_
    rw [e3]
    refine s_callY (pre := [LIg l R LI d]) (rem := _) rfl rfl tk rfl (fun w N ho hl => hy d a w N ⟨k1 ++ k2, by rw [← List.singleton_append, ← List.append_assoc]; exact hp2⟩ ho fun w' h' => (hl w' h').since) rfl ?_
    rintro v L' (⟨rfl, rfl⟩ | ⟨rfl, rfl⟩)
    · dsimp only [List.cons_append, List.nil_append]
      refine s_q (by (first | exact y_notT rfl | exact y_notF rfl | exact y_notp rfl | exact y_notb rfl)) rfl ?_
      refine s_done ?_
      refine s_condF2 rfl (by with_reducible rfl) ?_
      refine s_skip ?_
      refine s_endb ?_
      refine s_inv (d ++ [a], l1 ++ l2, some e) (⟨k1 ++ k2, e4, hp2⟩) (by simp only [List.length_append, List.length_cons]; omega) ⟨rfl, rfl, trivial⟩ tk
    · dsimp only [List.cons_append, List.nil_append]
      refine s_q (by (first | exact y_notT rfl | exact y_notF rfl | exact y_notp rfl | exact y_notb rfl)) rfl ?_
      refine s_done ?_
      refine s_condT2 rfl (by with_reducible rfl) ?_
      exact s_return (R := fun _ L' => (∃ s, keysFin (ksOf m) s ∧ L' = [LIg l R LI s]) ∨ L' = [LS' l R LS]) (.inr rfl) (res_none Tryz.results68)
end Go.Proofs.YtdbnlgknalencaaGreat
