/- Layer 23 (brief), BriefSmall, walked. -/
import Derived.Test.YtdbnlgknalencaaGreatBrgN
import Derived.Test.YtdbnlgknalencaaGreatEEc
import Derived.Test.YtdbnlgknalencaaGreatEEb
set_option linter.unusedVariables false
set_option linter.unusedSimpArgs false
namespace Go.Proofs.YtdbnlgknalencaaGreat
open Go Go.E
set_option maxRecDepth 4000
set_option maxHeartbeats 1000000
def endsB : List Int := [-1, 0, 1, 1099511627776, 1099511627777]
theorem endsB_len : endsB.length = 5 := rfl
theorem KE.pre {α : Type} {sz : Nat} {enc : α → List Value} {d : α} {base : World} {M : Nat → Prop} {A : Option Addr} {xs ys : List α} (h : KE sz enc d base M A (xs ++ ys)) : KE sz enc d base M A xs := fun w hw i hi => by
  obtain ⟨ad, hA, hc⟩ := h w hw i (by rw [List.length_append]; omega)
  refine ⟨ad, hA, fun j v hj => hc j v ?_⟩
  rw [app_getD_l hi]; exact hj
theorem keTake {α : Type} {sz : Nat} {enc : α → List Value} {d : α} {base : World} {M : Nat → Prop} {A : Option Addr} {xs : List α} (k : Nat) (h : KE sz enc d base M A xs) : KE sz enc d base M A (xs.take k) := KE.pre (ys := xs.drop k) (by rw [List.take_append_drop]; exact h)
theorem kiTake {base : World} {M : Nat → Prop} {A : Option Addr} {xs : List Int} (k : Nat) (h : KI base M A xs) : KI base M A (xs.take k) := KI.pre (ys := xs.drop k) (by rw [List.take_append_drop]; exact h)
theorem nilI {w : World} {N : Nat → Prop} {A : Option Addr} : KI w N A [] := fun w hw i hi => absurd hi (Nat.not_lt_zero i)
theorem noKR {w : World} {N : Nat → Prop} : KR w N .no := ⟨nilI, nilI, nilI⟩
theorem noOk : BrD.no.ok := ⟨by decide, by decide, by decide⟩
/-- Two briefs that lie in blocks of numbers. -/
def mkA (x1 x2 x3 : Nat) (A2 A3 : List Int) (le : Nat) : BrD := ⟨some ⟨x1, 0, none⟩, 3, [1, 2, 200], some ⟨x2, 0, none⟩, 3, A2, some ⟨x3, 0, none⟩, 3, A3.take le⟩
def mkB (y1 y2 y3 : Nat) (ys B2 B3 : List Int) : BrD := ⟨some ⟨y1, 0, none⟩, 2, ys, some ⟨y2, 0, none⟩, 2, B2, some ⟨y3, 0, none⟩, 2, B3⟩
theorem smallK {base w : World} {M N : Nat → Prop} {L : List HP} {l3 x1 x2 x3 y1 y2 y3 le : Nat} {A2 A3 ys B2 B3 : List Int} (k : Nat) (hl : ∀ w', Since w N w' → Sat base M L w') (h0 : cb l3 43 ([mkA x1 x2 x3 A2 A3 le, mkB y1 y2 y3 ys B2 B3, mkA x1 x2 x3 A2 A3 le].flatMap encBr) ∈ L)
    (h1 : cb x1 3 (ints [1, 2, 200]) ∈ L) (h2 : cb x2 3 (ints A2) ∈ L) (h3 : cb x3 3 (ints A3) ∈ L) (h4 : cb y1 3 (ints ys) ∈ L) (h5 : cb y2 3 (ints B2) ∈ L) (h6 : cb y3 3 (ints B3) ∈ L) :
    KBr w N (some ⟨l3, 0, none⟩) ([mkA x1 x2 x3 A2 A3 le, mkB y1 y2 y3 ys B2 B3, mkA x1 x2 x3 A2 A3 le].take k) := by
  have ka : KR w N (mkA x1 x2 x3 A2 A3 le) := ⟨kiOfC hl h1, kiOfC hl h2, kiTake le (kiOfC hl h3)⟩
  have kb : KR w N (mkB y1 y2 y3 ys B2 B3) := ⟨kiOfC hl h4, kiOfC hl h5, kiOfC hl h6⟩
  refine ⟨keTake k (keOfC (fun _ => rfl) hl h0), fun b hb => ?_⟩
  have := List.mem_of_mem_take hb
  simp only [List.mem_cons, List.not_mem_nil, or_false] at this
  rcases this with rfl | rfl | rfl
  · exact ka
  · exact kb
  · exact ka
theorem BriefSmall_spec (w : World) (N : Nat → Prop) (ho : Owns w [] N) : Ret Tryz.prog 5 [] w N fun v L => v = .bool true ∧ L = [] := by
  have hel := endsB_len
  refine ret_of_J cx Tryz.func5 rfl (Nat.le_of_ble_eq_true rfl) ho ?_
  refine s_seq ?_
  refine s_region ?_
  refine s_q (y_assign rfl) rfl ?_
  refine s_done ?_
  refine s_seq ?_
  refine s_region ?_
  refine s_bslice rfl rfl rfl rfl rfl rfl rfl rfl (fun e0 => ?_)
  change J _ _ _ (cb e0 3 (ints endsB) :: _) _
  refine s_q (y_assign rfl) rfl ?_
  refine s_done ?_
  refine s_seq ?_
  refine s_seq ?_
  refine s_region ?_
  refine s_q (y_assign rfl) rfl ?_
  refine s_done ?_
  refine s_block ?_
  refine s_loopV (σ := Nat) (fun s => [(2, .int .i64 s)]) (fun s => []) (fun s => (s ≤ 1500)) (fun s => 1500 - s) (0) [(1, _)] ⟨rfl, trivial⟩ ⟨rfl, trivial⟩ tk (by (try dsimp only); omega) ?_
  rintro n hn
  try dsimp only [List.cons_append, List.nil_append, List.append_nil] at hn ⊢
  refine s_seq ?_
  refine s_seq ?_
  refine s_region ?_
  refine s_q (y_move rfl) rfl ?_
  refine s_q (y_lss rfl rfl) rfl ?_
  refine s_done ?_
  refine s_cond rfl (fun h => ?_) (fun h => ?_)
  · have hn2 : n < 1500 := by omega
    refine s_skip ?_
    refine s_seq ?_
    refine s_block ?_
    refine s_seq ?_
    refine s_region ?_
    refine s_bslice rfl rfl rfl rfl rfl rfl rfl rfl (fun x1 => ?_)
    change J _ _ _ (cb x1 3 (ints [1, 2, 200]) :: _) _
    refine s_q (y_move rfl) rfl ?_
    refine s_q (y_rem rfl rfl (by omega) (by omega)) rfl ?_
    refine s_q (by (first | exact y_sub rfl rfl (by omega) | exact y_sub rfl rfl (by omega))) rfl ?_
    refine s_q (y_move rfl) rfl ?_
    refine s_q (y_quo rfl rfl (by omega) (by omega) (by omega)) rfl ?_
    refine s_q (y_rem rfl rfl (by omega) (by omega)) rfl ?_
    refine s_q (by (first | exact y_sub rfl rfl (by omega) | exact y_sub rfl rfl (by omega))) rfl ?_
    refine s_q (y_move rfl) rfl ?_
    refine s_q (y_quo rfl rfl (by omega) (by omega) (by omega)) rfl ?_
    refine s_q (y_rem rfl rfl (by omega) (by omega)) rfl ?_
    refine s_q (by (first | exact y_sub rfl rfl (by omega) | exact y_sub rfl rfl (by omega))) rfl ?_
    refine s_bslice rfl rfl rfl rfl rfl rfl rfl rfl (fun x2 => ?_)
    change J _ _ _ (cb x2 3 (ints [_, _, _]) :: _) _
    refine s_q (y_move rfl) rfl ?_
    refine s_q (y_rem rfl rfl (by omega) (by omega)) rfl ?_
    refine s_q (y_move rfl) rfl ?_
    refine s_q (y_rem rfl rfl (by omega) (by omega)) rfl ?_
    refine s_q (y_move rfl) rfl ?_
    refine s_q (y_move rfl) rfl ?_
    refine s_q (y_rem rfl rfl (by omega) (by omega)) rfl ?_
    refine s_q (by (first | exact y_add rfl rfl (by omega) | exact y_add rfl rfl (by omega))) rfl ?_
    refine s_q (by (first | exact y_ixS (xs := endsB) rfl rfl rfl rfl rfl (fun w hw => hw.cbRdI (by repeat (first | exact List.mem_cons_self | refine List.mem_cons_of_mem _ ?_))) rfl (by omega) (by omega) | exact y_ixI rfl rfl rfl rfl rfl (by assumption) rfl (by omega) (by omega))) rfl ?_
    refine s_q (by (first | exact y_ldSq (xs := endsB) rfl rfl rfl rfl (fun w hw => hw.cbRdI (by repeat (first | exact List.mem_cons_self | refine List.mem_cons_of_mem _ ?_))) (by omega) (by omega) | exact y_ld rfl rfl rfl (by rfl) | exact y_ldN rfl rfl rfl (by rfl) | exact y_ldK rfl rfl rfl rfl (by assumption) (by omega) | exact y_ldI rfl rfl rfl rfl (by assumption) (by omega) (by omega))) rfl ?_
    refine s_bslice rfl rfl rfl rfl rfl rfl rfl rfl (fun x3 => ?_)
    change J _ _ _ (cb x3 3 (ints [_, _, _]) :: _) _
    refine s_q (y_build rfl rfl rfl rfl) rfl ?_
    refine s_alloc rfl rfl (fun ba => ?_)
    first | (refine s_storeW rfl rfl rfl rfl rfl (by rfl) ?_) | (refine s_storeN rfl rfl rfl rfl rfl (by rfl) ?_)
    obtain ⟨A2, hA2⟩ : ∃ A2 : List Int, A2 = [(n : Int) % 4 - 1, (n : Int) / 4 % 4 - 1, (n : Int) / 16 % 4 - 1] := ⟨_, rfl⟩
    have lA2 : A2.length = 3 := by rw [hA2]; rfl
    rw [← hA2]
    obtain ⟨A3, hA3⟩ : ∃ A3 : List Int, A3 = [(n : Int) % 7, (n : Int) % 3, endsB.getD (1 + (n : Int) % 3).toNat 0] := ⟨_, rfl⟩
    have lA3 : A3.length = 3 := by rw [hA3]; rfl
    rw [← hA3]
    clear hA2 hA3
    change J _ _ _ (cb ba 43 [.slice (some ⟨x1, 0, none⟩) 3 3, .slice (some ⟨x2, 0, none⟩) 3 3, .slice (some ⟨x3, 0, none⟩) 3 3] :: _) _
    refine s_done ?_
    refine s_seq ?_
    refine s_region ?_
    refine s_bslice rfl rfl rfl rfl rfl rfl rfl rfl (fun y1 => ?_)
    change J _ _ _ (cb y1 3 (ints [2, 5]) :: _) _
    refine s_q (y_move rfl) rfl ?_
    refine s_q (y_quo rfl rfl (by omega) (by omega) (by omega)) rfl ?_
    refine s_q (y_rem rfl rfl (by omega) (by omega)) rfl ?_
    refine s_q (by (first | exact y_sub rfl rfl (by omega) | exact y_sub rfl rfl (by omega))) rfl ?_
    refine s_bslice rfl rfl rfl rfl rfl rfl rfl rfl (fun y2 => ?_)
    change J _ _ _ (cb y2 3 (ints [_, _]) :: _) _
    refine s_q (y_move rfl) rfl ?_
    refine s_q (y_rem rfl rfl (by omega) (by omega)) rfl ?_
    refine s_bslice rfl rfl rfl rfl rfl rfl rfl rfl (fun y3 => ?_)
    change J _ _ _ (cb y3 3 (ints [_, _]) :: _) _
    refine s_q (y_build rfl rfl rfl rfl) rfl ?_
    refine s_alloc rfl rfl (fun bb => ?_)
    first | (refine s_storeW rfl rfl rfl rfl rfl (by rfl) ?_) | (refine s_storeN rfl rfl rfl rfl rfl (by rfl) ?_)
    obtain ⟨B2, hB2⟩ : ∃ B2 : List Int, B2 = [(n : Int) / 2 % 3 - 1, 63] := ⟨_, rfl⟩
    have lB2 : B2.length = 2 := by rw [hB2]; rfl
    rw [← hB2]
    obtain ⟨B3, hB3⟩ : ∃ B3 : List Int, B3 = [(n : Int) % 5, 4] := ⟨_, rfl⟩
    have lB3 : B3.length = 2 := by rw [hB3]; rfl
    rw [← hB3]
    clear hB2 hB3
    change J _ _ _ (cb bb 43 [.slice (some ⟨y1, 0, none⟩) 2 2, .slice (some ⟨y2, 0, none⟩) 2 2, .slice (some ⟨y3, 0, none⟩) 2 2] :: _) _
    refine s_done ?_
    refine s_seq ?_
    refine s_joinV (σ := Nat × Nat) (fun s => [(5, .slice (some ⟨s.1, 0, none⟩) (n % 4) 3), (6, .slice (some ⟨s.2, 0, none⟩) (n % 4) 3)]) [] (fun s => [cb s.1 3 (ints [1, 2, 9]), cb s.2 3 (ints [(n : Int) % 3, endsB.getD (1 + (n : Int) / 3 % 3).toNat 0, 6])]) (fun s => True) [(1, _), (2, _), (3, _), (4, _)] ⟨rfl, rfl, rfl, rfl, trivial⟩ tk (fun k' hr => ?_) ?_
    · refine d_start ?_
      refine d_take 1 rfl (by kernel_rfl) (by exact y_move rfl) rfl ?_
      refine d_take 2 rfl (by kernel_rfl) (by (first | exact y_as (y_rem rfl rfl (by omega) (by omega)) (congrArg (Value.int .i64) (show (n : Int) % 4 = ((n % 4 : Nat) : Int) by omega)) | exact y_rem rfl rfl (by omega) (by omega))) rfl ?_
      refine d_take 4 rfl (by kernel_rfl) (by exact y_move rfl) rfl ?_
      refine d_take 5 rfl (by kernel_rfl) (by (first | exact y_as (y_rem rfl rfl (by omega) (by omega)) (congrArg (Value.int .i64) (show (n : Int) % 4 = ((n % 4 : Nat) : Int) by omega)) | exact y_rem rfl rfl (by omega) (by omega))) rfl ?_
      refine d_take 6 rfl (by kernel_rfl) (by exact y_move rfl) rfl ?_
      refine d_take 7 rfl (by kernel_rfl) (by exact y_move rfl) rfl ?_
      refine d_take 8 rfl (by kernel_rfl) (by exact y_quo rfl rfl (by omega) (by omega) (by omega)) rfl ?_
      refine d_take 9 rfl (by kernel_rfl) (by (first | exact y_as (y_rem rfl rfl (by omega) (by omega)) (congrArg (Value.int .i64) (show (n : Int) % 4 = ((n % 4 : Nat) : Int) by omega)) | exact y_rem rfl rfl (by omega) (by omega))) rfl ?_
      refine d_take 10 rfl (by kernel_rfl) (by (first | exact y_add rfl rfl (by omega) | exact y_add rfl rfl (by omega))) rfl ?_
      refine d_take 11 rfl (by kernel_rfl) (by (first | exact y_ixS (xs := endsB) rfl rfl rfl rfl rfl (fun w hw => hw.cbRdI (by repeat (first | exact List.mem_cons_self | refine List.mem_cons_of_mem _ ?_))) rfl (by omega) (by omega) | exact y_ixI rfl rfl rfl rfl rfl (by assumption) rfl (by omega) (by omega))) rfl ?_
      refine d_take 12 rfl (by kernel_rfl) (by (first | exact y_ldSq (xs := endsB) rfl rfl rfl rfl (fun w hw => hw.cbRdI (by repeat (first | exact List.mem_cons_self | refine List.mem_cons_of_mem _ ?_))) (by omega) (by omega) | exact y_ld rfl rfl rfl (by rfl) | exact y_ldN rfl rfl rfl (by rfl) | exact y_ldK rfl rfl rfl rfl (by assumption) (by omega) | exact y_ldI rfl rfl rfl rfl (by assumption) (by omega) (by omega))) rfl ?_
      refine d_take 14 rfl (by kernel_rfl) (by exact y_move rfl) rfl ?_
      refine d_take 15 rfl (by kernel_rfl) (by (first | exact y_as (y_rem rfl rfl (by omega) (by omega)) (congrArg (Value.int .i64) (show (n : Int) % 4 = ((n % 4 : Nat) : Int) by omega)) | exact y_rem rfl rfl (by omega) (by omega))) rfl ?_
      refine d_effs [0, 13] (by kernel_rfl) rfl (all2 ?_ ?_)
      · refine ⟨_, rfl, [15, 14, 12, 11, 10, 9, 8, 7, 6, 5, 4, 2, 1], [true, true, true, true, true, true, true, true, true, true, true, true, true], rfl, (by kernel_rfl), fun K hK => ?_⟩
        refine s_bslice rfl rfl rfl rfl rfl rfl rfl rfl (fun v0 => ?_); change J _ _ _ (cb v0 3 (ints [1, 2, 9]) :: _) _
        refine s_done ?_
        refine hK _ _ (by refine rm_yd rfl (by (first | exact y_as (y_rem rfl rfl (by omega) (by omega)) (congrArg (Value.int .i64) (show (n : Int) % 4 = ((n % 4 : Nat) : Int) by omega)) | exact y_rem rfl rfl (by omega) (by omega))) ?_; refine rm_yd rfl (by exact y_move rfl) ?_; refine rm_yd rfl (by (first | exact y_ldSq (xs := endsB) rfl rfl rfl rfl (fun w hw => hw.cbRdI (by repeat (first | exact List.mem_cons_self | refine List.mem_cons_of_mem _ ?_))) (by omega) (by omega) | exact y_ld rfl rfl rfl (by rfl) | exact y_ldN rfl rfl rfl (by rfl) | exact y_ldK rfl rfl rfl rfl (by assumption) (by omega) | exact y_ldI rfl rfl rfl rfl (by assumption) (by omega) (by omega))) ?_; refine rm_yd rfl (by (first | exact y_ixS (xs := endsB) rfl rfl rfl rfl rfl (fun w hw => hw.cbRdI (by repeat (first | exact List.mem_cons_self | refine List.mem_cons_of_mem _ ?_))) rfl (by omega) (by omega) | exact y_ixI rfl rfl rfl rfl rfl (by assumption) rfl (by omega) (by omega))) ?_; refine rm_yd rfl (by (first | exact y_add rfl rfl (by omega) | exact y_add rfl rfl (by omega))) ?_; refine rm_yd rfl (by (first | exact y_as (y_rem rfl rfl (by omega) (by omega)) (congrArg (Value.int .i64) (show (n : Int) % 4 = ((n % 4 : Nat) : Int) by omega)) | exact y_rem rfl rfl (by omega) (by omega))) ?_; refine rm_yd rfl (by exact y_quo rfl rfl (by omega) (by omega) (by omega)) ?_; refine rm_yd rfl (by exact y_move rfl) ?_; refine rm_yd rfl (by exact y_move rfl) ?_; refine rm_yd rfl (by (first | exact y_as (y_rem rfl rfl (by omega) (by omega)) (congrArg (Value.int .i64) (show (n : Int) % 4 = ((n % 4 : Nat) : Int) by omega)) | exact y_rem rfl rfl (by omega) (by omega))) ?_; refine rm_yd rfl (by exact y_move rfl) ?_; refine rm_yd rfl (by (first | exact y_as (y_rem rfl rfl (by omega) (by omega)) (congrArg (Value.int .i64) (show (n : Int) % 4 = ((n % 4 : Nat) : Int) by omega)) | exact y_rem rfl rfl (by omega) (by omega))) ?_; refine rm_yd rfl (by exact y_move rfl) ?_; exact rm_nil) ?_
        clear hK K
        refine d_take 3 rfl (by kernel_rfl) (by (first | exact y_sliceHi (m := n % 4) rfl rfl (by omega) (by omega) rfl rfl | exact y_sliceHi rfl rfl rfl (by omega) rfl rfl)) rfl ?_
        refine d_take 17 rfl (by kernel_rfl) (by exact y_assign rfl) rfl ?_
        refine d_effM 13 [17, 3, 15, 14, 12, 11, 10, 9, 8, 7, 6, 5, 4, 2, 1] [true, true, true, true, false, true, true, true, true, true, true, false, true, true, true] rfl (by kernel_rfl) rfl (by kernel_rfl) (fun K hK => ?_)
        refine s_bslice rfl rfl rfl rfl rfl rfl rfl rfl (fun w0 => ?_); change J _ _ _ (cb w0 3 (ints [_, _, _]) :: _) _
        refine s_done ?_
        refine hK _ _ (by refine rm_yd rfl (by exact y_assign rfl) ?_; refine rm_yd rfl (by (first | exact y_sliceHi (m := n % 4) rfl rfl (by omega) (by omega) rfl rfl | exact y_sliceHi rfl rfl rfl (by omega) rfl rfl)) ?_; refine rm_yd rfl (by (first | exact y_as (y_rem rfl rfl (by omega) (by omega)) (congrArg (Value.int .i64) (show (n : Int) % 4 = ((n % 4 : Nat) : Int) by omega)) | exact y_rem rfl rfl (by omega) (by omega))) ?_; refine rm_yd rfl (by exact y_move rfl) ?_; refine rm_skip ?_; refine rm_yd rfl (by (first | exact y_ixS (xs := endsB) rfl rfl rfl rfl rfl (fun w hw => hw.cbRdI (by repeat (first | exact List.mem_cons_self | refine List.mem_cons_of_mem _ ?_))) rfl (by omega) (by omega) | exact y_ixI rfl rfl rfl rfl rfl (by assumption) rfl (by omega) (by omega))) ?_; refine rm_yd rfl (by (first | exact y_add rfl rfl (by omega) | exact y_add rfl rfl (by omega))) ?_; refine rm_yd rfl (by (first | exact y_as (y_rem rfl rfl (by omega) (by omega)) (congrArg (Value.int .i64) (show (n : Int) % 4 = ((n % 4 : Nat) : Int) by omega)) | exact y_rem rfl rfl (by omega) (by omega))) ?_; refine rm_yd rfl (by exact y_quo rfl rfl (by omega) (by omega) (by omega)) ?_; refine rm_yd rfl (by exact y_move rfl) ?_; refine rm_yd rfl (by exact y_move rfl) ?_; refine rm_skip ?_; refine rm_yd rfl (by exact y_move rfl) ?_; refine rm_yd rfl (by (first | exact y_as (y_rem rfl rfl (by omega) (by omega)) (congrArg (Value.int .i64) (show (n : Int) % 4 = ((n % 4 : Nat) : Int) by omega)) | exact y_rem rfl rfl (by omega) (by omega))) ?_; refine rm_yd rfl (by exact y_move rfl) ?_; exact rm_nil) ?_
        clear hK K
        refine d_take 16 rfl (by kernel_rfl) (by (first | exact y_sliceHi (m := n % 4) rfl rfl (by omega) (by omega) rfl rfl | exact y_sliceHi rfl rfl rfl (by omega) rfl rfl)) rfl ?_
        refine d_take 18 rfl (by kernel_rfl) (by exact y_assign rfl) rfl ?_
        refine d_done (by kernel_rfl) ?_
        have hr' := hr (v0, w0) trivial
        try dsimp only [List.cons_append, List.nil_append, List.append_nil] at hr'
        exact J.to hr' ⟨rfl, rfl, rfl, rfl, rfl, rfl, trivial⟩ tk
      · refine ⟨_, rfl, [15, 14, 12, 11, 10, 9, 8, 7, 6, 5, 4, 2, 1], [true, true, false, true, true, true, true, true, true, false, true, true, true], rfl, (by kernel_rfl), fun K hK => ?_⟩
        refine s_bslice rfl rfl rfl rfl rfl rfl rfl rfl (fun w0 => ?_); change J _ _ _ (cb w0 3 (ints [_, _, _]) :: _) _
        refine s_done ?_
        refine hK _ _ (by refine rm_yd rfl (by (first | exact y_as (y_rem rfl rfl (by omega) (by omega)) (congrArg (Value.int .i64) (show (n : Int) % 4 = ((n % 4 : Nat) : Int) by omega)) | exact y_rem rfl rfl (by omega) (by omega))) ?_; refine rm_yd rfl (by exact y_move rfl) ?_; refine rm_skip ?_; refine rm_yd rfl (by (first | exact y_ixS (xs := endsB) rfl rfl rfl rfl rfl (fun w hw => hw.cbRdI (by repeat (first | exact List.mem_cons_self | refine List.mem_cons_of_mem _ ?_))) rfl (by omega) (by omega) | exact y_ixI rfl rfl rfl rfl rfl (by assumption) rfl (by omega) (by omega))) ?_; refine rm_yd rfl (by (first | exact y_add rfl rfl (by omega) | exact y_add rfl rfl (by omega))) ?_; refine rm_yd rfl (by (first | exact y_as (y_rem rfl rfl (by omega) (by omega)) (congrArg (Value.int .i64) (show (n : Int) % 4 = ((n % 4 : Nat) : Int) by omega)) | exact y_rem rfl rfl (by omega) (by omega))) ?_; refine rm_yd rfl (by exact y_quo rfl rfl (by omega) (by omega) (by omega)) ?_; refine rm_yd rfl (by exact y_move rfl) ?_; refine rm_yd rfl (by exact y_move rfl) ?_; refine rm_skip ?_; refine rm_yd rfl (by exact y_move rfl) ?_; refine rm_yd rfl (by (first | exact y_as (y_rem rfl rfl (by omega) (by omega)) (congrArg (Value.int .i64) (show (n : Int) % 4 = ((n % 4 : Nat) : Int) by omega)) | exact y_rem rfl rfl (by omega) (by omega))) ?_; refine rm_yd rfl (by exact y_move rfl) ?_; exact rm_nil) ?_
        clear hK K
        refine d_take 16 rfl (by kernel_rfl) (by (first | exact y_sliceHi (m := n % 4) rfl rfl (by omega) (by omega) rfl rfl | exact y_sliceHi rfl rfl rfl (by omega) rfl rfl)) rfl ?_
        refine d_effM 0 [16, 15, 14, 11, 10, 9, 8, 7, 6, 4, 2, 1] [true, true, true, true, true, true, true, true, true, true, true, true] rfl (by kernel_rfl) rfl (by kernel_rfl) (fun K hK => ?_)
        refine s_bslice rfl rfl rfl rfl rfl rfl rfl rfl (fun v0 => ?_); change J _ _ _ (cb v0 3 (ints [1, 2, 9]) :: _) _
        refine s_done ?_
        refine hK _ _ (by refine rm_yd rfl (by (first | exact y_sliceHi (m := n % 4) rfl rfl (by omega) (by omega) rfl rfl | exact y_sliceHi rfl rfl rfl (by omega) rfl rfl)) ?_; refine rm_yd rfl (by (first | exact y_as (y_rem rfl rfl (by omega) (by omega)) (congrArg (Value.int .i64) (show (n : Int) % 4 = ((n % 4 : Nat) : Int) by omega)) | exact y_rem rfl rfl (by omega) (by omega))) ?_; refine rm_yd rfl (by exact y_move rfl) ?_; refine rm_yd rfl (by (first | exact y_ixS (xs := endsB) rfl rfl rfl rfl rfl (fun w hw => hw.cbRdI (by repeat (first | exact List.mem_cons_self | refine List.mem_cons_of_mem _ ?_))) rfl (by omega) (by omega) | exact y_ixI rfl rfl rfl rfl rfl (by assumption) rfl (by omega) (by omega))) ?_; refine rm_yd rfl (by (first | exact y_add rfl rfl (by omega) | exact y_add rfl rfl (by omega))) ?_; refine rm_yd rfl (by (first | exact y_as (y_rem rfl rfl (by omega) (by omega)) (congrArg (Value.int .i64) (show (n : Int) % 4 = ((n % 4 : Nat) : Int) by omega)) | exact y_rem rfl rfl (by omega) (by omega))) ?_; refine rm_yd rfl (by exact y_quo rfl rfl (by omega) (by omega) (by omega)) ?_; refine rm_yd rfl (by exact y_move rfl) ?_; refine rm_yd rfl (by exact y_move rfl) ?_; refine rm_yd rfl (by exact y_move rfl) ?_; refine rm_yd rfl (by (first | exact y_as (y_rem rfl rfl (by omega) (by omega)) (congrArg (Value.int .i64) (show (n : Int) % 4 = ((n % 4 : Nat) : Int) by omega)) | exact y_rem rfl rfl (by omega) (by omega))) ?_; refine rm_yd rfl (by exact y_move rfl) ?_; exact rm_nil) ?_
        clear hK K
        refine d_take 3 rfl (by kernel_rfl) (by (first | exact y_sliceHi (m := n % 4) rfl rfl (by omega) (by omega) rfl rfl | exact y_sliceHi rfl rfl rfl (by omega) rfl rfl)) rfl ?_
        refine d_take 17 rfl (by kernel_rfl) (by exact y_assign rfl) rfl ?_
        refine d_take 18 rfl (by kernel_rfl) (by exact y_assign rfl) rfl ?_
        refine d_done (by kernel_rfl) ?_
        have hr' := hr (v0, w0) trivial
        try dsimp only [List.cons_append, List.nil_append, List.append_nil] at hr'
        exact J.to hr' ⟨rfl, rfl, rfl, rfl, rfl, rfl, trivial⟩ tk
    rintro ⟨V, W⟩ -
    dsimp only [List.cons_append, List.nil_append]
    obtain ⟨W2, hW2⟩ : ∃ W2 : List Int, W2 = [(n : Int) % 3, endsB.getD (1 + (n : Int) / 3 % 3).toNat 0, 6] := ⟨_, rfl⟩
    have lW2 : W2.length = 3 := by rw [hW2]; rfl
    rw [← hW2]
    clear hW2
    refine s_seq ?_
    refine s_joinV (σ := List Int × List Int × Nat × Nat × List Int × Nat × Nat × Nat × List Int × Nat × Nat × Nat × List Int) (fun s => [(5, .slice (some ⟨s.2.2.2.2.2.1, 0, none⟩) s.2.2.2.2.2.2.1 s.2.2.2.2.2.2.2.1), (6, .slice (some ⟨s.2.2.2.2.2.2.2.2.2.1, 0, none⟩) s.2.2.2.2.2.2.2.2.2.2.1 s.2.2.2.2.2.2.2.2.2.2.2.1)]) [cb ba 43 [.slice (some ⟨x1, 0, none⟩) 3 3, .slice (some ⟨x2, 0, none⟩) 3 3, .slice (some ⟨x3, 0, none⟩) 3 3], cb x2 3 (ints A2), cb x3 3 (ints A3), cb bb 43 [.slice (some ⟨y1, 0, none⟩) 2 2, .slice (some ⟨y2, 0, none⟩) 2 2, .slice (some ⟨y3, 0, none⟩) 2 2], cb y1 3 (ints [2, 5]), cb V 3 (ints [1, 2, 9]), cb W 3 (ints W2)] (fun s => [cb ba 43 [.slice (some ⟨x1, 0, none⟩) 3 3, .slice (some ⟨x2, 0, none⟩) 3 3, .slice (some ⟨x3, 0, none⟩) s.2.2.1 3], cb x2 3 (ints s.1), cb x3 3 (ints s.2.1), cb bb 43 [.slice (some ⟨s.2.2.2.1, 0, none⟩) 2 2, .slice (some ⟨y2, 0, none⟩) 2 2, .slice (some ⟨y3, 0, none⟩) 2 2], cb s.2.2.2.1 3 (ints s.2.2.2.2.1), cb s.2.2.2.2.2.1 3 (ints s.2.2.2.2.2.2.2.2.1), cb s.2.2.2.2.2.2.2.2.2.1 3 (ints s.2.2.2.2.2.2.2.2.2.2.2.2)]) (fun s => (s.1.length = 3) ∧ (s.2.1.length = 3) ∧ (s.2.2.1 ≤ 3) ∧ (s.2.2.2.2.1.length = 2) ∧ (s.2.2.2.2.2.2.1 ≤ s.2.2.2.2.2.2.2.2.1.length) ∧ (s.2.2.2.2.2.2.2.2.1.length ≤ 3) ∧ (s.2.2.2.2.2.2.2.2.2.2.1 ≤ s.2.2.2.2.2.2.2.2.2.2.2.2.length) ∧ (s.2.2.2.2.2.2.2.2.2.2.2.2.length ≤ 3)) [(1, _), (2, _), (3, _), (4, _)] ⟨rfl, rfl, rfl, rfl, trivial⟩ tk (fun k' hr => ?_) ?_
    · refine s_seq ?_
      refine s_region ?_
      refine s_q (y_move rfl) rfl ?_
      refine s_q (y_rem rfl rfl (by omega) (by omega)) rfl ?_
      refine s_done ?_
      refine s_block ?_
      refine s_seq ?_
      refine s_region ?_
      refine s_q (by (first | exact y_eql rfl rfl | exact y_eqlB rfl rfl rfl)) rfl ?_
      refine s_q (y_assign rfl) rfl ?_
      refine s_done ?_
      refine s_cond rfl (fun c0 => ?_) (fun c0 => ?_)
      · skip
        refine d_start ?_
        refine d_take 0 rfl (by kernel_rfl) (by (first | exact y_fieldAddrB rfl rfl rfl rfl rfl rfl | exact y_fieldAddr rfl rfl rfl rfl rfl rfl)) rfl ?_
        refine d_take 1 rfl (by kernel_rfl) (by (first | exact y_ldSq (xs := [-2, 64]) rfl rfl rfl rfl (fun w hw => hw.cbRdI (by repeat (first | exact List.mem_cons_self | refine List.mem_cons_of_mem _ ?_))) (by first | omega | (simp only [List.length_cons, List.length_nil]; omega)) (by first | omega | (simp only [List.length_cons, List.length_nil]; omega)) | exact y_ld rfl rfl rfl (by rfl) | exact y_ldN rfl rfl rfl (by rfl) | exact y_ldK rfl rfl rfl rfl (by assumption) (by omega) | exact y_ldI rfl rfl rfl rfl (by assumption) (by omega) (by omega))) rfl ?_
        refine d_take 2 rfl (by kernel_rfl) (by exact y_move rfl) rfl ?_
        refine d_take 3 rfl (by kernel_rfl) (by exact y_rem rfl rfl (by omega) (by omega)) rfl ?_
        refine d_take 5 rfl (by kernel_rfl) (by exact y_move rfl) rfl ?_
        refine d_take 6 rfl (by kernel_rfl) (by exact y_rem rfl rfl (by omega) (by omega)) rfl ?_
        refine d_effM 4 [6, 5, 3, 2, 1, 0] [true, true, true, true, true, true] rfl (by kernel_rfl) rfl (by kernel_rfl) (fun K hK => ?_)
        refine s_bslice rfl rfl rfl rfl rfl rfl rfl rfl (fun bq => ?_)
        change J _ _ _ (cb bq 3 (ints [-2, 64]) :: _) _
        refine s_done ?_
        refine hK _ _ (by refine rm_yd rfl (by exact y_rem rfl rfl (by omega) (by omega)) ?_; refine rm_yd rfl (by exact y_move rfl) ?_; refine rm_yd rfl (by exact y_rem rfl rfl (by omega) (by omega)) ?_; refine rm_yd rfl (by exact y_move rfl) ?_; refine rm_yd rfl (by (first | exact y_ldSq (xs := [-2, 64]) rfl rfl rfl rfl (fun w hw => hw.cbRdI (by repeat (first | exact List.mem_cons_self | refine List.mem_cons_of_mem _ ?_))) (by first | omega | (simp only [List.length_cons, List.length_nil]; omega)) (by first | omega | (simp only [List.length_cons, List.length_nil]; omega)) | exact y_ld rfl rfl rfl (by rfl) | exact y_ldN rfl rfl rfl (by rfl) | exact y_ldK rfl rfl rfl rfl (by assumption) (by omega) | exact y_ldI rfl rfl rfl rfl (by assumption) (by omega) (by omega))) ?_; refine rm_yd rfl (by (first | exact y_fieldAddrB rfl rfl rfl rfl rfl rfl | exact y_fieldAddr rfl rfl rfl rfl rfl rfl)) ?_; exact rm_nil) ?_
        clear hK K
        refine d_take 7 rfl (by kernel_rfl) (by (first | exact y_ixS (xs := [-2, 64]) rfl rfl rfl rfl rfl (fun w hw => hw.cbRdI (by repeat (first | exact List.mem_cons_self | refine List.mem_cons_of_mem _ ?_))) rfl (by first | omega | (simp only [List.length_cons, List.length_nil]; omega)) (by first | omega | (simp only [List.length_cons, List.length_nil]; omega)) | exact y_ixS (xs := A2) rfl rfl rfl rfl rfl (fun w hw => hw.cbRdI (by repeat (first | exact List.mem_cons_self | refine List.mem_cons_of_mem _ ?_))) lA2.symm (by omega) (by omega) | exact y_ixI rfl rfl rfl rfl rfl (by assumption) rfl (by omega) (by omega))) rfl ?_
        refine d_take 8 rfl (by kernel_rfl) (by (first | exact y_ldSq (xs := [-2, 64]) rfl rfl rfl rfl (fun w hw => hw.cbRdI (by repeat (first | exact List.mem_cons_self | refine List.mem_cons_of_mem _ ?_))) (by first | omega | (simp only [List.length_cons, List.length_nil]; omega)) (by first | omega | (simp only [List.length_cons, List.length_nil]; omega)) | exact y_ld rfl rfl rfl (by rfl) | exact y_ldN rfl rfl rfl (by rfl) | exact y_ldK rfl rfl rfl rfl (by assumption) (by omega) | exact y_ldI rfl rfl rfl rfl (by assumption) (by omega) (by omega))) rfl ?_
        refine d_take 9 rfl (by kernel_rfl) (by (first | exact y_ixS (xs := [-2, 64]) rfl rfl rfl rfl rfl (fun w hw => hw.cbRdI (by repeat (first | exact List.mem_cons_self | refine List.mem_cons_of_mem _ ?_))) rfl (by first | omega | (simp only [List.length_cons, List.length_nil]; omega)) (by first | omega | (simp only [List.length_cons, List.length_nil]; omega)) | exact y_ixS (xs := A2) rfl rfl rfl rfl rfl (fun w hw => hw.cbRdI (by repeat (first | exact List.mem_cons_self | refine List.mem_cons_of_mem _ ?_))) lA2.symm (by omega) (by omega) | exact y_ixI rfl rfl rfl rfl rfl (by assumption) rfl (by omega) (by omega))) rfl ?_
        refine d_effM 10 [9, 8, 7, 6, 5, 3, 2, 1, 0] [false, false, false, false, false, false, false, false, false] rfl (by kernel_rfl) rfl (by kernel_rfl) (fun K hK => ?_)
        refine s_storeIx (b := x2) (q := (n : Int) % 3) rfl rfl rfl (by omega) (by omega) ?_
        refine s_done ?_
        refine hK _ _ (by refine rm_skip ?_; refine rm_skip ?_; refine rm_skip ?_; refine rm_skip ?_; refine rm_skip ?_; refine rm_skip ?_; refine rm_skip ?_; refine rm_skip ?_; refine rm_skip ?_; exact rm_nil) ?_
        clear hK K
        refine d_done (by kernel_rfl) ?_
        refine s_endb ?_
        have hr' := hr (A2.set ((n : Int) % 3).toNat (([-2, 64] : List Int).getD ((n : Int) % 2).toNat 0), A3, 3, y1, [2, 5], V, n % 4, 3, [1, 2, 9], W, n % 4, 3, W2) ⟨(by simp [lA2]), lA3, (by simp), (by simp), (by simp; try omega), (by simp), (by simp; try omega), (by simp [lW2])⟩
        try dsimp only [List.cons_append, List.nil_append, List.append_nil] at hr'
        exact J.to hr' ⟨rfl, rfl, rfl, rfl, rfl, rfl, trivial⟩ tk
      refine s_seq ?_
      refine s_region ?_
      refine s_q (by (first | exact y_eql rfl rfl | exact y_eqlB rfl rfl rfl)) rfl ?_
      refine s_q (y_assign rfl) rfl ?_
      refine s_done ?_
      refine s_cond rfl (fun c1 => ?_) (fun c1 => ?_)
      · skip
        refine d_start ?_
        refine d_take 0 rfl (by kernel_rfl) (by (first | exact y_fieldAddrB rfl rfl rfl rfl rfl rfl | exact y_fieldAddr rfl rfl rfl rfl rfl rfl)) rfl ?_
        refine d_take 1 rfl (by kernel_rfl) (by (first | exact y_ldSq (xs := endsB) rfl rfl rfl rfl (fun w hw => hw.cbRdI (by repeat (first | exact List.mem_cons_self | refine List.mem_cons_of_mem _ ?_))) (by omega) (by omega) | exact y_ld rfl rfl rfl (by rfl) | exact y_ldN rfl rfl rfl (by rfl) | exact y_ldK rfl rfl rfl rfl (by assumption) (by omega) | exact y_ldI rfl rfl rfl rfl (by assumption) (by omega) (by omega))) rfl ?_
        refine d_take 2 rfl (by kernel_rfl) (by exact y_move rfl) rfl ?_
        refine d_take 3 rfl (by kernel_rfl) (by exact y_rem rfl rfl (by omega) (by omega)) rfl ?_
        refine d_take 4 rfl (by kernel_rfl) (by exact y_move rfl) rfl ?_
        refine d_take 5 rfl (by kernel_rfl) (by exact y_move rfl) rfl ?_
        refine d_take 6 rfl (by kernel_rfl) (by exact y_quo rfl rfl (by omega) (by omega) (by omega)) rfl ?_
        refine d_take 7 rfl (by kernel_rfl) (by exact y_rem rfl rfl (by omega) (by omega)) rfl ?_
        refine d_take 8 rfl (by kernel_rfl) (by (first | exact y_ixS (xs := endsB) rfl rfl rfl rfl rfl (fun w hw => hw.cbRdI (by repeat (first | exact List.mem_cons_self | refine List.mem_cons_of_mem _ ?_))) rfl (by omega) (by omega) | exact y_ixS (xs := A3) rfl rfl rfl rfl rfl (fun w hw => hw.cbRdI (by repeat (first | exact List.mem_cons_self | refine List.mem_cons_of_mem _ ?_))) lA3.symm (by omega) (by omega) | exact y_ixI rfl rfl rfl rfl rfl (by assumption) rfl (by omega) (by omega))) rfl ?_
        refine d_take 9 rfl (by kernel_rfl) (by (first | exact y_ldSq (xs := endsB) rfl rfl rfl rfl (fun w hw => hw.cbRdI (by repeat (first | exact List.mem_cons_self | refine List.mem_cons_of_mem _ ?_))) (by omega) (by omega) | exact y_ld rfl rfl rfl (by rfl) | exact y_ldN rfl rfl rfl (by rfl) | exact y_ldK rfl rfl rfl rfl (by assumption) (by omega) | exact y_ldI rfl rfl rfl rfl (by assumption) (by omega) (by omega))) rfl ?_
        refine d_take 10 rfl (by kernel_rfl) (by (first | exact y_ixS (xs := endsB) rfl rfl rfl rfl rfl (fun w hw => hw.cbRdI (by repeat (first | exact List.mem_cons_self | refine List.mem_cons_of_mem _ ?_))) rfl (by omega) (by omega) | exact y_ixS (xs := A3) rfl rfl rfl rfl rfl (fun w hw => hw.cbRdI (by repeat (first | exact List.mem_cons_self | refine List.mem_cons_of_mem _ ?_))) lA3.symm (by omega) (by omega) | exact y_ixI rfl rfl rfl rfl rfl (by assumption) rfl (by omega) (by omega))) rfl ?_
        refine d_effM 11 [10, 9, 8, 7, 6, 5, 4, 3, 2, 1, 0] [false, false, false, false, false, false, false, false, false, false, false] rfl (by kernel_rfl) rfl (by kernel_rfl) (fun K hK => ?_)
        refine s_storeIx (b := x3) (q := (n : Int) % 3) rfl rfl rfl (by omega) (by omega) ?_
        refine s_done ?_
        refine hK _ _ (by refine rm_skip ?_; refine rm_skip ?_; refine rm_skip ?_; refine rm_skip ?_; refine rm_skip ?_; refine rm_skip ?_; refine rm_skip ?_; refine rm_skip ?_; refine rm_skip ?_; refine rm_skip ?_; refine rm_skip ?_; exact rm_nil) ?_
        clear hK K
        refine d_done (by kernel_rfl) ?_
        refine s_endb ?_
        have hr' := hr (A2, A3.set ((n : Int) % 3).toNat (endsB.getD ((n : Int) / 17 % 5).toNat 0), 3, y1, [2, 5], V, n % 4, 3, [1, 2, 9], W, n % 4, 3, W2) ⟨lA2, (by simp [lA3]), (by simp), (by simp), (by simp; try omega), (by simp), (by simp; try omega), (by simp [lW2])⟩
        try dsimp only [List.cons_append, List.nil_append, List.append_nil] at hr'
        exact J.to hr' ⟨rfl, rfl, rfl, rfl, rfl, rfl, trivial⟩ tk
      refine s_seq ?_
      refine s_region ?_
      refine s_q (by (first | exact y_eql rfl rfl | exact y_eqlB rfl rfl rfl)) rfl ?_
      refine s_q (y_assign rfl) rfl ?_
      refine s_done ?_
      refine s_cond rfl (fun c2 => ?_) (fun c2 => ?_)
      · refine s_region ?_
        refine s_q (by (first | exact y_fieldAddrB rfl rfl rfl rfl rfl rfl | exact y_fieldAddr rfl rfl rfl rfl rfl rfl)) rfl ?_
        refine s_q (by (first | exact y_ld rfl rfl rfl (by rfl) | exact y_ldN rfl rfl rfl (by rfl) | exact y_ldK rfl rfl rfl rfl (by assumption) (by omega) | exact y_ldI rfl rfl rfl rfl (by assumption) (by omega) (by omega))) rfl ?_
        refine s_q (by (first | exact y_sliceHi (m := 2) rfl rfl (by omega) (by omega) rfl rfl | exact y_sliceHi rfl rfl rfl (by omega) rfl rfl)) rfl ?_
        refine s_q (by (first | exact y_fieldAddrB rfl rfl rfl rfl rfl rfl | exact y_fieldAddr rfl rfl rfl rfl rfl rfl)) rfl ?_
        first | (refine s_storeC rfl rfl rfl rfl (by rfl) ?_) | (refine s_store rfl rfl rfl rfl (by rfl) ?_)
        refine s_done ?_
        refine s_endb ?_
        have hr' := hr (A2, A3, 2, y1, [2, 5], V, n % 4, 3, [1, 2, 9], W, n % 4, 3, W2) ⟨lA2, lA3, (by simp), (by simp), (by simp; try omega), (by simp), (by simp; try omega), (by simp [lW2])⟩
        try dsimp only [List.cons_append, List.nil_append, List.append_nil] at hr'
        exact J.to hr' ⟨rfl, rfl, rfl, rfl, rfl, rfl, trivial⟩ tk
      refine s_seq ?_
      refine s_region ?_
      refine s_q (by (first | exact y_eql rfl rfl | exact y_eqlB rfl rfl rfl)) rfl ?_
      refine s_q (y_assign rfl) rfl ?_
      refine s_done ?_
      refine s_cond rfl (fun c3 => ?_) (fun c3 => ?_)
      · refine s_region ?_
        refine s_bslice rfl rfl rfl rfl rfl rfl rfl rfl (fun bq => ?_)
        change J _ _ _ (cb bq 3 (ints [5, 2]) :: _) _
        refine s_q (by (first | exact y_fieldAddrB rfl rfl rfl rfl rfl rfl | exact y_fieldAddr rfl rfl rfl rfl rfl rfl)) rfl ?_
        first | (refine s_storeC rfl rfl rfl rfl (by rfl) ?_) | (refine s_store rfl rfl rfl rfl (by rfl) ?_)
        change J _ _ _ (cb bb 43 [.slice (some ⟨bq, 0, none⟩) 2 2, .slice (some ⟨y2, 0, none⟩) 2 2, .slice (some ⟨y3, 0, none⟩) 2 2] :: _) _
        refine s_done ?_
        refine s_endb ?_
        have hr' := hr (A2, A3, 3, bq, [5, 2], V, n % 4, 3, [1, 2, 9], W, n % 4, 3, W2) ⟨lA2, lA3, (by simp), (by simp), (by simp; try omega), (by simp), (by simp; try omega), (by simp [lW2])⟩
        try dsimp only [List.cons_append, List.nil_append, List.append_nil] at hr'
        exact J.to hr' ⟨rfl, rfl, rfl, rfl, rfl, rfl, trivial⟩ tk
      refine s_seq ?_
      refine s_region ?_
      refine s_q (by (first | exact y_eql rfl rfl | exact y_eqlB rfl rfl rfl)) rfl ?_
      refine s_q (y_assign rfl) rfl ?_
      refine s_done ?_
      refine s_cond rfl (fun c4 => ?_) (fun c4 => ?_)
      · skip
        refine d_start ?_
        refine d_take 0 rfl (by kernel_rfl) (by (first | exact y_fieldAddrB rfl rfl rfl rfl rfl rfl | exact y_fieldAddr rfl rfl rfl rfl rfl rfl)) rfl ?_
        refine d_take 1 rfl (by kernel_rfl) (by (first | exact y_ldSq (xs := [0, 201, 5, 2]) rfl rfl rfl rfl (fun w hw => hw.cbRdI (by repeat (first | exact List.mem_cons_self | refine List.mem_cons_of_mem _ ?_))) (by first | omega | (simp only [List.length_cons, List.length_nil]; omega)) (by first | omega | (simp only [List.length_cons, List.length_nil]; omega)) | exact y_ld rfl rfl rfl (by rfl) | exact y_ldN rfl rfl rfl (by rfl) | exact y_ldK rfl rfl rfl rfl (by assumption) (by omega) | exact y_ldI rfl rfl rfl rfl (by assumption) (by omega) (by omega))) rfl ?_
        refine d_take 2 rfl (by kernel_rfl) (by exact y_move rfl) rfl ?_
        refine d_take 3 rfl (by kernel_rfl) (by exact y_rem rfl rfl (by omega) (by omega)) rfl ?_
        refine d_take 5 rfl (by kernel_rfl) (by exact y_move rfl) rfl ?_
        refine d_take 6 rfl (by kernel_rfl) (by exact y_quo rfl rfl (by omega) (by omega) (by omega)) rfl ?_
        refine d_take 7 rfl (by kernel_rfl) (by exact y_rem rfl rfl (by omega) (by omega)) rfl ?_
        refine d_effM 4 [7, 6, 5, 3, 2, 1, 0] [true, true, true, true, true, true, true] rfl (by kernel_rfl) rfl (by kernel_rfl) (fun K hK => ?_)
        refine s_bslice rfl rfl rfl rfl rfl rfl rfl rfl (fun bq => ?_)
        change J _ _ _ (cb bq 3 (ints [0, 201, 5, 2]) :: _) _
        refine s_done ?_
        refine hK _ _ (by refine rm_yd rfl (by exact y_rem rfl rfl (by omega) (by omega)) ?_; refine rm_yd rfl (by exact y_quo rfl rfl (by omega) (by omega) (by omega)) ?_; refine rm_yd rfl (by exact y_move rfl) ?_; refine rm_yd rfl (by exact y_rem rfl rfl (by omega) (by omega)) ?_; refine rm_yd rfl (by exact y_move rfl) ?_; refine rm_yd rfl (by (first | exact y_ldSq (xs := [0, 201, 5, 2]) rfl rfl rfl rfl (fun w hw => hw.cbRdI (by repeat (first | exact List.mem_cons_self | refine List.mem_cons_of_mem _ ?_))) (by first | omega | (simp only [List.length_cons, List.length_nil]; omega)) (by first | omega | (simp only [List.length_cons, List.length_nil]; omega)) | exact y_ld rfl rfl rfl (by rfl) | exact y_ldN rfl rfl rfl (by rfl) | exact y_ldK rfl rfl rfl rfl (by assumption) (by omega) | exact y_ldI rfl rfl rfl rfl (by assumption) (by omega) (by omega))) ?_; refine rm_yd rfl (by (first | exact y_fieldAddrB rfl rfl rfl rfl rfl rfl | exact y_fieldAddr rfl rfl rfl rfl rfl rfl)) ?_; exact rm_nil) ?_
        clear hK K
        refine d_take 8 rfl (by kernel_rfl) (by (first | exact y_ixS (xs := [0, 201, 5, 2]) rfl rfl rfl rfl rfl (fun w hw => hw.cbRdI (by repeat (first | exact List.mem_cons_self | refine List.mem_cons_of_mem _ ?_))) rfl (by first | omega | (simp only [List.length_cons, List.length_nil]; omega)) (by first | omega | (simp only [List.length_cons, List.length_nil]; omega)) | exact y_ixS (xs := [2, 5]) rfl rfl rfl rfl rfl (fun w hw => hw.cbRdI (by repeat (first | exact List.mem_cons_self | refine List.mem_cons_of_mem _ ?_))) rfl (by first | omega | (simp only [List.length_cons, List.length_nil]; omega)) (by first | omega | (simp only [List.length_cons, List.length_nil]; omega)) | exact y_ixI rfl rfl rfl rfl rfl (by assumption) rfl (by omega) (by omega))) rfl ?_
        refine d_take 9 rfl (by kernel_rfl) (by (first | exact y_ldSq (xs := [0, 201, 5, 2]) rfl rfl rfl rfl (fun w hw => hw.cbRdI (by repeat (first | exact List.mem_cons_self | refine List.mem_cons_of_mem _ ?_))) (by first | omega | (simp only [List.length_cons, List.length_nil]; omega)) (by first | omega | (simp only [List.length_cons, List.length_nil]; omega)) | exact y_ld rfl rfl rfl (by rfl) | exact y_ldN rfl rfl rfl (by rfl) | exact y_ldK rfl rfl rfl rfl (by assumption) (by omega) | exact y_ldI rfl rfl rfl rfl (by assumption) (by omega) (by omega))) rfl ?_
        refine d_take 10 rfl (by kernel_rfl) (by (first | exact y_ixS (xs := [0, 201, 5, 2]) rfl rfl rfl rfl rfl (fun w hw => hw.cbRdI (by repeat (first | exact List.mem_cons_self | refine List.mem_cons_of_mem _ ?_))) rfl (by first | omega | (simp only [List.length_cons, List.length_nil]; omega)) (by first | omega | (simp only [List.length_cons, List.length_nil]; omega)) | exact y_ixS (xs := [2, 5]) rfl rfl rfl rfl rfl (fun w hw => hw.cbRdI (by repeat (first | exact List.mem_cons_self | refine List.mem_cons_of_mem _ ?_))) rfl (by first | omega | (simp only [List.length_cons, List.length_nil]; omega)) (by first | omega | (simp only [List.length_cons, List.length_nil]; omega)) | exact y_ixI rfl rfl rfl rfl rfl (by assumption) rfl (by omega) (by omega))) rfl ?_
        refine d_effM 11 [10, 9, 8, 7, 6, 5, 3, 2, 1, 0] [false, false, false, false, false, false, false, false, false, false] rfl (by kernel_rfl) rfl (by kernel_rfl) (fun K hK => ?_)
        refine s_storeIx (b := y1) (xs := [2, 5]) (q := (n : Int) % 2) rfl rfl rfl (by omega) (by simp; omega) ?_
        refine s_done ?_
        refine hK _ _ (by refine rm_skip ?_; refine rm_skip ?_; refine rm_skip ?_; refine rm_skip ?_; refine rm_skip ?_; refine rm_skip ?_; refine rm_skip ?_; refine rm_skip ?_; refine rm_skip ?_; refine rm_skip ?_; exact rm_nil) ?_
        clear hK K
        refine d_done (by kernel_rfl) ?_
        refine s_endb ?_
        have hr' := hr (A2, A3, 3, y1, ([2, 5] : List Int).set ((n : Int) % 2).toNat (([0, 201, 5, 2] : List Int).getD ((n : Int) / 17 % 4).toNat 0), V, n % 4, 3, [1, 2, 9], W, n % 4, 3, W2) ⟨lA2, lA3, (by simp), (by simp), (by simp; try omega), (by simp), (by simp; try omega), (by simp [lW2])⟩
        try dsimp only [List.cons_append, List.nil_append, List.append_nil] at hr'
        exact J.to hr' ⟨rfl, rfl, rfl, rfl, rfl, rfl, trivial⟩ tk
      refine s_seq ?_
      refine s_region ?_
      refine s_q (by (first | exact y_eql rfl rfl | exact y_eqlB rfl rfl rfl)) rfl ?_
      refine s_q (y_assign rfl) rfl ?_
      refine s_done ?_
      refine s_cond rfl (fun c5 => ?_) (fun c5 => ?_)
      · refine s_region ?_
        refine s_bslice rfl rfl rfl rfl rfl rfl rfl rfl (fun bq => ?_)
        change J _ _ _ (cb bq 3 (ints [3, 3]) :: _) _
        refine s_q (y_assign rfl) rfl ?_
        refine s_done ?_
        refine s_endb ?_
        have hr' := hr (A2, A3, 3, y1, [2, 5], bq, 2, 2, [3, 3], W, n % 4, 3, W2) ⟨lA2, lA3, (by simp), (by simp), (by simp; try omega), (by simp), (by simp; try omega), (by simp [lW2])⟩
        try dsimp only [List.cons_append, List.nil_append, List.append_nil] at hr'
        exact J.to hr' ⟨rfl, rfl, rfl, rfl, rfl, rfl, trivial⟩ tk
      refine s_seq ?_
      refine s_region ?_
      refine s_q (by (first | exact y_eql rfl rfl | exact y_eqlB rfl rfl rfl)) rfl ?_
      refine s_q (y_assign rfl) rfl ?_
      refine s_done ?_
      refine s_cond rfl (fun c6 => ?_) (fun c6 => ?_)
      · refine s_region ?_
        refine s_q (y_move rfl) rfl ?_
        refine s_q (y_move rfl) rfl ?_
        refine s_q (y_quo rfl rfl (by omega) (by omega) (by omega)) rfl ?_
        refine s_q (y_rem rfl rfl (by omega) (by omega)) rfl ?_
        refine s_q (by (first | exact y_ixS (xs := endsB) rfl rfl rfl rfl rfl (fun w hw => hw.cbRdI (by repeat (first | exact List.mem_cons_self | refine List.mem_cons_of_mem _ ?_))) rfl (by omega) (by omega) | exact y_ixI rfl rfl rfl rfl rfl (by assumption) rfl (by omega) (by omega))) rfl ?_
        refine s_q (by (first | exact y_ldSq (xs := endsB) rfl rfl rfl rfl (fun w hw => hw.cbRdI (by repeat (first | exact List.mem_cons_self | refine List.mem_cons_of_mem _ ?_))) (by omega) (by omega) | exact y_ld rfl rfl rfl (by rfl) | exact y_ldN rfl rfl rfl (by rfl) | exact y_ldK rfl rfl rfl rfl (by assumption) (by omega) | exact y_ldI rfl rfl rfl rfl (by assumption) (by omega) (by omega))) rfl ?_
        refine s_bslice rfl rfl rfl rfl rfl rfl rfl rfl (fun bq => ?_)
        change J _ _ _ (cb bq 3 (ints [_, 1]) :: _) _
        refine s_q (y_assign rfl) rfl ?_
        refine s_done ?_
        refine s_endb ?_
        have hr' := hr (A2, A3, 3, y1, [2, 5], V, n % 4, 3, [1, 2, 9], bq, 2, 2, [endsB.getD ((n : Int) / 17 % 5).toNat 0, 1]) ⟨lA2, lA3, (by simp), (by simp), (by simp; try omega), (by simp), (by simp; try omega), (by simp [lW2])⟩
        try dsimp only [List.cons_append, List.nil_append, List.append_nil] at hr'
        exact J.to hr' ⟨rfl, rfl, rfl, rfl, rfl, rfl, trivial⟩ tk
      refine s_skip ?_
      refine s_endb ?_
      have hr' := hr (A2, A3, 3, y1, [2, 5], V, n % 4, 3, [1, 2, 9], W, n % 4, 3, W2) ⟨lA2, lA3, (by simp), (by simp), (by simp; try omega), (by simp), (by simp; try omega), (by simp [lW2])⟩
      try dsimp only [List.cons_append, List.nil_append, List.append_nil] at hr'
      exact J.to hr' ⟨rfl, rfl, rfl, rfl, rfl, rfl, trivial⟩ tk
    rintro ⟨A2, A3, le, Y, ys, V, nv, cv, vs, W, nw, cw, ws⟩ ⟨k1, k2, k3, k4, k5, k6, k7, k8⟩
    dsimp only [List.cons_append, List.nil_append] at k1 k2 k3 k4 k5 k6 k7 k8 ⊢
    clear lA2 lA3 lW2
    refine s_seq ?_
    refine s_region ?_
    refine s_q (by (first | exact y_ldN rfl rfl rfl (by rfl) | exact y_ld rfl rfl rfl (by rfl) | exact y_ldN rfl rfl rfl (by rfl) | exact y_ldK rfl rfl rfl rfl (by assumption) (by omega) | exact y_ldI rfl rfl rfl rfl (by assumption) (by omega) (by omega))) rfl ?_
    refine s_q (by (first | exact y_ldN rfl rfl rfl (by rfl) | exact y_ld rfl rfl rfl (by rfl) | exact y_ldN rfl rfl rfl (by rfl) | exact y_ldK rfl rfl rfl rfl (by assumption) (by omega) | exact y_ldI rfl rfl rfl rfl (by assumption) (by omega) (by omega))) rfl ?_
    refine s_q (by (first | exact y_ldN rfl rfl rfl (by rfl) | exact y_ld rfl rfl rfl (by rfl) | exact y_ldN rfl rfl rfl (by rfl) | exact y_ldK rfl rfl rfl rfl (by assumption) (by omega) | exact y_ldI rfl rfl rfl rfl (by assumption) (by omega) (by omega))) rfl ?_
    refine s_bslice rfl rfl rfl rfl rfl rfl rfl rfl (fun l3 => ?_)
    change J _ _ _ (cb l3 43 [.slice (some ⟨x1, 0, none⟩) 3 3, .slice (some ⟨x2, 0, none⟩) 3 3, .slice (some ⟨x3, 0, none⟩) le 3, .slice (some ⟨Y, 0, none⟩) 2 2, .slice (some ⟨y2, 0, none⟩) 2 2, .slice (some ⟨y3, 0, none⟩) 2 2, .slice (some ⟨x1, 0, none⟩) 3 3, .slice (some ⟨x2, 0, none⟩) 3 3, .slice (some ⟨x3, 0, none⟩) le 3] :: _) _
    rw [show ([.slice (some ⟨x1, 0, none⟩) 3 3, .slice (some ⟨x2, 0, none⟩) 3 3, .slice (some ⟨x3, 0, none⟩) le 3, .slice (some ⟨Y, 0, none⟩) 2 2, .slice (some ⟨y2, 0, none⟩) 2 2, .slice (some ⟨y3, 0, none⟩) 2 2, .slice (some ⟨x1, 0, none⟩) 3 3, .slice (some ⟨x2, 0, none⟩) 3 3, .slice (some ⟨x3, 0, none⟩) le 3] : List Value) = [mkA x1 x2 x3 A2 A3 le, mkB Y y2 y3 ys B2 B3, mkA x1 x2 x3 A2 A3 le].flatMap encBr by simp [mkA, mkB, encBr, k1, k2, k4, lB2, lB3, k3]]
    obtain ⟨sl, hsl⟩ : ∃ sl, [mkA x1 x2 x3 A2 A3 le, mkB Y y2 y3 ys B2 B3, mkA x1 x2 x3 A2 A3 le].take (n % 4) = sl := ⟨_, rfl⟩
    have hq : n % 4 = sl.length := by rw [← hsl]; simp; omega
    have hso : ∀ b ∈ sl, b.ok := fun b hb => few_ok (n := 3) (by
      rw [← hsl] at hb
      have := List.mem_of_mem_take hb
      simp only [List.mem_cons, List.not_mem_nil, or_false] at this
      rcases this with rfl | rfl | rfl <;> (refine ⟨?_, ?_, ?_⟩ <;> simp [mkA, mkB] <;> omega)) (by decide)
    have e1 : nv = (vs.take nv).length := by simp; omega
    have e2 : nw = (ws.take nw).length := by simp; omega
    refine s_q (y_move rfl) rfl ?_
    refine s_q (y_as (y_rem rfl rfl (by omega) (by omega)) (congrArg (Value.int .i64) (show (n : Int) % 4 = ((n % 4 : Nat) : Int) by omega))) rfl ?_
    refine s_q (by (first | exact y_sliceHi (m := n % 4) rfl rfl (by omega) (by omega) rfl rfl | exact y_sliceHi rfl rfl rfl (by omega) rfl rfl)) rfl ?_
    refine s_q (y_assign rfl) rfl ?_
    refine s_done ?_
    refine s_seq ?_
    refine s_region ?_
    refine s_q (y_move rfl) rfl ?_
    refine s_call (pre := []) (rem := _) rfl rfl tk (fun w N ho hl => BriefTells_spec w N (some ⟨l3, 0, none⟩) 3 (n % 4) sl hq ho (hsl ▸ smallK (n % 4) hl (by repeat (first | exact List.mem_cons_self | refine List.mem_cons_of_mem _ ?_)) (by repeat (first | exact List.mem_cons_self | refine List.mem_cons_of_mem _ ?_)) (by repeat (first | exact List.mem_cons_self | refine List.mem_cons_of_mem _ ?_)) (by repeat (first | exact List.mem_cons_self | refine List.mem_cons_of_mem _ ?_)) (by repeat (first | exact List.mem_cons_self | refine List.mem_cons_of_mem _ ?_)) (by repeat (first | exact List.mem_cons_self | refine List.mem_cons_of_mem _ ?_)) (by repeat (first | exact List.mem_cons_self | refine List.mem_cons_of_mem _ ?_))) hso (by omega)) rfl ?_
    rintro e L' ⟨rfl, rfl⟩
    try simp only [List.nil_append, List.cons_append, List.append_nil]
    refine s_q (by (first | exact y_notT rfl | exact y_notF rfl | exact y_notp rfl | exact y_notb rfl)) rfl ?_
    refine s_q (y_move rfl) rfl ?_
    refine s_guard2 rfl rfl (by with_reducible rfl) ?_
    refine s_q (y_move rfl) rfl ?_
    refine s_guard2 rfl rfl (by with_reducible rfl) ?_
    refine s_q (y_move rfl) rfl ?_
    refine s_guard2 rfl rfl (by with_reducible rfl) ?_
    refine s_q (y_move rfl) rfl ?_
    refine s_guard2 rfl rfl (by with_reducible rfl) ?_
    refine s_call (pre := []) (rem := _) rfl rfl tk (fun w N ho hl => BriefWorth_spec w N (some ⟨V, 0, none⟩) (some ⟨W, 0, none⟩) (some ⟨l3, 0, none⟩) cv cw 3 nv nw (n % 4) (vs.take nv) (ws.take nw) sl e1 e2 hq ho (kiTake nv (kiOfC hl (by repeat (first | exact List.mem_cons_self | refine List.mem_cons_of_mem _ ?_)))) (kiTake nw (kiOfC hl (by repeat (first | exact List.mem_cons_self | refine List.mem_cons_of_mem _ ?_)))) (hsl ▸ smallK (n % 4) hl (by repeat (first | exact List.mem_cons_self | refine List.mem_cons_of_mem _ ?_)) (by repeat (first | exact List.mem_cons_self | refine List.mem_cons_of_mem _ ?_)) (by repeat (first | exact List.mem_cons_self | refine List.mem_cons_of_mem _ ?_)) (by repeat (first | exact List.mem_cons_self | refine List.mem_cons_of_mem _ ?_)) (by repeat (first | exact List.mem_cons_self | refine List.mem_cons_of_mem _ ?_)) (by repeat (first | exact List.mem_cons_self | refine List.mem_cons_of_mem _ ?_)) (by repeat (first | exact List.mem_cons_self | refine List.mem_cons_of_mem _ ?_))) hso (by omega) (by omega) (by omega)) rfl ?_
    rintro e L' ⟨rfl, rfl⟩
    try simp only [List.nil_append, List.cons_append, List.append_nil]
    refine s_guard2 rfl rfl (by with_reducible rfl) ?_
    refine s_q (by (first | exact y_notT rfl | exact y_notF rfl | exact y_notp rfl | exact y_notb rfl)) rfl ?_
    refine s_q (by (first | exact y_pickT rfl rfl | exact y_pickF rfl rfl)) rfl ?_
    refine s_done ?_
    refine s_condF2 rfl (by with_reducible rfl) ?_
    refine s_skip ?_
    refine s_endb ?_
    refine s_region ?_
    refine s_q (y_move rfl) rfl ?_
    refine s_q (y_add rfl rfl (by omega)) rfl ?_
    refine s_q (y_assign rfl) rfl ?_
    refine s_done ?_
    refine s_inv (n + 1) (by (try dsimp only); omega) (by (try dsimp only); omega) ⟨rfl, rfl, trivial⟩ tk
  · refine s_exit rfl ?_
    refine s_seq ?_
    refine s_region ?_
    refine s_mkslice (l := 201) (c := 201) rfl rfl rfl rfl rfl rfl rfl rfl rfl rfl rfl (by omega) (by omega) (fun bm => ?_)
    change J _ _ _ (Sl 43 3 (some ⟨bm, 0, none⟩) 201 201 (zerosOf (encBr BrD.no) 201) :: _) _
    rw [zeros_flat (enc := encBr) BrD.no 201]
    obtain ⟨many, hmany⟩ : ∃ many, List.replicate 201 BrD.no = many := ⟨_, rfl⟩
    have hml : many.length = 201 := by rw [← hmany, List.length_replicate]
    have hmo : ∀ b ∈ many, b = BrD.no := fun b hb => by rw [← hmany] at hb; exact List.eq_of_mem_replicate hb
    rw [hmany]
    have okm : ∀ b ∈ many, b.ok := fun b hb => by rw [hmo b hb]; exact noOk
    have kbm : ∀ {w : World} {N : Nat → Prop}, ∀ b ∈ many, KR w N b := fun b hb => by rw [hmo b hb]; exact noKR
    refine s_q (y_assign rfl) rfl ?_
    refine s_done ?_
    refine s_seq ?_
    refine s_region ?_
    refine s_bslice rfl rfl rfl rfl rfl rfl rfl rfl (fun b1 => ?_)
    change J _ _ _ (cb b1 3 (ints [1]) :: _) _
    refine s_bslice rfl rfl rfl rfl rfl rfl rfl rfl (fun b2 => ?_)
    change J _ _ _ (cb b2 3 (ints [1]) :: _) _
    refine s_q (y_move rfl) rfl ?_
    refine s_call (pre := []) (rem := _) rfl rfl tk (fun w N ho hl => BriefWorth_spec w N (some ⟨b1, 0, none⟩) (some ⟨b2, 0, none⟩) (some ⟨bm, 0, none⟩) 1 1 201 1 1 201 [1] [1] many rfl rfl hml.symm ho (kiOfC hl (by repeat (first | exact List.mem_cons_self | refine List.mem_cons_of_mem _ ?_))) (kiOfC hl (by repeat (first | exact List.mem_cons_self | refine List.mem_cons_of_mem _ ?_))) ⟨keOfS (fun _ => rfl) (by omega) hl (by repeat (first | exact List.mem_cons_self | refine List.mem_cons_of_mem _ ?_)), kbm⟩ okm (by decide) (by decide) (by omega)) rfl ?_
    rintro e L' ⟨rfl, rfl⟩
    try simp only [List.nil_append, List.cons_append, List.append_nil]
    refine s_q (y_move rfl) rfl ?_
    refine s_guard2 rfl rfl (by with_reducible rfl) ?_
    refine s_bslice rfl rfl rfl rfl rfl rfl rfl rfl (fun b3 => ?_)
    change J _ _ _ (cb b3 3 (ints [1]) :: _) _
    refine s_guard2 rfl rfl (by with_reducible rfl) ?_
    refine s_bslice rfl rfl rfl rfl rfl rfl rfl rfl (fun b4 => ?_)
    change J _ _ _ (cb b4 3 (ints [1]) :: _) _
    refine s_guard2 rfl rfl (by with_reducible rfl) ?_
    refine s_q (y_move rfl) rfl ?_
    refine s_guard2 rfl rfl (by with_reducible rfl) ?_
    refine s_q (by (first | exact y_sliceHi (m := 200) rfl rfl (by omega) (by omega) rfl rfl | exact y_sliceHi rfl rfl rfl (by omega) rfl rfl)) rfl ?_
    refine s_guard2 rfl rfl (by with_reducible rfl) ?_
    refine s_call (pre := []) (rem := _) rfl rfl tk (fun w N ho hl => BriefWorth_spec w N (some ⟨b3, 0, none⟩) (some ⟨b4, 0, none⟩) (some ⟨bm, 0, none⟩) 1 1 201 1 1 200 [1] [1] (many.take 200) rfl rfl (by rw [List.length_take]; omega) ho (kiOfC hl (by repeat (first | exact List.mem_cons_self | refine List.mem_cons_of_mem _ ?_))) (kiOfC hl (by repeat (first | exact List.mem_cons_self | refine List.mem_cons_of_mem _ ?_))) ⟨keTake 200 (keOfS (fun _ => rfl) (by omega) hl (by repeat (first | exact List.mem_cons_self | refine List.mem_cons_of_mem _ ?_))), fun b hb => kbm b (List.mem_of_mem_take hb)⟩ (fun b hb => okm b (List.mem_of_mem_take hb)) (by decide) (by decide) (by rw [List.length_take]; omega)) rfl ?_
    rintro e L' ⟨rfl, rfl⟩
    try simp only [List.nil_append, List.cons_append, List.append_nil]
    refine s_q (by (first | exact y_pickT rfl rfl | exact y_pickF rfl rfl)) rfl ?_
    refine s_q (y_move rfl) rfl ?_
    refine s_guard2 rfl rfl (by with_reducible rfl) ?_
    refine s_call (pre := []) (rem := _) rfl rfl tk (fun w N ho hl => BriefTells_spec w N none 0 0 [] rfl ho ⟨KE.nil, fun b hb => absurd hb List.not_mem_nil⟩ (fun b hb => absurd hb List.not_mem_nil) (by decide)) rfl ?_
    rintro e L' ⟨rfl, rfl⟩
    try simp only [List.nil_append, List.cons_append, List.append_nil]
    refine s_q (by (first | exact y_pickT rfl rfl | exact y_pickF rfl rfl)) rfl ?_
    refine s_q (y_move rfl) rfl ?_
    refine s_guard2 rfl rfl (by with_reducible rfl) ?_
    refine s_call (pre := []) (rem := _) rfl rfl tk (fun w N ho hl => awake_spec w N ho) rfl ?_
    rintro e L' ⟨rfl, rfl⟩
    try simp only [List.nil_append, List.cons_append, List.append_nil]
    refine s_q (by (first | exact y_pickT rfl rfl | exact y_pickF rfl rfl)) rfl ?_
    refine s_q (y_assign rfl) rfl ?_
    refine s_done ?_
    exact s_return ⟨rfl, rfl⟩ (res_tmp Tryz.results5 rfl)
end Go.Proofs.YtdbnlgknalencaaGreat
