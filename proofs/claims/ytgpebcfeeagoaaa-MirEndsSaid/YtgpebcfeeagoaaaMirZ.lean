/- Layer 6 (mir): the walk through MirEnds. -/
import Derived.Test.YtgpebcfeeagoaaaMirY
import Derived.Test.YtgpebcfeeagoaaaMirParts
import Derived.Test.YtgpebcfeeagoaaaEEc
import Derived.Test.YtgpebcfeeagoaaaEEb
set_option linter.unusedVariables false
set_option linter.unusedSimpArgs false
namespace Go.Proofs.Ytgpebcfeeagoaaa
open Go Go.E
set_option maxRecDepth 4000
set_option maxHeartbeats 1000000
def endsL : List Int := [-1, 0, 1, 2, 3, 99, 100, 399, 400, 1099511627776, 1099511627777, -1099511627776, -1099511627777, 9223372036854775807, -9223372036854775808]
theorem ends_i64 (k : Nat) : i64 (endsL.getD k 0) := by
  have h : ∀ x ∈ endsL, i64 x := by unfold i64; decide
  by_cases hk : k < endsL.length
  · exact h _ (getD_mem 0 hk)
  · rw [List.getD_eq_getElem?_getD, List.getElem?_eq_none (by omega)]; unfold i64; decide
def m3 : MV := ⟨3, [2, 0], 1, [2]⟩
/-- Rows of blocks that are told block by block. -/
theorem kbOf {w : World} {N : Nat → Prop} {T : Option Addr} {bs : List BlkD} (h : KE 5 encBlk .no w N T bs) (hi : ∀ b ∈ bs, KE 8 encIns .no w N b.A b.ins ∧ ∀ i ∈ b.ins, KI w N i.A i.xs) : KB w N T bs := ⟨h, fun b hb => (hi b hb).1, fun b hb => (hi b hb).2⟩
def trapB : BlkD := ⟨none, 0, [], 4, 0, 0, 0⟩
theorem tokOf {bs : List BlkD} (hl : bs.length < 100000000000000) (h : ∀ b ∈ bs, b.ins.length < 100000000000000 ∧ ∀ i ∈ b.ins, i.ok ∧ i.xs.length < 100000000000000) : TOK bs := ⟨hl, fun b hb => (h b hb).1, fun b hb i hi => ((h b hb).2 i hi).1, fun b hb i hi => ((h b hb).2 i hi).2⟩
theorem i64_0 : i64 0 := by unfold i64; decide
theorem ok0 (o : Int) : InsD.ok ⟨o, 0, 0, 0, 0, 0, none, 0, [], 0⟩ := ⟨i64_0, i64_0, i64_0⟩
theorem nilI {w : World} {N : Nat → Prop} {A : Option Addr} : KI w N A [] := fun w hw i hi => absurd hi (Nat.not_lt_zero i)
theorem nilE {w : World} {N : Nat → Prop} {A : Option Addr} : KE 8 encIns .no w N A [] := fun w hw i hi => absurd hi (Nat.not_lt_zero i)
theorem nilM {w : World} {N : Nat → Prop} : ∀ i ∈ ([] : List InsD), KI w N i.A i.xs := fun i hi => absurd hi List.not_mem_nil
theorem oneM {w : World} {N : Nat → Prop} {i : InsD} (h : KI w N i.A i.xs) : ∀ j ∈ [i], KI w N j.A j.xs := fun j hj => by rw [List.mem_singleton.1 hj]; exact h
theorem twoM {w : World} {N : Nat → Prop} {i i' : InsD} (h : KI w N i.A i.xs) (h' : KI w N i'.A i'.xs) : ∀ j ∈ [i, i'], KI w N j.A j.xs := fun j hj => by
  rcases List.mem_cons.1 hj with rfl | hj
  · exact h
  · exact oneM h' j hj
theorem kb1 {w : World} {N : Nat → Prop} {T : Option Addr} {b : BlkD} (h : KE 5 encBlk .no w N T [b]) (hb : KE 8 encIns .no w N b.A b.ins) (hi : ∀ i ∈ b.ins, KI w N i.A i.xs) : KB w N T [b] := kbOf h fun x hx => by
  rw [List.mem_singleton.1 hx]; exact ⟨hb, hi⟩
theorem kb2 {w : World} {N : Nat → Prop} {T : Option Addr} {b c : BlkD} (h : KE 5 encBlk .no w N T [b, c]) (hb : KE 8 encIns .no w N b.A b.ins) (hi : ∀ i ∈ b.ins, KI w N i.A i.xs) (hc : KE 8 encIns .no w N c.A c.ins) (hj : ∀ i ∈ c.ins, KI w N i.A i.xs) : KB w N T [b, c] := kbOf h fun x hx => by
  rcases List.mem_cons.1 hx with rfl | hx
  · exact ⟨hb, hi⟩
  · rw [List.mem_singleton.1 hx]; exact ⟨hc, hj⟩
def okB' (b : BlkD) : Prop := b.ins.length < 100000000000000 ∧ ∀ i ∈ b.ins, i.ok ∧ i.xs.length < 100000000000000
theorem okB0 (k a t0 t1 : Int) : okB' ⟨none, 0, [], k, a, t0, t1⟩ := ⟨by simp, fun i hi => absurd hi List.not_mem_nil⟩
theorem okB1 {A : Option Addr} {c : Nat} {i : InsD} (k a t0 t1 : Int) (h : i.ok) (hx : i.xs.length ≤ 2) : okB' ⟨A, c, [i], k, a, t0, t1⟩ := ⟨by simp, fun j hj => by rw [List.mem_singleton.1 hj]; exact ⟨h, by omega⟩⟩
theorem okB2 {A : Option Addr} {c : Nat} {i i' : InsD} (k a t0 t1 : Int) (h : i.ok) (hx : i.xs.length ≤ 2) (h' : i'.ok) (hx' : i'.xs.length ≤ 2) : okB' ⟨A, c, [i, i'], k, a, t0, t1⟩ := ⟨by simp, fun j hj => by
  rcases List.mem_cons.1 hj with rfl | hj
  · exact ⟨h, by omega⟩
  · rw [List.mem_singleton.1 hj]; exact ⟨h', by omega⟩⟩
theorem tok1 {b : BlkD} (h : okB' b) : TOK [b] := tokOf (by simp) fun x hx => by rw [List.mem_singleton.1 hx]; exact h
theorem tok2 {b c : BlkD} (h : okB' b) (h' : okB' c) : TOK [b, c] := tokOf (by simp) fun x hx => by
  rcases List.mem_cons.1 hx with rfl | hx
  · exact h
  · rw [List.mem_singleton.1 hx]; exact h'
def iC : InsD := ⟨1, 0, 0, 0, 0, 0, none, 0, [], 0⟩
theorem okC0 : iC.ok := ok0 1
theorem MirEnds_spec (w : World) (N : Nat → Prop) (ho : Owns w [] N) : Ret Try.prog 6 [] w N fun v L => v = .bool true ∧ L = [] := by
  refine ret_of_J cx Try.func6 rfl (Nat.le_of_ble_eq_true rfl) ho ?_
  refine s_seq ?_
  refine s_region ?_
  refine s_q (y_assign rfl) rfl ?_
  refine s_done ?_
  refine s_seq ?_
  refine s_region ?_
  refine s_bslice rfl rfl rfl rfl rfl rfl rfl rfl (fun e0 => ?_)
  change J _ _ _ (cb e0 3 (ints endsL) :: _) _
  refine s_q (y_assign rfl) rfl ?_
  refine s_done ?_
  refine s_seq ?_
  refine s_region ?_
  refine s_bslice rfl rfl rfl rfl rfl rfl rfl rfl (fun ya => ?_)
  change J _ _ _ (cb ya 3 (ints m3.args) :: _) _
  refine s_bslice rfl rfl rfl rfl rfl rfl rfl rfl (fun yb => ?_)
  change J _ _ _ (cb yb 3 (ints m3.saved) :: _) _
  refine s_q (y_build rfl rfl rfl rfl) rfl ?_
  refine s_alloc rfl rfl (fun b2 => ?_)
  first | (refine s_storeW rfl rfl rfl rfl rfl (by rfl) ?_) | (refine s_storeN rfl rfl rfl rfl rfl (by rfl) ?_)
  change J _ _ _ (cb b2 24 (mval m3 (some ⟨ya, 0, none⟩) 2 (some ⟨yb, 0, none⟩) 1) :: _) _
  refine s_done ?_
  refine s_seq ?_
  refine s_region ?_
  refine s_q (y_build rfl rfl rfl rfl) rfl ?_
  refine s_alloc rfl rfl (fun b3 => ?_)
  first | (refine s_storeW rfl rfl rfl rfl rfl (by rfl) ?_) | (refine s_storeN rfl rfl rfl rfl rfl (by rfl) ?_)
  change J _ _ _ (cb b3 40 [.int .i64 4, .int .i64 0, .int .i64 0, .int .i64 0] :: _) _
  refine s_done ?_
  refine s_seq ?_
  refine s_seq ?_
  refine s_region ?_
  refine s_q (y_assign rfl) rfl ?_
  refine s_done ?_
  refine s_block ?_
  refine s_loopV (σ := Int) (fun s => [(4, .int .i64 s)]) (fun s => []) (fun s => (-1 ≤ s) ∧ (s ≤ 19)) (fun s => (19 - s).toNat) (-1) [(1, _), (2, _), (3, _)] ⟨rfl, rfl, rfl, trivial⟩ ⟨rfl, trivial⟩ tk ⟨(by (try dsimp only); omega), (by (try dsimp only); omega)⟩ ?_
  rintro o ⟨h1, h2⟩
  try dsimp only [List.cons_append, List.nil_append, List.append_nil] at h1 h2 ⊢
  refine s_seq ?_
  refine s_seq ?_
  refine s_region ?_
  refine s_q (y_move rfl) rfl ?_
  refine s_q (y_lss rfl rfl) rfl ?_
  refine s_done ?_
  refine s_cond rfl (fun h => ?_) (fun h => ?_)
  · refine s_skip ?_
    refine s_seq ?_
    refine s_block ?_
    refine s_seq ?_
    refine s_region ?_
    refine s_q (y_assign rfl) rfl ?_
    refine s_done ?_
    refine s_block ?_
    refine s_loopV (σ := Nat) (fun s => [(5, .int .i64 s)]) (fun s => []) (fun s => (s ≤ 120)) (fun s => 120 - s) (0) [(1, _), (2, _), (3, _), (4, _)] ⟨rfl, rfl, rfl, rfl, trivial⟩ ⟨rfl, trivial⟩ tk (by (try dsimp only); omega) ?_
    rintro n hn
    try dsimp only [List.cons_append, List.nil_append, List.append_nil] at hn ⊢
    refine s_seq ?_
    refine s_seq ?_
    refine s_region ?_
    refine s_q (y_move rfl) rfl ?_
    refine s_q (y_move rfl) rfl ?_
    refine s_q (y_lenS rfl rfl rfl) rfl ?_
    refine s_q (y_mul rfl rfl (by omega)) rfl ?_
    refine s_q (y_lss rfl rfl) rfl ?_
    refine s_done ?_
    refine s_cond rfl (fun hc => ?_) (fun hc => ?_)
    · have hn2 : n < 120 := by omega
      refine s_skip ?_
      refine s_seq ?_
      refine s_block ?_
      refine s_seq ?_
      refine s_region ?_
      refine s_q (y_move rfl) rfl ?_
      refine s_q (y_build rfl rfl rfl rfl) rfl ?_
      refine s_alloc rfl rfl (fun b6 => ?_)
      first | (refine s_storeW rfl rfl rfl rfl rfl (by rfl) ?_) | (refine s_storeN rfl rfl rfl rfl rfl (by rfl) ?_)
      change J _ _ _ (cb b6 30 (encIns ⟨o, 0, 0, 0, 0, 0, none, 0, [], 0⟩) :: _) _
      have hel : endsL.length = 15 := rfl
      refine s_done ?_
      refine s_seq ?_
      refine s_region ?_
      refine s_q (y_move rfl) rfl ?_
      refine s_q (y_move rfl) rfl ?_
      refine s_q (y_quo rfl rfl (by omega) (by omega) (by omega)) rfl ?_
      refine s_q (by (first | exact y_ixS (xs := endsL) rfl rfl rfl rfl rfl (fun w hw => hw.cbRdI (by repeat (first | exact List.mem_cons_self | refine List.mem_cons_of_mem _ ?_))) rfl (by omega) (by omega) | exact y_ixI rfl rfl rfl rfl rfl (by assumption) rfl (by omega) (by omega))) rfl ?_
      refine s_q (by (first | exact y_ldSq (xs := endsL) rfl rfl rfl rfl (fun w hw => hw.cbRdI (by repeat (first | exact List.mem_cons_self | refine List.mem_cons_of_mem _ ?_))) (by omega) (by omega) | exact y_ld rfl rfl rfl (by rfl) | exact y_ldN rfl rfl rfl (by rfl) | exact y_ldK rfl rfl rfl rfl (by assumption) (by omega) | exact y_ldI rfl rfl rfl rfl (by assumption) (by omega) (by omega))) rfl ?_
      refine s_q (y_assign rfl) rfl ?_
      refine s_done ?_
      refine s_seq ?_
      have hv := ends_i64 ((n : Int) / 8).toNat
      obtain ⟨v, hvv⟩ : ∃ v, endsL.getD ((n : Int) / 8).toNat 0 = v := ⟨_, rfl⟩
      rw [hvv] at hv ⊢
      refine s_joinV (σ := InsD) (fun s => []) [cb b6 30 (encIns ⟨o, 0, 0, 0, 0, 0, none, 0, [], 0⟩)] (fun s => [cb b6 30 (encIns s), Sl 3 1 s.A s.xs.length s.c (ints s.xs)]) (fun s => (s.ok) ∧ (s.xs.length ≤ 2)) [(1, _), (2, _), (3, _), (4, _), (5, _), (6, _)] ⟨rfl, rfl, rfl, rfl, rfl, rfl, trivial⟩ tk (fun k' hr => ?_) ?_
      · have z : i64 0 := by unfold i64; decide
        refine s_seq ?_
        refine s_region ?_
        refine s_q (y_move rfl) rfl ?_
        refine s_q (y_rem rfl rfl (by omega) (by omega)) rfl ?_
        refine s_done ?_
        refine s_block ?_
        refine s_seq ?_
        refine s_region ?_
        refine s_q (by (first | exact y_eql rfl rfl | exact y_eqlB rfl rfl rfl)) rfl ?_
        refine s_q (y_assign rfl) rfl ?_
        refine s_done ?_
        refine s_cond rfl (fun g0 => ?_) (fun g0 => ?_)
        · refine s_region ?_
          refine s_q (y_move rfl) rfl ?_
          refine s_q (by (first | exact y_fieldAddrB rfl rfl rfl rfl rfl rfl | exact y_fieldAddr rfl rfl rfl rfl rfl rfl)) rfl ?_
          first | (refine s_storeC rfl rfl rfl rfl (by rfl) ?_) | (refine s_store rfl rfl rfl rfl (by rfl) ?_)
          refine J.emp (B := Sl 3 1 none 0 0 (ints [])) (Sl.ofNil _ _) ?_
          refine s_done ?_
          refine s_endb ?_
          have hr' := hr (⟨o, v, 0, 0, 0, 0, none, 0, [], 0⟩ : InsD) ⟨⟨z, z, z⟩, Nat.zero_le _⟩
          try dsimp only [List.cons_append, List.nil_append, List.append_nil] at hr'
          exact J.to hr' ⟨rfl, rfl, rfl, rfl, rfl, rfl, trivial⟩ tk
        refine s_seq ?_
        refine s_region ?_
        refine s_q (by (first | exact y_eql rfl rfl | exact y_eqlB rfl rfl rfl)) rfl ?_
        refine s_q (y_assign rfl) rfl ?_
        refine s_done ?_
        refine s_cond rfl (fun g1 => ?_) (fun g1 => ?_)
        · refine s_region ?_
          refine s_q (y_move rfl) rfl ?_
          refine s_q (by (first | exact y_fieldAddrB rfl rfl rfl rfl rfl rfl | exact y_fieldAddr rfl rfl rfl rfl rfl rfl)) rfl ?_
          first | (refine s_storeC rfl rfl rfl rfl (by rfl) ?_) | (refine s_store rfl rfl rfl rfl (by rfl) ?_)
          refine J.emp (B := Sl 3 1 none 0 0 (ints [])) (Sl.ofNil _ _) ?_
          refine s_done ?_
          refine s_endb ?_
          have hr' := hr (⟨o, 0, v, 0, 0, 0, none, 0, [], 0⟩ : InsD) ⟨⟨z, z, z⟩, Nat.zero_le _⟩
          try dsimp only [List.cons_append, List.nil_append, List.append_nil] at hr'
          exact J.to hr' ⟨rfl, rfl, rfl, rfl, rfl, rfl, trivial⟩ tk
        refine s_seq ?_
        refine s_region ?_
        refine s_q (by (first | exact y_eql rfl rfl | exact y_eqlB rfl rfl rfl)) rfl ?_
        refine s_q (y_assign rfl) rfl ?_
        refine s_done ?_
        refine s_cond rfl (fun g2 => ?_) (fun g2 => ?_)
        · refine s_region ?_
          refine s_q (y_move rfl) rfl ?_
          refine s_q (by (first | exact y_fieldAddrB rfl rfl rfl rfl rfl rfl | exact y_fieldAddr rfl rfl rfl rfl rfl rfl)) rfl ?_
          first | (refine s_storeC rfl rfl rfl rfl (by rfl) ?_) | (refine s_store rfl rfl rfl rfl (by rfl) ?_)
          refine J.emp (B := Sl 3 1 none 0 0 (ints [])) (Sl.ofNil _ _) ?_
          refine s_done ?_
          refine s_endb ?_
          have hr' := hr (⟨o, 0, 0, v, 0, 0, none, 0, [], 0⟩ : InsD) ⟨⟨z, z, z⟩, Nat.zero_le _⟩
          try dsimp only [List.cons_append, List.nil_append, List.append_nil] at hr'
          exact J.to hr' ⟨rfl, rfl, rfl, rfl, rfl, rfl, trivial⟩ tk
        refine s_seq ?_
        refine s_region ?_
        refine s_q (by (first | exact y_eql rfl rfl | exact y_eqlB rfl rfl rfl)) rfl ?_
        refine s_q (y_assign rfl) rfl ?_
        refine s_done ?_
        refine s_cond rfl (fun g3 => ?_) (fun g3 => ?_)
        · refine s_region ?_
          refine s_q (y_move rfl) rfl ?_
          refine s_q (by (first | exact y_fieldAddrB rfl rfl rfl rfl rfl rfl | exact y_fieldAddr rfl rfl rfl rfl rfl rfl)) rfl ?_
          first | (refine s_storeC rfl rfl rfl rfl (by rfl) ?_) | (refine s_store rfl rfl rfl rfl (by rfl) ?_)
          refine J.emp (B := Sl 3 1 none 0 0 (ints [])) (Sl.ofNil _ _) ?_
          refine s_done ?_
          refine s_endb ?_
          have hr' := hr (⟨o, 0, 0, 0, v, 0, none, 0, [], 0⟩ : InsD) ⟨⟨hv, z, z⟩, Nat.zero_le _⟩
          try dsimp only [List.cons_append, List.nil_append, List.append_nil] at hr'
          exact J.to hr' ⟨rfl, rfl, rfl, rfl, rfl, rfl, trivial⟩ tk
        refine s_seq ?_
        refine s_region ?_
        refine s_q (by (first | exact y_eql rfl rfl | exact y_eqlB rfl rfl rfl)) rfl ?_
        refine s_q (y_assign rfl) rfl ?_
        refine s_done ?_
        refine s_cond rfl (fun g4 => ?_) (fun g4 => ?_)
        · refine s_region ?_
          refine s_q (y_move rfl) rfl ?_
          refine s_q (by (first | exact y_fieldAddrB rfl rfl rfl rfl rfl rfl | exact y_fieldAddr rfl rfl rfl rfl rfl rfl)) rfl ?_
          first | (refine s_storeC rfl rfl rfl rfl (by rfl) ?_) | (refine s_store rfl rfl rfl rfl (by rfl) ?_)
          refine J.emp (B := Sl 3 1 none 0 0 (ints [])) (Sl.ofNil _ _) ?_
          refine s_done ?_
          refine s_endb ?_
          have hr' := hr (⟨o, 0, 0, 0, 0, v, none, 0, [], 0⟩ : InsD) ⟨⟨z, hv, z⟩, Nat.zero_le _⟩
          try dsimp only [List.cons_append, List.nil_append, List.append_nil] at hr'
          exact J.to hr' ⟨rfl, rfl, rfl, rfl, rfl, rfl, trivial⟩ tk
        refine s_seq ?_
        refine s_region ?_
        refine s_q (by (first | exact y_eql rfl rfl | exact y_eqlB rfl rfl rfl)) rfl ?_
        refine s_q (y_assign rfl) rfl ?_
        refine s_done ?_
        refine s_cond rfl (fun g5 => ?_) (fun g5 => ?_)
        · refine s_region ?_
          refine s_q (y_move rfl) rfl ?_
          refine s_q (by (first | exact y_fieldAddrB rfl rfl rfl rfl rfl rfl | exact y_fieldAddr rfl rfl rfl rfl rfl rfl)) rfl ?_
          first | (refine s_storeC rfl rfl rfl rfl (by rfl) ?_) | (refine s_store rfl rfl rfl rfl (by rfl) ?_)
          refine J.emp (B := Sl 3 1 none 0 0 (ints [])) (Sl.ofNil _ _) ?_
          refine s_done ?_
          refine s_endb ?_
          have hr' := hr (⟨o, 0, 0, 0, 0, 0, none, 0, [], v⟩ : InsD) ⟨⟨z, z, hv⟩, Nat.zero_le _⟩
          try dsimp only [List.cons_append, List.nil_append, List.append_nil] at hr'
          exact J.to hr' ⟨rfl, rfl, rfl, rfl, rfl, rfl, trivial⟩ tk
        refine s_seq ?_
        refine s_region ?_
        refine s_q (by (first | exact y_eql rfl rfl | exact y_eqlB rfl rfl rfl)) rfl ?_
        refine s_q (y_assign rfl) rfl ?_
        refine s_done ?_
        refine s_cond rfl (fun g6 => ?_) (fun g6 => ?_)
        · refine s_seq ?_
          refine s_region ?_
          refine s_q (y_move rfl) rfl ?_
          refine s_q (y_rem rfl rfl (by omega) (by omega)) rfl ?_
          refine s_mkslice (l := n % 3) (c := n % 3) rfl rfl (by omega) (by omega) rfl rfl rfl rfl rfl rfl rfl (by omega) (by omega) (fun bz => ?_)
          rw [zerosOf_ints]
          refine s_q (by (first | exact y_fieldAddrB rfl rfl rfl rfl rfl rfl | exact y_fieldAddr rfl rfl rfl rfl rfl rfl)) rfl ?_
          first | (refine s_storeC rfl rfl rfl rfl (by rfl) ?_) | (refine s_store rfl rfl rfl rfl (by rfl) ?_)
          refine s_done ?_
          refine s_region ?_
          refine s_q (y_move rfl) rfl ?_
          refine s_q (by (first | exact y_fieldAddrB rfl rfl rfl rfl rfl rfl | exact y_fieldAddr rfl rfl rfl rfl rfl rfl)) rfl ?_
          first | (refine s_storeC rfl rfl rfl rfl (by rfl) ?_) | (refine s_store rfl rfl rfl rfl (by rfl) ?_)
          refine s_done ?_
          refine s_endb ?_
          have e1 : (List.replicate (n % 3) (0 : Int)).length = n % 3 := List.length_replicate
          change J _ _ _ (cb b6 30 [.int .i64 o, .int .i64 0, .int .i64 0, .int .i64 0, .int .i64 v, .int .i64 0, .slice (some ⟨bz, 0, none⟩) (n % 3) (n % 3), .int .i64 0] :: Sl 3 1 (some ⟨bz, 0, none⟩) (n % 3) (n % 3) (ints (List.replicate (n % 3) 0)) :: _) _
          obtain ⟨xs, hxs⟩ : ∃ xs : List Int, List.replicate (n % 3) (0 : Int) = xs := ⟨_, rfl⟩
          rw [hxs] at e1 ⊢
          rw [← e1]
          have hr' := hr (⟨o, 0, 0, 0, v, 0, some ⟨bz, 0, none⟩, xs.length, xs, 0⟩ : InsD) ⟨⟨hv, z, z⟩, by dsimp only; omega⟩
          try dsimp only [List.cons_append, List.nil_append, List.append_nil] at hr'
          exact J.to hr' ⟨rfl, rfl, rfl, rfl, rfl, rfl, trivial⟩ tk
        refine s_seq ?_
        refine s_region ?_
        refine s_q (by (first | exact y_eql rfl rfl | exact y_eqlB rfl rfl rfl)) rfl ?_
        refine s_q (y_assign rfl) rfl ?_
        refine s_done ?_
        refine s_cond rfl (fun g7 => ?_) (fun g7 => ?_)
        · refine s_seq ?_
          refine s_region ?_
          refine s_q (by (first | exact y_fieldAddrB rfl rfl rfl rfl rfl rfl | exact y_fieldAddr rfl rfl rfl rfl rfl rfl)) rfl ?_
          first | (refine s_storeC rfl rfl rfl rfl (by rfl) ?_) | (refine s_store rfl rfl rfl rfl (by rfl) ?_)
          refine s_done ?_
          refine s_seq ?_
          refine s_region ?_
          refine s_q (by (first | exact y_fieldAddrB rfl rfl rfl rfl rfl rfl | exact y_fieldAddr rfl rfl rfl rfl rfl rfl)) rfl ?_
          first | (refine s_storeC rfl rfl rfl rfl (by rfl) ?_) | (refine s_store rfl rfl rfl rfl (by rfl) ?_)
          refine s_done ?_
          refine s_seq ?_
          refine s_region ?_
          refine s_q (by (first | exact y_fieldAddrB rfl rfl rfl rfl rfl rfl | exact y_fieldAddr rfl rfl rfl rfl rfl rfl)) rfl ?_
          first | (refine s_storeC rfl rfl rfl rfl (by rfl) ?_) | (refine s_store rfl rfl rfl rfl (by rfl) ?_)
          refine s_done ?_
          refine s_region ?_
          refine s_q (y_move rfl) rfl ?_
          refine s_q (by (first | exact y_fieldAddrB rfl rfl rfl rfl rfl rfl | exact y_fieldAddr rfl rfl rfl rfl rfl rfl)) rfl ?_
          first | (refine s_storeC rfl rfl rfl rfl (by rfl) ?_) | (refine s_store rfl rfl rfl rfl (by rfl) ?_)
          refine J.emp (B := Sl 3 1 none 0 0 (ints [])) (Sl.ofNil _ _) ?_
          refine s_done ?_
          refine s_endb ?_
          have hr' := hr (⟨o, 1, 2, 1, v, 0, none, 0, [], 0⟩ : InsD) ⟨⟨hv, z, z⟩, Nat.zero_le _⟩
          try dsimp only [List.cons_append, List.nil_append, List.append_nil] at hr'
          exact J.to hr' ⟨rfl, rfl, rfl, rfl, rfl, rfl, trivial⟩ tk
        refine s_skip ?_
        refine s_endb ?_
        refine J.emp (B := Sl 3 1 none 0 0 (ints [])) (Sl.ofNil _ _) ?_
        have hr' := hr (⟨o, 0, 0, 0, 0, 0, none, 0, [], 0⟩ : InsD) ⟨⟨z, z, z⟩, Nat.zero_le _⟩
        try dsimp only [List.cons_append, List.nil_append, List.append_nil] at hr'
        exact J.to hr' ⟨rfl, rfl, rfl, rfl, rfl, rfl, trivial⟩ tk
      rintro i ⟨hok, hxs⟩
      dsimp only [List.cons_append, List.nil_append] at hok hxs ⊢
      clear hv hvv v
      refine s_seq ?_
      refine d_start ?_
      refine d_take 0 rfl (by kernel_rfl) (by exact y_move rfl) rfl ?_
      refine d_take 1 rfl (by kernel_rfl) (by (first | exact y_rem rfl rfl (by omega) (by omega) | exact y_remw rfl rfl (by omega))) rfl ?_
      refine d_take 2 rfl (by kernel_rfl) (by exact y_move rfl) rfl ?_
      refine d_take 3 rfl (by kernel_rfl) (by exact y_move rfl) rfl ?_
      refine d_take 4 rfl (by kernel_rfl) (by (first | exact y_rem rfl rfl (by omega) (by omega) | exact y_remw rfl rfl (by omega))) rfl ?_
      refine d_take 5 rfl (by kernel_rfl) (by (first | exact y_ixS (xs := endsL) rfl rfl rfl rfl rfl (fun w hw => hw.cbRdI (by repeat (first | exact List.mem_cons_self | refine List.mem_cons_of_mem _ ?_))) rfl (by omega) (by omega) | exact y_ixI rfl rfl rfl rfl rfl (by assumption) rfl (by omega) (by omega))) rfl ?_
      refine d_take 6 rfl (by kernel_rfl) (by (first | exact y_ldSq (xs := endsL) rfl rfl rfl rfl (fun w hw => hw.cbRdI (by repeat (first | exact List.mem_cons_self | refine List.mem_cons_of_mem _ ?_))) (by omega) (by omega) | exact y_ld rfl rfl rfl (by rfl) | exact y_ldN rfl rfl rfl (by rfl) | exact y_ldK rfl rfl rfl rfl (by assumption) (by omega) | exact y_ldI rfl rfl rfl rfl (by assumption) (by omega) (by omega))) rfl ?_
      refine d_take 7 rfl (by kernel_rfl) (by exact y_move rfl) rfl ?_
      refine d_take 8 rfl (by kernel_rfl) (by exact y_move rfl) rfl ?_
      refine d_take 9 rfl (by kernel_rfl) (by exact y_quo rfl rfl (by omega) (by omega) (by omega)) rfl ?_
      refine d_take 10 rfl (by kernel_rfl) (by (first | exact y_rem rfl rfl (by omega) (by omega) | exact y_remw rfl rfl (by omega))) rfl ?_
      refine d_take 11 rfl (by kernel_rfl) (by (first | exact y_ixS (xs := endsL) rfl rfl rfl rfl rfl (fun w hw => hw.cbRdI (by repeat (first | exact List.mem_cons_self | refine List.mem_cons_of_mem _ ?_))) rfl (by omega) (by omega) | exact y_ixI rfl rfl rfl rfl rfl (by assumption) rfl (by omega) (by omega))) rfl ?_
      refine d_take 12 rfl (by kernel_rfl) (by (first | exact y_ldSq (xs := endsL) rfl rfl rfl rfl (fun w hw => hw.cbRdI (by repeat (first | exact List.mem_cons_self | refine List.mem_cons_of_mem _ ?_))) (by omega) (by omega) | exact y_ld rfl rfl rfl (by rfl) | exact y_ldN rfl rfl rfl (by rfl) | exact y_ldK rfl rfl rfl rfl (by assumption) (by omega) | exact y_ldI rfl rfl rfl rfl (by assumption) (by omega) (by omega))) rfl ?_
      refine d_take 13 rfl (by kernel_rfl) (by exact y_move rfl) rfl ?_
      refine d_take 14 rfl (by kernel_rfl) (by exact y_move rfl) rfl ?_
      refine d_take 15 rfl (by kernel_rfl) (by exact y_quo rfl rfl (by omega) (by omega) (by omega)) rfl ?_
      refine d_take 16 rfl (by kernel_rfl) (by (first | exact y_rem rfl rfl (by omega) (by omega) | exact y_remw rfl rfl (by omega))) rfl ?_
      refine d_take 17 rfl (by kernel_rfl) (by (first | exact y_ixS (xs := endsL) rfl rfl rfl rfl rfl (fun w hw => hw.cbRdI (by repeat (first | exact List.mem_cons_self | refine List.mem_cons_of_mem _ ?_))) rfl (by omega) (by omega) | exact y_ixI rfl rfl rfl rfl rfl (by assumption) rfl (by omega) (by omega))) rfl ?_
      refine d_take 18 rfl (by kernel_rfl) (by (first | exact y_ldSq (xs := endsL) rfl rfl rfl rfl (fun w hw => hw.cbRdI (by repeat (first | exact List.mem_cons_self | refine List.mem_cons_of_mem _ ?_))) (by omega) (by omega) | exact y_ld rfl rfl rfl (by rfl) | exact y_ldN rfl rfl rfl (by rfl) | exact y_ldK rfl rfl rfl rfl (by assumption) (by omega) | exact y_ldI rfl rfl rfl rfl (by assumption) (by omega) (by omega))) rfl ?_
      refine d_take 19 rfl (by kernel_rfl) (by (first | exact y_buildA rfl rfl rfl rfl | exact y_build rfl rfl rfl rfl)) rfl ?_
      refine d_take 20 rfl (by kernel_rfl) (by (first | exact y_buildA rfl rfl rfl rfl | exact y_build rfl rfl rfl rfl)) rfl ?_
      refine d_effM 21 [20, 19, 18, 17, 16, 15, 14, 13, 12, 11, 10, 9, 8, 7, 6, 5, 4, 3, 2, 1, 0] [true, true, true, true, true, true, true, true, true, true, true, true, true, true, true, true, true, true, true, true, true] rfl (by kernel_rfl) rfl (by kernel_rfl) (fun K hK => ?_)
      refine s_alloc rfl rfl (fun b8 => ?_)
      refine s_done ?_
      refine hK _ _ (by refine rm_yd rfl (by (first | exact y_buildA rfl rfl rfl rfl | exact y_build rfl rfl rfl rfl)) ?_; refine rm_yd rfl (by (first | exact y_buildA rfl rfl rfl rfl | exact y_build rfl rfl rfl rfl)) ?_; refine rm_yd rfl (by (first | exact y_ldSq (xs := endsL) rfl rfl rfl rfl (fun w hw => hw.cbRdI (by repeat (first | exact List.mem_cons_self | refine List.mem_cons_of_mem _ ?_))) (by omega) (by omega) | exact y_ld rfl rfl rfl (by rfl) | exact y_ldN rfl rfl rfl (by rfl) | exact y_ldK rfl rfl rfl rfl (by assumption) (by omega) | exact y_ldI rfl rfl rfl rfl (by assumption) (by omega) (by omega))) ?_; refine rm_yd rfl (by (first | exact y_ixS (xs := endsL) rfl rfl rfl rfl rfl (fun w hw => hw.cbRdI (by repeat (first | exact List.mem_cons_self | refine List.mem_cons_of_mem _ ?_))) rfl (by omega) (by omega) | exact y_ixI rfl rfl rfl rfl rfl (by assumption) rfl (by omega) (by omega))) ?_; refine rm_yd rfl (by (first | exact y_rem rfl rfl (by omega) (by omega) | exact y_remw rfl rfl (by omega))) ?_; refine rm_yd rfl (by exact y_quo rfl rfl (by omega) (by omega) (by omega)) ?_; refine rm_yd rfl (by exact y_move rfl) ?_; refine rm_yd rfl (by exact y_move rfl) ?_; refine rm_yd rfl (by (first | exact y_ldSq (xs := endsL) rfl rfl rfl rfl (fun w hw => hw.cbRdI (by repeat (first | exact List.mem_cons_self | refine List.mem_cons_of_mem _ ?_))) (by omega) (by omega) | exact y_ld rfl rfl rfl (by rfl) | exact y_ldN rfl rfl rfl (by rfl) | exact y_ldK rfl rfl rfl rfl (by assumption) (by omega) | exact y_ldI rfl rfl rfl rfl (by assumption) (by omega) (by omega))) ?_; refine rm_yd rfl (by (first | exact y_ixS (xs := endsL) rfl rfl rfl rfl rfl (fun w hw => hw.cbRdI (by repeat (first | exact List.mem_cons_self | refine List.mem_cons_of_mem _ ?_))) rfl (by omega) (by omega) | exact y_ixI rfl rfl rfl rfl rfl (by assumption) rfl (by omega) (by omega))) ?_; refine rm_yd rfl (by (first | exact y_rem rfl rfl (by omega) (by omega) | exact y_remw rfl rfl (by omega))) ?_; refine rm_yd rfl (by exact y_quo rfl rfl (by omega) (by omega) (by omega)) ?_; refine rm_yd rfl (by exact y_move rfl) ?_; refine rm_yd rfl (by exact y_move rfl) ?_; refine rm_yd rfl (by (first | exact y_ldSq (xs := endsL) rfl rfl rfl rfl (fun w hw => hw.cbRdI (by repeat (first | exact List.mem_cons_self | refine List.mem_cons_of_mem _ ?_))) (by omega) (by omega) | exact y_ld rfl rfl rfl (by rfl) | exact y_ldN rfl rfl rfl (by rfl) | exact y_ldK rfl rfl rfl rfl (by assumption) (by omega) | exact y_ldI rfl rfl rfl rfl (by assumption) (by omega) (by omega))) ?_; refine rm_yd rfl (by (first | exact y_ixS (xs := endsL) rfl rfl rfl rfl rfl (fun w hw => hw.cbRdI (by repeat (first | exact List.mem_cons_self | refine List.mem_cons_of_mem _ ?_))) rfl (by omega) (by omega) | exact y_ixI rfl rfl rfl rfl rfl (by assumption) rfl (by omega) (by omega))) ?_; refine rm_yd rfl (by (first | exact y_rem rfl rfl (by omega) (by omega) | exact y_remw rfl rfl (by omega))) ?_; refine rm_yd rfl (by exact y_move rfl) ?_; refine rm_yd rfl (by exact y_move rfl) ?_; refine rm_yd rfl (by (first | exact y_rem rfl rfl (by omega) (by omega) | exact y_remw rfl rfl (by omega))) ?_; refine rm_yd rfl (by exact y_move rfl) ?_; exact rm_nil) ?_
      clear hK K
      refine d_effM 22 [20, 19, 18, 17, 16, 15, 14, 13, 12, 11, 10, 9, 8, 7, 6, 5, 4, 3, 2, 1, 0] [false, false, false, false, false, false, false, false, false, false, false, false, false, false, false, false, false, false, false, false, false] rfl (by kernel_rfl) rfl (by kernel_rfl) (fun K hK => ?_)
      first | (refine s_storeW rfl rfl rfl rfl rfl (by rfl) ?_) | (refine s_storeN rfl rfl rfl rfl rfl (by rfl) ?_)
      refine s_done ?_
      refine hK _ _ (by refine rm_skip ?_; refine rm_skip ?_; refine rm_skip ?_; refine rm_skip ?_; refine rm_skip ?_; refine rm_skip ?_; refine rm_skip ?_; refine rm_skip ?_; refine rm_skip ?_; refine rm_skip ?_; refine rm_skip ?_; refine rm_skip ?_; refine rm_skip ?_; refine rm_skip ?_; refine rm_skip ?_; refine rm_skip ?_; refine rm_skip ?_; refine rm_skip ?_; refine rm_skip ?_; refine rm_skip ?_; refine rm_skip ?_; exact rm_nil) ?_
      clear hK K
      refine d_done (by kernel_rfl) ?_
      obtain ⟨k1, hk1⟩ : ∃ k1, o.tmod 6 = k1 := ⟨_, rfl⟩
      obtain ⟨a1, ha1⟩ : ∃ a1, endsL.getD ((n : Int) % 5).toNat 0 = a1 := ⟨_, rfl⟩
      obtain ⟨u1, hu1⟩ : ∃ u1, endsL.getD ((n : Int) / 5 % 5).toNat 0 = u1 := ⟨_, rfl⟩
      obtain ⟨u2, hu2⟩ : ∃ u2, endsL.getD ((n : Int) / 25 % 4).toNat 0 = u2 := ⟨_, rfl⟩
      rw [hk1, ha1, hu1, hu2]
      change J _ _ _ (cb b8 40 [.int .i64 k1, .int .i64 a1, .int .i64 u1, .int .i64 u2] :: _) _
      refine s_seq ?_
      refine s_region ?_
      refine s_q (y_move rfl) rfl ?_
      refine s_q (by (first | exact y_rem rfl rfl (by omega) (by omega) | exact y_remw rfl rfl (by omega))) rfl ?_
      refine s_q (y_move rfl) rfl ?_
      refine s_q (by (first | exact y_rem rfl rfl (by omega) (by omega) | exact y_remw rfl rfl (by omega))) rfl ?_
      refine s_q (y_sub rfl rfl (by omega)) rfl ?_
      refine s_q (y_build rfl rfl rfl rfl) rfl ?_
      refine s_alloc rfl rfl (fun b9 => ?_)
      first | (refine s_storeW rfl rfl rfl rfl rfl (by rfl) ?_) | (refine s_storeN rfl rfl rfl rfl rfl (by rfl) ?_)
      rw [hk1]
      change J _ _ _ (cb b9 40 [.int .i64 k1, .int .i64 ((n : Int) % 4 - 1), .int .i64 0, .int .i64 0] :: _) _
      obtain ⟨a2, ha2⟩ : ∃ a2, (n : Int) % 4 - 1 = a2 := ⟨_, rfl⟩
      rw [ha2]
      refine s_done ?_
      refine s_seq ?_
      refine s_region ?_
      refine s_q (by (first | exact y_ldN rfl rfl rfl (by rfl) | exact y_ld rfl rfl rfl (by rfl) | exact y_ldN rfl rfl rfl (by rfl) | exact y_ldK rfl rfl rfl rfl (by assumption) (by omega) | exact y_ldI rfl rfl rfl rfl (by assumption) (by omega) (by omega))) rfl ?_
      refine s_bslice rfl rfl rfl rfl rfl rfl rfl rfl (fun n1 => ?_)
      change J _ _ _ (cb n1 30 ([i].flatMap encIns) :: _) _
      refine s_q (by (first | exact y_ldN rfl rfl rfl (by rfl) | exact y_ld rfl rfl rfl (by rfl) | exact y_ldN rfl rfl rfl (by rfl) | exact y_ldK rfl rfl rfl rfl (by assumption) (by omega) | exact y_ldI rfl rfl rfl rfl (by assumption) (by omega) (by omega))) rfl ?_
      refine s_q (y_build rfl rfl rfl rfl) rfl ?_
      refine s_q (by (first | exact y_ldN rfl rfl rfl (by rfl) | exact y_ld rfl rfl rfl (by rfl) | exact y_ldN rfl rfl rfl (by rfl) | exact y_ldK rfl rfl rfl rfl (by assumption) (by omega) | exact y_ldI rfl rfl rfl rfl (by assumption) (by omega) (by omega))) rfl ?_
      refine s_q (y_build rfl rfl rfl rfl) rfl ?_
      refine s_bslice rfl rfl rfl rfl rfl rfl rfl rfl (fun n2 => ?_)
      change J _ _ _ (cb n2 42 ([(⟨some ⟨n1, 0, none⟩, 1, [i], k1, a1, u1, u2⟩ : BlkD), trapB].flatMap encBlk) :: _) _
      refine s_q (y_build rfl rfl rfl rfl) rfl ?_
      refine s_alloc rfl rfl (fun b10 => ?_)
      first | (refine s_storeW rfl rfl rfl rfl rfl (by rfl) ?_) | (refine s_storeN rfl rfl rfl rfl rfl (by rfl) ?_)
      change J _ _ _ (cb b10 27 [.int .i64 400, .slice (some ⟨n2, 0, none⟩) 2 2] :: _) _
      refine s_done ?_
      refine s_seq ?_
      refine s_region ?_
      refine s_q (y_move rfl) rfl ?_
      refine s_q (y_rem rfl rfl (by omega) (by omega)) rfl ?_
      refine s_q (by (first | exact y_ldN rfl rfl rfl (by rfl) | exact y_ld rfl rfl rfl (by rfl) | exact y_ldN rfl rfl rfl (by rfl) | exact y_ldK rfl rfl rfl rfl (by assumption) (by omega) | exact y_ldI rfl rfl rfl rfl (by assumption) (by omega) (by omega))) rfl ?_
      refine s_q (y_build rfl rfl rfl rfl) rfl ?_
      refine s_q (y_build rfl rfl rfl rfl) rfl ?_
      refine s_q (by (first | exact y_ldN rfl rfl rfl (by rfl) | exact y_ld rfl rfl rfl (by rfl) | exact y_ldN rfl rfl rfl (by rfl) | exact y_ldK rfl rfl rfl rfl (by assumption) (by omega) | exact y_ldI rfl rfl rfl rfl (by assumption) (by omega) (by omega))) rfl ?_
      refine s_bslice rfl rfl rfl rfl rfl rfl rfl rfl (fun n3 => ?_)
      change J _ _ _ (cb n3 30 ([iC, i].flatMap encIns) :: _) _
      refine s_q (by (first | exact y_ldN rfl rfl rfl (by rfl) | exact y_ld rfl rfl rfl (by rfl) | exact y_ldN rfl rfl rfl (by rfl) | exact y_ldK rfl rfl rfl rfl (by assumption) (by omega) | exact y_ldI rfl rfl rfl rfl (by assumption) (by omega) (by omega))) rfl ?_
      refine s_q (y_build rfl rfl rfl rfl) rfl ?_
      refine s_bslice rfl rfl rfl rfl rfl rfl rfl rfl (fun n4 => ?_)
      change J _ _ _ (cb n4 42 ([(⟨none, 0, [], k1, a2, 0, 0⟩ : BlkD), ⟨some ⟨n3, 0, none⟩, 2, [iC, i], 4, 0, 0, 0⟩].flatMap encBlk) :: _) _
      refine s_q (y_build rfl rfl rfl rfl) rfl ?_
      refine s_alloc rfl rfl (fun b11 => ?_)
      first | (refine s_storeW rfl rfl rfl rfl rfl (by rfl) ?_) | (refine s_storeN rfl rfl rfl rfl rfl (by rfl) ?_)
      change J _ _ _ (cb b11 27 [.int .i64 ((n : Int) % 5), .slice (some ⟨n4, 0, none⟩) 2 2] :: _) _
      have tA : TOK [(⟨some ⟨n1, 0, none⟩, 1, [i], k1, a1, u1, u2⟩ : BlkD), trapB] := tok2 (okB1 _ _ _ _ hok hxs) (okB0 _ _ _ _)
      have tB : TOK [(⟨none, 0, [], k1, a2, 0, 0⟩ : BlkD), ⟨some ⟨n3, 0, none⟩, 2, [iC, i], 4, 0, 0, 0⟩] := tok2 (okB0 _ _ _ _) (okB2 _ _ _ _ okC0 (Nat.zero_le _) hok hxs)
      have tC : ∀ (y : Nat), TOK [(⟨some ⟨y, 0, none⟩, 1, [i], 4, 0, 0, 0⟩ : BlkD)] := fun y => tok1 (okB1 _ _ _ _ hok hxs)
      have f5 : i64 ((n : Int) % 5) := by unfold i64; omega
      refine s_done ?_
      refine s_seq ?_
      refine s_joinV (σ := Unit) (fun s => [(163, .bool false)]) [] (fun s => []) (fun s => True) [(1, _), (2, _), (3, _), (4, _), (5, _)] ⟨rfl, rfl, rfl, rfl, rfl, trivial⟩ tk (fun k' hr => ?_) ?_
      · skip
        refine d_start ?_
        refine d_take 0 rfl (by kernel_rfl) (by (first | exact y_ldN rfl rfl rfl (by rfl) | exact y_ld rfl rfl rfl (by rfl) | exact y_ldN rfl rfl rfl (by rfl) | exact y_ldK rfl rfl rfl rfl (by assumption) (by omega) | exact y_ldI rfl rfl rfl rfl (by assumption) (by omega) (by omega))) rfl ?_
        refine d_take 1 rfl (by kernel_rfl) (by (first | exact y_ldN rfl rfl rfl (by rfl) | exact y_ld rfl rfl rfl (by rfl) | exact y_ldN rfl rfl rfl (by rfl) | exact y_ldK rfl rfl rfl rfl (by assumption) (by omega) | exact y_ldI rfl rfl rfl rfl (by assumption) (by omega) (by omega))) rfl ?_
        refine d_take 2 rfl (by kernel_rfl) (by (first | exact y_ldN rfl rfl rfl (by rfl) | exact y_ld rfl rfl rfl (by rfl) | exact y_ldN rfl rfl rfl (by rfl) | exact y_ldK rfl rfl rfl rfl (by assumption) (by omega) | exact y_ldI rfl rfl rfl rfl (by assumption) (by omega) (by omega))) rfl ?_
        refine d_effM 3 [2, 1, 0] [false, false, false] rfl (by kernel_rfl) rfl (by kernel_rfl) (fun K hK => ?_)
        refine s_call (pre := []) (rem := _) rfl rfl tk (fun w N ho hl => MirParts_spec w N m3 (some ⟨ya, 0, none⟩) (some ⟨yb, 0, none⟩) 2 1 i k1 a1 u1 u2 ho (kiOfC hl (by repeat (first | exact List.mem_cons_self | refine List.mem_cons_of_mem _ ?_))) (by decide) (by decide) (by decide) (by omega)) rfl ?_
        rintro e L' ⟨rfl, rfl⟩
        try simp only [List.nil_append, List.cons_append, List.append_nil]
        refine s_done ?_
        refine hK _ _ (by refine rm_skip ?_; refine rm_skip ?_; refine rm_skip ?_; exact rm_nil) ?_
        clear hK K
        refine d_take 4 rfl (by kernel_rfl) (by (first | exact y_notT rfl | exact y_notF rfl | exact y_notp rfl | exact y_notb rfl)) rfl ?_
        refine d_take 5 rfl (by kernel_rfl) (by exact y_move rfl) rfl ?_
        refine d_takeG 6 rfl (by kernel_rfl) rfl rfl (by (first | exact y_ldN rfl rfl rfl (by rfl) | exact y_ld rfl rfl rfl (by rfl) | exact y_ldN rfl rfl rfl (by rfl) | exact y_ldK rfl rfl rfl rfl (by assumption) (by omega) | exact y_ldI rfl rfl rfl rfl (by assumption) (by omega) (by omega))) rfl ?_
        refine d_takeG 7 rfl (by kernel_rfl) rfl rfl (by (first | exact y_ldN rfl rfl rfl (by rfl) | exact y_ld rfl rfl rfl (by rfl) | exact y_ldN rfl rfl rfl (by rfl) | exact y_ldK rfl rfl rfl rfl (by assumption) (by omega) | exact y_ldI rfl rfl rfl rfl (by assumption) (by omega) (by omega))) rfl ?_
        refine d_takeG 8 rfl (by kernel_rfl) rfl rfl (by (first | exact y_ldN rfl rfl rfl (by rfl) | exact y_ld rfl rfl rfl (by rfl) | exact y_ldN rfl rfl rfl (by rfl) | exact y_ldK rfl rfl rfl rfl (by assumption) (by omega) | exact y_ldI rfl rfl rfl rfl (by assumption) (by omega) (by omega))) rfl ?_
        refine d_effM 9 [8, 7, 6, 5, 4] [false, false, false, false, true] rfl (by kernel_rfl) rfl (by kernel_rfl) (fun K hK => ?_)
        refine s_guard rfl rfl ?_
        refine s_call (pre := []) (rem := _) rfl rfl tk (fun w N ho hl => MirParts_spec w N m3 (some ⟨ya, 0, none⟩) (some ⟨yb, 0, none⟩) 2 1 i k1 a2 0 0 ho (kiOfC hl (by repeat (first | exact List.mem_cons_self | refine List.mem_cons_of_mem _ ?_))) (by decide) (by decide) (by decide) (by omega)) rfl ?_
        rintro e L' ⟨rfl, rfl⟩
        try simp only [List.nil_append, List.cons_append, List.append_nil]
        refine s_done ?_
        refine hK _ _ (by refine rm_skip ?_; refine rm_skip ?_; refine rm_skip ?_; refine rm_skip ?_; refine rm_yd rfl (by (first | exact y_notT rfl | exact y_notF rfl | exact y_notp rfl | exact y_notb rfl)) ?_; exact rm_nil) ?_
        clear hK K
        refine d_takeG 10 rfl (by kernel_rfl) rfl rfl (by (first | exact y_notT rfl | exact y_notF rfl | exact y_notp rfl | exact y_notb rfl)) rfl ?_
        refine d_take 11 rfl (by kernel_rfl) (by (first | exact y_pickT rfl rfl | exact y_pickF rfl rfl)) rfl ?_
        refine d_take 12 rfl (by kernel_rfl) (by exact y_move rfl) rfl ?_
        refine d_takeG 13 rfl (by kernel_rfl) rfl rfl (by (first | exact y_ldN rfl rfl rfl (by rfl) | exact y_ld rfl rfl rfl (by rfl) | exact y_ldN rfl rfl rfl (by rfl) | exact y_ldK rfl rfl rfl rfl (by assumption) (by omega) | exact y_ldI rfl rfl rfl rfl (by assumption) (by omega) (by omega))) rfl ?_
        refine d_takeG 14 rfl (by kernel_rfl) rfl rfl (by (first | exact y_ldN rfl rfl rfl (by rfl) | exact y_ld rfl rfl rfl (by rfl) | exact y_ldN rfl rfl rfl (by rfl) | exact y_ldK rfl rfl rfl rfl (by assumption) (by omega) | exact y_ldI rfl rfl rfl rfl (by assumption) (by omega) (by omega))) rfl ?_
        refine d_effM 15 [14, 13, 12, 11, 10, 4] [false, false, false, true, true, true] rfl (by kernel_rfl) rfl (by kernel_rfl) (fun K hK => ?_)
        refine s_guard rfl rfl ?_
        refine s_call (pre := []) (rem := _) rfl rfl tk (fun w N ho hl => MirTells_spec w N m3 (some ⟨ya, 0, none⟩) (some ⟨yb, 0, none⟩) (some ⟨n2, 0, none⟩) 2 1 2 400 [(⟨some ⟨n1, 0, none⟩, 1, [i], k1, a1, u1, u2⟩ : BlkD), trapB] ho (kiOfC hl (by repeat (first | exact List.mem_cons_self | refine List.mem_cons_of_mem _ ?_))) (kiOfC hl (by repeat (first | exact List.mem_cons_self | refine List.mem_cons_of_mem _ ?_))) (by decide) (by decide) (by decide) (kb2 (keOfC (fun _ => rfl) hl (by repeat (first | exact List.mem_cons_self | refine List.mem_cons_of_mem _ ?_))) (keOfC (fun _ => rfl) hl (by repeat (first | exact List.mem_cons_self | refine List.mem_cons_of_mem _ ?_))) (oneM (KI.ofS hl (by repeat (first | exact List.mem_cons_self | refine List.mem_cons_of_mem _ ?_)))) nilE nilM) tA (by unfold i64; decide)) rfl ?_
        rintro e L' ⟨rfl, rfl⟩
        try simp only [List.nil_append, List.cons_append, List.append_nil]
        refine s_done ?_
        refine hK _ _ (by refine rm_skip ?_; refine rm_skip ?_; refine rm_skip ?_; refine rm_yd rfl (by (first | exact y_pickT rfl rfl | exact y_pickF rfl rfl)) ?_; refine rm_yd rfl (by (first | exact y_notT rfl | exact y_notF rfl | exact y_notp rfl | exact y_notb rfl)) ?_; refine rm_yd rfl (by (first | exact y_notT rfl | exact y_notF rfl | exact y_notp rfl | exact y_notb rfl)) ?_; exact rm_nil) ?_
        clear hK K
        refine d_takeG 16 rfl (by kernel_rfl) rfl rfl (by (first | exact y_notT rfl | exact y_notF rfl | exact y_notp rfl | exact y_notb rfl)) rfl ?_
        refine d_take 17 rfl (by kernel_rfl) (by (first | exact y_pickT rfl rfl | exact y_pickF rfl rfl)) rfl ?_
        refine d_take 18 rfl (by kernel_rfl) (by exact y_move rfl) rfl ?_
        refine d_takeG 19 rfl (by kernel_rfl) rfl rfl (by (first | exact y_ldN rfl rfl rfl (by rfl) | exact y_ld rfl rfl rfl (by rfl) | exact y_ldN rfl rfl rfl (by rfl) | exact y_ldK rfl rfl rfl rfl (by assumption) (by omega) | exact y_ldI rfl rfl rfl rfl (by assumption) (by omega) (by omega))) rfl ?_
        refine d_takeG 20 rfl (by kernel_rfl) rfl rfl (by (first | exact y_ldN rfl rfl rfl (by rfl) | exact y_ld rfl rfl rfl (by rfl) | exact y_ldN rfl rfl rfl (by rfl) | exact y_ldK rfl rfl rfl rfl (by assumption) (by omega) | exact y_ldI rfl rfl rfl rfl (by assumption) (by omega) (by omega))) rfl ?_
        refine d_effM 21 [20, 19, 18, 17, 16, 11, 10, 4] [false, false, false, true, true, true, true, true] rfl (by kernel_rfl) rfl (by kernel_rfl) (fun K hK => ?_)
        refine s_guard rfl rfl ?_
        refine s_call (pre := []) (rem := _) rfl rfl tk (fun w N ho hl => MirTells_spec w N m3 (some ⟨ya, 0, none⟩) (some ⟨yb, 0, none⟩) (some ⟨n4, 0, none⟩) 2 1 2 ((n : Int) % 5) [(⟨none, 0, [], k1, a2, 0, 0⟩ : BlkD), ⟨some ⟨n3, 0, none⟩, 2, [iC, i], 4, 0, 0, 0⟩] ho (kiOfC hl (by repeat (first | exact List.mem_cons_self | refine List.mem_cons_of_mem _ ?_))) (kiOfC hl (by repeat (first | exact List.mem_cons_self | refine List.mem_cons_of_mem _ ?_))) (by decide) (by decide) (by decide) (kb2 (keOfC (fun _ => rfl) hl (by repeat (first | exact List.mem_cons_self | refine List.mem_cons_of_mem _ ?_))) nilE nilM (keOfC (fun _ => rfl) hl (by repeat (first | exact List.mem_cons_self | refine List.mem_cons_of_mem _ ?_))) (twoM nilI (KI.ofS hl (by repeat (first | exact List.mem_cons_self | refine List.mem_cons_of_mem _ ?_))))) tB f5) rfl ?_
        rintro e L' ⟨rfl, rfl⟩
        try simp only [List.nil_append, List.cons_append, List.append_nil]
        refine s_done ?_
        refine hK _ _ (by refine rm_skip ?_; refine rm_skip ?_; refine rm_skip ?_; refine rm_yd rfl (by (first | exact y_pickT rfl rfl | exact y_pickF rfl rfl)) ?_; refine rm_yd rfl (by (first | exact y_notT rfl | exact y_notF rfl | exact y_notp rfl | exact y_notb rfl)) ?_; refine rm_yd rfl (by (first | exact y_pickT rfl rfl | exact y_pickF rfl rfl)) ?_; refine rm_yd rfl (by (first | exact y_notT rfl | exact y_notF rfl | exact y_notp rfl | exact y_notb rfl)) ?_; refine rm_yd rfl (by (first | exact y_notT rfl | exact y_notF rfl | exact y_notp rfl | exact y_notb rfl)) ?_; exact rm_nil) ?_
        clear hK K
        refine d_takeG 22 rfl (by kernel_rfl) rfl rfl (by (first | exact y_notT rfl | exact y_notF rfl | exact y_notp rfl | exact y_notb rfl)) rfl ?_
        refine d_take 23 rfl (by kernel_rfl) (by (first | exact y_pickT rfl rfl | exact y_pickF rfl rfl)) rfl ?_
        refine d_take 24 rfl (by kernel_rfl) (by exact y_move rfl) rfl ?_
        refine d_takeG 26 rfl (by kernel_rfl) rfl rfl (by (first | exact y_ldN rfl rfl rfl (by rfl) | exact y_ld rfl rfl rfl (by rfl) | exact y_ldN rfl rfl rfl (by rfl) | exact y_ldK rfl rfl rfl rfl (by assumption) (by omega) | exact y_ldI rfl rfl rfl rfl (by assumption) (by omega) (by omega))) rfl ?_
        refine d_takeG 28 rfl (by kernel_rfl) rfl rfl (by (first | exact y_ldN rfl rfl rfl (by rfl) | exact y_ld rfl rfl rfl (by rfl) | exact y_ldN rfl rfl rfl (by rfl) | exact y_ldK rfl rfl rfl rfl (by assumption) (by omega) | exact y_ldI rfl rfl rfl rfl (by assumption) (by omega) (by omega))) rfl ?_
        refine d_effs [25, 27] (by kernel_rfl) rfl (all2 ?_ ?_)
        · refine ⟨_, rfl, [28, 26, 24, 23, 22, 17, 16, 11, 10, 4], [true, true, false, true, true, true, true, true, true, true], rfl, (by kernel_rfl), fun K hK => ?_⟩
          refine s_guard rfl rfl ?_
          refine s_call (pre := []) (rem := _) rfl rfl tk (fun w N ho hl => two_spec w N ho) rfl ?_
          rintro e L' ⟨x2, rfl, rfl⟩
          try simp only [List.nil_append, List.cons_append, List.append_nil]
          refine s_done ?_
          refine hK _ _ (by refine rm_yd rfl (by (first | exact y_ldN rfl rfl rfl (by rfl) | exact y_ld rfl rfl rfl (by rfl) | exact y_ldN rfl rfl rfl (by rfl) | exact y_ldK rfl rfl rfl rfl (by assumption) (by omega) | exact y_ldI rfl rfl rfl rfl (by assumption) (by omega) (by omega))) ?_; refine rm_yd rfl (by (first | exact y_ldN rfl rfl rfl (by rfl) | exact y_ld rfl rfl rfl (by rfl) | exact y_ldN rfl rfl rfl (by rfl) | exact y_ldK rfl rfl rfl rfl (by assumption) (by omega) | exact y_ldI rfl rfl rfl rfl (by assumption) (by omega) (by omega))) ?_; refine rm_skip ?_; refine rm_yd rfl (by (first | exact y_pickT rfl rfl | exact y_pickF rfl rfl)) ?_; refine rm_yd rfl (by (first | exact y_notT rfl | exact y_notF rfl | exact y_notp rfl | exact y_notb rfl)) ?_; refine rm_yd rfl (by (first | exact y_pickT rfl rfl | exact y_pickF rfl rfl)) ?_; refine rm_yd rfl (by (first | exact y_notT rfl | exact y_notF rfl | exact y_notp rfl | exact y_notb rfl)) ?_; refine rm_yd rfl (by (first | exact y_pickT rfl rfl | exact y_pickF rfl rfl)) ?_; refine rm_yd rfl (by (first | exact y_notT rfl | exact y_notF rfl | exact y_notp rfl | exact y_notb rfl)) ?_; refine rm_yd rfl (by (first | exact y_notT rfl | exact y_notF rfl | exact y_notp rfl | exact y_notb rfl)) ?_; exact rm_nil) ?_
          clear hK K
          refine d_effM 27 [28, 26, 23, 22, 17, 16, 11, 10, 4] [true, false, true, true, true, true, true, true, true] rfl (by kernel_rfl) rfl (by kernel_rfl) (fun K hK => ?_)
          refine s_guard rfl rfl ?_
          refine s_bslice rfl rfl rfl rfl rfl rfl rfl rfl (fun y1 => ?_); change J _ _ _ (cb y1 30 ([i].flatMap encIns) :: _) _
          refine s_done ?_
          refine hK _ _ (by refine rm_yd rfl (by (first | exact y_ldN rfl rfl rfl (by rfl) | exact y_ld rfl rfl rfl (by rfl) | exact y_ldN rfl rfl rfl (by rfl) | exact y_ldK rfl rfl rfl rfl (by assumption) (by omega) | exact y_ldI rfl rfl rfl rfl (by assumption) (by omega) (by omega))) ?_; refine rm_skip ?_; refine rm_yd rfl (by (first | exact y_pickT rfl rfl | exact y_pickF rfl rfl)) ?_; refine rm_yd rfl (by (first | exact y_notT rfl | exact y_notF rfl | exact y_notp rfl | exact y_notb rfl)) ?_; refine rm_yd rfl (by (first | exact y_pickT rfl rfl | exact y_pickF rfl rfl)) ?_; refine rm_yd rfl (by (first | exact y_notT rfl | exact y_notF rfl | exact y_notp rfl | exact y_notb rfl)) ?_; refine rm_yd rfl (by (first | exact y_pickT rfl rfl | exact y_pickF rfl rfl)) ?_; refine rm_yd rfl (by (first | exact y_notT rfl | exact y_notF rfl | exact y_notp rfl | exact y_notb rfl)) ?_; refine rm_yd rfl (by (first | exact y_notT rfl | exact y_notF rfl | exact y_notp rfl | exact y_notb rfl)) ?_; exact rm_nil) ?_
          clear hK K
          refine d_takeG 29 rfl (by kernel_rfl) rfl rfl (by exact y_build rfl rfl rfl rfl) rfl ?_
          refine d_effM 30 [29, 28, 23, 22, 17, 16, 11, 10, 4] [false, true, true, true, true, true, true, true, true] rfl (by kernel_rfl) rfl (by kernel_rfl) (fun K hK => ?_)
          refine s_guard rfl rfl ?_
          refine s_bslice rfl rfl rfl rfl rfl rfl rfl rfl (fun y2 => ?_); change J _ _ _ (cb y2 42 ([(⟨some ⟨y1, 0, none⟩, 1, [i], 4, 0, 0, 0⟩ : BlkD)].flatMap encBlk) :: _) _
          refine s_done ?_
          refine hK _ _ (by refine rm_skip ?_; refine rm_yd rfl (by (first | exact y_ldN rfl rfl rfl (by rfl) | exact y_ld rfl rfl rfl (by rfl) | exact y_ldN rfl rfl rfl (by rfl) | exact y_ldK rfl rfl rfl rfl (by assumption) (by omega) | exact y_ldI rfl rfl rfl rfl (by assumption) (by omega) (by omega))) ?_; refine rm_yd rfl (by (first | exact y_pickT rfl rfl | exact y_pickF rfl rfl)) ?_; refine rm_yd rfl (by (first | exact y_notT rfl | exact y_notF rfl | exact y_notp rfl | exact y_notb rfl)) ?_; refine rm_yd rfl (by (first | exact y_pickT rfl rfl | exact y_pickF rfl rfl)) ?_; refine rm_yd rfl (by (first | exact y_notT rfl | exact y_notF rfl | exact y_notp rfl | exact y_notb rfl)) ?_; refine rm_yd rfl (by (first | exact y_pickT rfl rfl | exact y_pickF rfl rfl)) ?_; refine rm_yd rfl (by (first | exact y_notT rfl | exact y_notF rfl | exact y_notp rfl | exact y_notb rfl)) ?_; refine rm_yd rfl (by (first | exact y_notT rfl | exact y_notF rfl | exact y_notp rfl | exact y_notb rfl)) ?_; exact rm_nil) ?_
          clear hK K
          refine d_takeG 31 rfl (by kernel_rfl) rfl rfl (by exact y_build rfl rfl rfl rfl) rfl ?_
          refine d_effM 32 [31, 28, 23, 22, 17, 16, 11, 10, 4] [false, true, true, true, true, true, true, true, true] rfl (by kernel_rfl) rfl (by kernel_rfl) (fun K hK => ?_)
          refine s_guard rfl rfl ?_
          refine s_call (pre := []) (rem := _) rfl rfl tk (fun w N ho hl => MirTells_spec w N m2 (some ⟨x2, 0, none⟩) none (some ⟨y2, 0, none⟩) 1 0 1 0 [(⟨some ⟨y1, 0, none⟩, 1, [i], 4, 0, 0, 0⟩ : BlkD)] ho (kiOfC hl (by repeat (first | exact List.mem_cons_self | refine List.mem_cons_of_mem _ ?_))) nilI (by decide) (by decide) (by decide) (kb1 (keOfC (fun _ => rfl) hl (by repeat (first | exact List.mem_cons_self | refine List.mem_cons_of_mem _ ?_))) (keOfC (fun _ => rfl) hl (by repeat (first | exact List.mem_cons_self | refine List.mem_cons_of_mem _ ?_))) (oneM (KI.ofS hl (by repeat (first | exact List.mem_cons_self | refine List.mem_cons_of_mem _ ?_))))) (tC y1) i64_0) rfl ?_
          rintro e L' ⟨rfl, rfl⟩
          try simp only [List.nil_append, List.cons_append, List.append_nil]
          refine s_done ?_
          refine hK _ _ (by refine rm_skip ?_; refine rm_yd rfl (by (first | exact y_ldN rfl rfl rfl (by rfl) | exact y_ld rfl rfl rfl (by rfl) | exact y_ldN rfl rfl rfl (by rfl) | exact y_ldK rfl rfl rfl rfl (by assumption) (by omega) | exact y_ldI rfl rfl rfl rfl (by assumption) (by omega) (by omega))) ?_; refine rm_yd rfl (by (first | exact y_pickT rfl rfl | exact y_pickF rfl rfl)) ?_; refine rm_yd rfl (by (first | exact y_notT rfl | exact y_notF rfl | exact y_notp rfl | exact y_notb rfl)) ?_; refine rm_yd rfl (by (first | exact y_pickT rfl rfl | exact y_pickF rfl rfl)) ?_; refine rm_yd rfl (by (first | exact y_notT rfl | exact y_notF rfl | exact y_notp rfl | exact y_notb rfl)) ?_; refine rm_yd rfl (by (first | exact y_pickT rfl rfl | exact y_pickF rfl rfl)) ?_; refine rm_yd rfl (by (first | exact y_notT rfl | exact y_notF rfl | exact y_notp rfl | exact y_notb rfl)) ?_; refine rm_yd rfl (by (first | exact y_notT rfl | exact y_notF rfl | exact y_notp rfl | exact y_notb rfl)) ?_; exact rm_nil) ?_
          clear hK K
          refine d_takeG 33 rfl (by kernel_rfl) rfl rfl (by (first | exact y_notT rfl | exact y_notF rfl | exact y_notp rfl | exact y_notb rfl)) rfl ?_
          refine d_take 34 rfl (by kernel_rfl) (by (first | exact y_pickT rfl rfl | exact y_pickF rfl rfl)) rfl ?_
          refine d_done (by kernel_rfl) ?_
          have hr' := hr () trivial
          try dsimp only [List.cons_append, List.nil_append, List.append_nil] at hr'
          exact J.to hr' ⟨rfl, rfl, rfl, rfl, rfl, rfl, trivial⟩ tk
        · refine ⟨_, rfl, [28, 26, 24, 23, 22, 17, 16, 11, 10, 4], [true, false, false, true, true, true, true, true, true, true], rfl, (by kernel_rfl), fun K hK => ?_⟩
          refine s_guard rfl rfl ?_
          refine s_bslice rfl rfl rfl rfl rfl rfl rfl rfl (fun y1 => ?_); change J _ _ _ (cb y1 30 ([i].flatMap encIns) :: _) _
          refine s_done ?_
          refine hK _ _ (by refine rm_yd rfl (by (first | exact y_ldN rfl rfl rfl (by rfl) | exact y_ld rfl rfl rfl (by rfl) | exact y_ldN rfl rfl rfl (by rfl) | exact y_ldK rfl rfl rfl rfl (by assumption) (by omega) | exact y_ldI rfl rfl rfl rfl (by assumption) (by omega) (by omega))) ?_; refine rm_skip ?_; refine rm_skip ?_; refine rm_yd rfl (by (first | exact y_pickT rfl rfl | exact y_pickF rfl rfl)) ?_; refine rm_yd rfl (by (first | exact y_notT rfl | exact y_notF rfl | exact y_notp rfl | exact y_notb rfl)) ?_; refine rm_yd rfl (by (first | exact y_pickT rfl rfl | exact y_pickF rfl rfl)) ?_; refine rm_yd rfl (by (first | exact y_notT rfl | exact y_notF rfl | exact y_notp rfl | exact y_notb rfl)) ?_; refine rm_yd rfl (by (first | exact y_pickT rfl rfl | exact y_pickF rfl rfl)) ?_; refine rm_yd rfl (by (first | exact y_notT rfl | exact y_notF rfl | exact y_notp rfl | exact y_notb rfl)) ?_; refine rm_yd rfl (by (first | exact y_notT rfl | exact y_notF rfl | exact y_notp rfl | exact y_notb rfl)) ?_; exact rm_nil) ?_
          clear hK K
          refine d_takeG 29 rfl (by kernel_rfl) rfl rfl (by exact y_build rfl rfl rfl rfl) rfl ?_
          refine d_effs [25, 30] (by kernel_rfl) rfl (all2 ?_ ?_)
          · refine ⟨_, rfl, [29, 28, 23, 22, 17, 16, 11, 10, 4], [true, true, true, true, true, true, true, true, true], rfl, (by kernel_rfl), fun K hK => ?_⟩
            refine s_guard rfl rfl ?_
            refine s_call (pre := []) (rem := _) rfl rfl tk (fun w N ho hl => two_spec w N ho) rfl ?_
            rintro e L' ⟨x2, rfl, rfl⟩
            try simp only [List.nil_append, List.cons_append, List.append_nil]
            refine s_done ?_
            refine hK _ _ (by refine rm_yd rfl (by exact y_build rfl rfl rfl rfl) ?_; refine rm_yd rfl (by (first | exact y_ldN rfl rfl rfl (by rfl) | exact y_ld rfl rfl rfl (by rfl) | exact y_ldN rfl rfl rfl (by rfl) | exact y_ldK rfl rfl rfl rfl (by assumption) (by omega) | exact y_ldI rfl rfl rfl rfl (by assumption) (by omega) (by omega))) ?_; refine rm_yd rfl (by (first | exact y_pickT rfl rfl | exact y_pickF rfl rfl)) ?_; refine rm_yd rfl (by (first | exact y_notT rfl | exact y_notF rfl | exact y_notp rfl | exact y_notb rfl)) ?_; refine rm_yd rfl (by (first | exact y_pickT rfl rfl | exact y_pickF rfl rfl)) ?_; refine rm_yd rfl (by (first | exact y_notT rfl | exact y_notF rfl | exact y_notp rfl | exact y_notb rfl)) ?_; refine rm_yd rfl (by (first | exact y_pickT rfl rfl | exact y_pickF rfl rfl)) ?_; refine rm_yd rfl (by (first | exact y_notT rfl | exact y_notF rfl | exact y_notp rfl | exact y_notb rfl)) ?_; refine rm_yd rfl (by (first | exact y_notT rfl | exact y_notF rfl | exact y_notp rfl | exact y_notb rfl)) ?_; exact rm_nil) ?_
            clear hK K
            refine d_effM 30 [29, 28, 23, 22, 17, 16, 11, 10, 4] [false, true, true, true, true, true, true, true, true] rfl (by kernel_rfl) rfl (by kernel_rfl) (fun K hK => ?_)
            refine s_guard rfl rfl ?_
            refine s_bslice rfl rfl rfl rfl rfl rfl rfl rfl (fun y2 => ?_); change J _ _ _ (cb y2 42 ([(⟨some ⟨y1, 0, none⟩, 1, [i], 4, 0, 0, 0⟩ : BlkD)].flatMap encBlk) :: _) _
            refine s_done ?_
            refine hK _ _ (by refine rm_skip ?_; refine rm_yd rfl (by (first | exact y_ldN rfl rfl rfl (by rfl) | exact y_ld rfl rfl rfl (by rfl) | exact y_ldN rfl rfl rfl (by rfl) | exact y_ldK rfl rfl rfl rfl (by assumption) (by omega) | exact y_ldI rfl rfl rfl rfl (by assumption) (by omega) (by omega))) ?_; refine rm_yd rfl (by (first | exact y_pickT rfl rfl | exact y_pickF rfl rfl)) ?_; refine rm_yd rfl (by (first | exact y_notT rfl | exact y_notF rfl | exact y_notp rfl | exact y_notb rfl)) ?_; refine rm_yd rfl (by (first | exact y_pickT rfl rfl | exact y_pickF rfl rfl)) ?_; refine rm_yd rfl (by (first | exact y_notT rfl | exact y_notF rfl | exact y_notp rfl | exact y_notb rfl)) ?_; refine rm_yd rfl (by (first | exact y_pickT rfl rfl | exact y_pickF rfl rfl)) ?_; refine rm_yd rfl (by (first | exact y_notT rfl | exact y_notF rfl | exact y_notp rfl | exact y_notb rfl)) ?_; refine rm_yd rfl (by (first | exact y_notT rfl | exact y_notF rfl | exact y_notp rfl | exact y_notb rfl)) ?_; exact rm_nil) ?_
            clear hK K
            refine d_takeG 31 rfl (by kernel_rfl) rfl rfl (by exact y_build rfl rfl rfl rfl) rfl ?_
            refine d_effM 32 [31, 28, 23, 22, 17, 16, 11, 10, 4] [false, true, true, true, true, true, true, true, true] rfl (by kernel_rfl) rfl (by kernel_rfl) (fun K hK => ?_)
            refine s_guard rfl rfl ?_
            refine s_call (pre := []) (rem := _) rfl rfl tk (fun w N ho hl => MirTells_spec w N m2 (some ⟨x2, 0, none⟩) none (some ⟨y2, 0, none⟩) 1 0 1 0 [(⟨some ⟨y1, 0, none⟩, 1, [i], 4, 0, 0, 0⟩ : BlkD)] ho (kiOfC hl (by repeat (first | exact List.mem_cons_self | refine List.mem_cons_of_mem _ ?_))) nilI (by decide) (by decide) (by decide) (kb1 (keOfC (fun _ => rfl) hl (by repeat (first | exact List.mem_cons_self | refine List.mem_cons_of_mem _ ?_))) (keOfC (fun _ => rfl) hl (by repeat (first | exact List.mem_cons_self | refine List.mem_cons_of_mem _ ?_))) (oneM (KI.ofS hl (by repeat (first | exact List.mem_cons_self | refine List.mem_cons_of_mem _ ?_))))) (tC y1) i64_0) rfl ?_
            rintro e L' ⟨rfl, rfl⟩
            try simp only [List.nil_append, List.cons_append, List.append_nil]
            refine s_done ?_
            refine hK _ _ (by refine rm_skip ?_; refine rm_yd rfl (by (first | exact y_ldN rfl rfl rfl (by rfl) | exact y_ld rfl rfl rfl (by rfl) | exact y_ldN rfl rfl rfl (by rfl) | exact y_ldK rfl rfl rfl rfl (by assumption) (by omega) | exact y_ldI rfl rfl rfl rfl (by assumption) (by omega) (by omega))) ?_; refine rm_yd rfl (by (first | exact y_pickT rfl rfl | exact y_pickF rfl rfl)) ?_; refine rm_yd rfl (by (first | exact y_notT rfl | exact y_notF rfl | exact y_notp rfl | exact y_notb rfl)) ?_; refine rm_yd rfl (by (first | exact y_pickT rfl rfl | exact y_pickF rfl rfl)) ?_; refine rm_yd rfl (by (first | exact y_notT rfl | exact y_notF rfl | exact y_notp rfl | exact y_notb rfl)) ?_; refine rm_yd rfl (by (first | exact y_pickT rfl rfl | exact y_pickF rfl rfl)) ?_; refine rm_yd rfl (by (first | exact y_notT rfl | exact y_notF rfl | exact y_notp rfl | exact y_notb rfl)) ?_; refine rm_yd rfl (by (first | exact y_notT rfl | exact y_notF rfl | exact y_notp rfl | exact y_notb rfl)) ?_; exact rm_nil) ?_
            clear hK K
            refine d_takeG 33 rfl (by kernel_rfl) rfl rfl (by (first | exact y_notT rfl | exact y_notF rfl | exact y_notp rfl | exact y_notb rfl)) rfl ?_
            refine d_take 34 rfl (by kernel_rfl) (by (first | exact y_pickT rfl rfl | exact y_pickF rfl rfl)) rfl ?_
            refine d_done (by kernel_rfl) ?_
            have hr' := hr () trivial
            try dsimp only [List.cons_append, List.nil_append, List.append_nil] at hr'
            exact J.to hr' ⟨rfl, rfl, rfl, rfl, rfl, rfl, trivial⟩ tk
          · refine ⟨_, rfl, [29, 28, 23, 22, 17, 16, 11, 10, 4], [false, true, true, true, true, true, true, true, true], rfl, (by kernel_rfl), fun K hK => ?_⟩
            refine s_guard rfl rfl ?_
            refine s_bslice rfl rfl rfl rfl rfl rfl rfl rfl (fun y2 => ?_); change J _ _ _ (cb y2 42 ([(⟨some ⟨y1, 0, none⟩, 1, [i], 4, 0, 0, 0⟩ : BlkD)].flatMap encBlk) :: _) _
            refine s_done ?_
            refine hK _ _ (by refine rm_skip ?_; refine rm_yd rfl (by (first | exact y_ldN rfl rfl rfl (by rfl) | exact y_ld rfl rfl rfl (by rfl) | exact y_ldN rfl rfl rfl (by rfl) | exact y_ldK rfl rfl rfl rfl (by assumption) (by omega) | exact y_ldI rfl rfl rfl rfl (by assumption) (by omega) (by omega))) ?_; refine rm_yd rfl (by (first | exact y_pickT rfl rfl | exact y_pickF rfl rfl)) ?_; refine rm_yd rfl (by (first | exact y_notT rfl | exact y_notF rfl | exact y_notp rfl | exact y_notb rfl)) ?_; refine rm_yd rfl (by (first | exact y_pickT rfl rfl | exact y_pickF rfl rfl)) ?_; refine rm_yd rfl (by (first | exact y_notT rfl | exact y_notF rfl | exact y_notp rfl | exact y_notb rfl)) ?_; refine rm_yd rfl (by (first | exact y_pickT rfl rfl | exact y_pickF rfl rfl)) ?_; refine rm_yd rfl (by (first | exact y_notT rfl | exact y_notF rfl | exact y_notp rfl | exact y_notb rfl)) ?_; refine rm_yd rfl (by (first | exact y_notT rfl | exact y_notF rfl | exact y_notp rfl | exact y_notb rfl)) ?_; exact rm_nil) ?_
            clear hK K
            refine d_takeG 31 rfl (by kernel_rfl) rfl rfl (by exact y_build rfl rfl rfl rfl) rfl ?_
            refine d_effM 25 [31, 28, 23, 22, 17, 16, 11, 10, 4] [true, true, true, true, true, true, true, true, true] rfl (by kernel_rfl) rfl (by kernel_rfl) (fun K hK => ?_)
            refine s_guard rfl rfl ?_
            refine s_call (pre := []) (rem := _) rfl rfl tk (fun w N ho hl => two_spec w N ho) rfl ?_
            rintro e L' ⟨x2, rfl, rfl⟩
            try simp only [List.nil_append, List.cons_append, List.append_nil]
            refine s_done ?_
            refine hK _ _ (by refine rm_yd rfl (by exact y_build rfl rfl rfl rfl) ?_; refine rm_yd rfl (by (first | exact y_ldN rfl rfl rfl (by rfl) | exact y_ld rfl rfl rfl (by rfl) | exact y_ldN rfl rfl rfl (by rfl) | exact y_ldK rfl rfl rfl rfl (by assumption) (by omega) | exact y_ldI rfl rfl rfl rfl (by assumption) (by omega) (by omega))) ?_; refine rm_yd rfl (by (first | exact y_pickT rfl rfl | exact y_pickF rfl rfl)) ?_; refine rm_yd rfl (by (first | exact y_notT rfl | exact y_notF rfl | exact y_notp rfl | exact y_notb rfl)) ?_; refine rm_yd rfl (by (first | exact y_pickT rfl rfl | exact y_pickF rfl rfl)) ?_; refine rm_yd rfl (by (first | exact y_notT rfl | exact y_notF rfl | exact y_notp rfl | exact y_notb rfl)) ?_; refine rm_yd rfl (by (first | exact y_pickT rfl rfl | exact y_pickF rfl rfl)) ?_; refine rm_yd rfl (by (first | exact y_notT rfl | exact y_notF rfl | exact y_notp rfl | exact y_notb rfl)) ?_; refine rm_yd rfl (by (first | exact y_notT rfl | exact y_notF rfl | exact y_notp rfl | exact y_notb rfl)) ?_; exact rm_nil) ?_
            clear hK K
            refine d_effM 32 [31, 28, 23, 22, 17, 16, 11, 10, 4] [false, true, true, true, true, true, true, true, true] rfl (by kernel_rfl) rfl (by kernel_rfl) (fun K hK => ?_)
            refine s_guard rfl rfl ?_
            refine s_call (pre := []) (rem := _) rfl rfl tk (fun w N ho hl => MirTells_spec w N m2 (some ⟨x2, 0, none⟩) none (some ⟨y2, 0, none⟩) 1 0 1 0 [(⟨some ⟨y1, 0, none⟩, 1, [i], 4, 0, 0, 0⟩ : BlkD)] ho (kiOfC hl (by repeat (first | exact List.mem_cons_self | refine List.mem_cons_of_mem _ ?_))) nilI (by decide) (by decide) (by decide) (kb1 (keOfC (fun _ => rfl) hl (by repeat (first | exact List.mem_cons_self | refine List.mem_cons_of_mem _ ?_))) (keOfC (fun _ => rfl) hl (by repeat (first | exact List.mem_cons_self | refine List.mem_cons_of_mem _ ?_))) (oneM (KI.ofS hl (by repeat (first | exact List.mem_cons_self | refine List.mem_cons_of_mem _ ?_))))) (tC y1) i64_0) rfl ?_
            rintro e L' ⟨rfl, rfl⟩
            try simp only [List.nil_append, List.cons_append, List.append_nil]
            refine s_done ?_
            refine hK _ _ (by refine rm_skip ?_; refine rm_yd rfl (by (first | exact y_ldN rfl rfl rfl (by rfl) | exact y_ld rfl rfl rfl (by rfl) | exact y_ldN rfl rfl rfl (by rfl) | exact y_ldK rfl rfl rfl rfl (by assumption) (by omega) | exact y_ldI rfl rfl rfl rfl (by assumption) (by omega) (by omega))) ?_; refine rm_yd rfl (by (first | exact y_pickT rfl rfl | exact y_pickF rfl rfl)) ?_; refine rm_yd rfl (by (first | exact y_notT rfl | exact y_notF rfl | exact y_notp rfl | exact y_notb rfl)) ?_; refine rm_yd rfl (by (first | exact y_pickT rfl rfl | exact y_pickF rfl rfl)) ?_; refine rm_yd rfl (by (first | exact y_notT rfl | exact y_notF rfl | exact y_notp rfl | exact y_notb rfl)) ?_; refine rm_yd rfl (by (first | exact y_pickT rfl rfl | exact y_pickF rfl rfl)) ?_; refine rm_yd rfl (by (first | exact y_notT rfl | exact y_notF rfl | exact y_notp rfl | exact y_notb rfl)) ?_; refine rm_yd rfl (by (first | exact y_notT rfl | exact y_notF rfl | exact y_notp rfl | exact y_notb rfl)) ?_; exact rm_nil) ?_
            clear hK K
            refine d_takeG 33 rfl (by kernel_rfl) rfl rfl (by (first | exact y_notT rfl | exact y_notF rfl | exact y_notp rfl | exact y_notb rfl)) rfl ?_
            refine d_take 34 rfl (by kernel_rfl) (by (first | exact y_pickT rfl rfl | exact y_pickF rfl rfl)) rfl ?_
            refine d_done (by kernel_rfl) ?_
            have hr' := hr () trivial
            try dsimp only [List.cons_append, List.nil_append, List.append_nil] at hr'
            exact J.to hr' ⟨rfl, rfl, rfl, rfl, rfl, rfl, trivial⟩ tk
      rintro - -
      dsimp only [List.cons_append, List.nil_append]
      refine s_condF2 rfl (by with_reducible rfl) ?_
      refine s_skip ?_
      refine s_endb ?_
      refine s_region ?_
      refine s_q (y_move rfl) rfl ?_
      refine s_q (y_add rfl rfl (by omega)) rfl ?_
      refine s_q (y_assign rfl) rfl ?_
      refine s_done ?_
      refine s_inv (n + 1) (by (try dsimp only); omega) (by (try dsimp only); omega) ⟨rfl, rfl, rfl, rfl, rfl, trivial⟩ tk
    · refine s_exit rfl ?_
      refine s_endb ?_
      refine s_region ?_
      refine s_q (y_move rfl) rfl ?_
      refine s_q (y_add rfl rfl (by omega)) rfl ?_
      refine s_q (y_assign rfl) rfl ?_
      refine s_done ?_
      refine s_inv (o + 1) ⟨(by (try dsimp only); omega), (by (try dsimp only); omega)⟩ (by (try dsimp only); omega) ⟨rfl, rfl, rfl, rfl, trivial⟩ tk
  refine s_exit rfl ?_
  refine s_seq ?_
  refine s_seq ?_
  refine s_region ?_
  refine s_q (y_assign rfl) rfl ?_
  refine s_done ?_
  refine s_block ?_
  refine s_loopV (σ := Nat) (fun s => [(12, .int .i64 s)]) (fun s => []) (fun s => (s ≤ 15)) (fun s => 15 - s) (0) [(1, _), (2, _), (3, _)] ⟨rfl, rfl, rfl, trivial⟩ ⟨rfl, trivial⟩ tk (by (try dsimp only); omega) ?_
  rintro n hn
  try dsimp only [List.cons_append, List.nil_append, List.append_nil] at hn ⊢
  refine s_seq ?_
  refine s_seq ?_
  refine s_region ?_
  refine s_q (y_move rfl) rfl ?_
  refine s_q (y_move rfl) rfl ?_
  refine s_q (y_lenS rfl rfl rfl) rfl ?_
  refine s_q (y_lss rfl rfl) rfl ?_
  refine s_done ?_
  refine s_cond rfl (fun hc => ?_) (fun hc => ?_)
  · have hel : endsL.length = 15 := rfl
    refine s_skip ?_
    refine s_seq ?_
    refine s_block ?_
    refine s_seq ?_
    refine d_start ?_
    refine d_take 0 rfl (by kernel_rfl) (by (first | exact y_ldN rfl rfl rfl (by rfl) | exact y_ldSq (xs := endsL) rfl rfl rfl rfl (fun w hw => hw.cbRdI (by repeat (first | exact List.mem_cons_self | refine List.mem_cons_of_mem _ ?_))) (by omega) (by omega) | exact y_ld rfl rfl rfl (by rfl) | exact y_ldN rfl rfl rfl (by rfl) | exact y_ldK rfl rfl rfl rfl (by assumption) (by omega) | exact y_ldI rfl rfl rfl rfl (by assumption) (by omega) (by omega))) rfl ?_
    refine d_take 1 rfl (by kernel_rfl) (by exact y_move rfl) rfl ?_
    refine d_take 2 rfl (by kernel_rfl) (by exact y_move rfl) rfl ?_
    refine d_take 3 rfl (by kernel_rfl) (by (first | exact y_ixS (xs := endsL) rfl rfl rfl rfl rfl (fun w hw => hw.cbRdI (by repeat (first | exact List.mem_cons_self | refine List.mem_cons_of_mem _ ?_))) rfl (by omega) (by omega) | exact y_ixI rfl rfl rfl rfl rfl (by assumption) rfl (by omega) (by omega))) rfl ?_
    refine d_take 4 rfl (by kernel_rfl) (by (first | exact y_ldN rfl rfl rfl (by rfl) | exact y_ldSq (xs := endsL) rfl rfl rfl rfl (fun w hw => hw.cbRdI (by repeat (first | exact List.mem_cons_self | refine List.mem_cons_of_mem _ ?_))) (by omega) (by omega) | exact y_ld rfl rfl rfl (by rfl) | exact y_ldN rfl rfl rfl (by rfl) | exact y_ldK rfl rfl rfl rfl (by assumption) (by omega) | exact y_ldI rfl rfl rfl rfl (by assumption) (by omega) (by omega))) rfl ?_
    refine d_take 5 rfl (by kernel_rfl) (by (first | exact y_ldN rfl rfl rfl (by rfl) | exact y_ldSq (xs := endsL) rfl rfl rfl rfl (fun w hw => hw.cbRdI (by repeat (first | exact List.mem_cons_self | refine List.mem_cons_of_mem _ ?_))) (by omega) (by omega) | exact y_ld rfl rfl rfl (by rfl) | exact y_ldN rfl rfl rfl (by rfl) | exact y_ldK rfl rfl rfl rfl (by assumption) (by omega) | exact y_ldI rfl rfl rfl rfl (by assumption) (by omega) (by omega))) rfl ?_
    refine d_take 6 rfl (by kernel_rfl) (by exact y_build rfl rfl rfl rfl) rfl ?_
    refine d_effM 7 [6, 5, 4, 3, 2, 1, 0] [false, true, true, true, true, true, true] rfl (by kernel_rfl) rfl (by kernel_rfl) (fun K hK => ?_)
    refine s_bslice rfl rfl rfl rfl rfl rfl rfl rfl (fun y2 => ?_)
    refine s_done ?_
    refine hK _ _ (by refine rm_skip ?_; refine rm_yd rfl (by (first | exact y_ldN rfl rfl rfl (by rfl) | exact y_ldSq (xs := endsL) rfl rfl rfl rfl (fun w hw => hw.cbRdI (by repeat (first | exact List.mem_cons_self | refine List.mem_cons_of_mem _ ?_))) (by omega) (by omega) | exact y_ld rfl rfl rfl (by rfl) | exact y_ldN rfl rfl rfl (by rfl) | exact y_ldK rfl rfl rfl rfl (by assumption) (by omega) | exact y_ldI rfl rfl rfl rfl (by assumption) (by omega) (by omega))) ?_; refine rm_yd rfl (by (first | exact y_ldN rfl rfl rfl (by rfl) | exact y_ldSq (xs := endsL) rfl rfl rfl rfl (fun w hw => hw.cbRdI (by repeat (first | exact List.mem_cons_self | refine List.mem_cons_of_mem _ ?_))) (by omega) (by omega) | exact y_ld rfl rfl rfl (by rfl) | exact y_ldN rfl rfl rfl (by rfl) | exact y_ldK rfl rfl rfl rfl (by assumption) (by omega) | exact y_ldI rfl rfl rfl rfl (by assumption) (by omega) (by omega))) ?_; refine rm_yd rfl (by (first | exact y_ixS (xs := endsL) rfl rfl rfl rfl rfl (fun w hw => hw.cbRdI (by repeat (first | exact List.mem_cons_self | refine List.mem_cons_of_mem _ ?_))) rfl (by omega) (by omega) | exact y_ixI rfl rfl rfl rfl rfl (by assumption) rfl (by omega) (by omega))) ?_; refine rm_yd rfl (by exact y_move rfl) ?_; refine rm_yd rfl (by exact y_move rfl) ?_; refine rm_yd rfl (by (first | exact y_ldN rfl rfl rfl (by rfl) | exact y_ldSq (xs := endsL) rfl rfl rfl rfl (fun w hw => hw.cbRdI (by repeat (first | exact List.mem_cons_self | refine List.mem_cons_of_mem _ ?_))) (by omega) (by omega) | exact y_ld rfl rfl rfl (by rfl) | exact y_ldN rfl rfl rfl (by rfl) | exact y_ldK rfl rfl rfl rfl (by assumption) (by omega) | exact y_ldI rfl rfl rfl rfl (by assumption) (by omega) (by omega))) ?_; exact rm_nil) ?_
    clear hK K
    refine d_take 8 rfl (by kernel_rfl) (by exact y_build rfl rfl rfl rfl) rfl ?_
    refine d_effM 9 [8, 5, 4, 3, 2, 1, 0] [false, true, true, true, true, true, false] rfl (by kernel_rfl) rfl (by kernel_rfl) (fun K hK => ?_)
    refine s_call (pre := []) (rem := _) rfl rfl tk (fun w N ho hl => MirTells_spec w N m3 (some ⟨ya, 0, none⟩) (some ⟨yb, 0, none⟩) (some ⟨y2, 0, none⟩) 2 1 1 _ [trapB] ho (kiOfC hl (by repeat (first | exact List.mem_cons_self | refine List.mem_cons_of_mem _ ?_))) (kiOfC hl (by repeat (first | exact List.mem_cons_self | refine List.mem_cons_of_mem _ ?_))) (by decide) (by decide) (by decide) (kb1 (keOfC (fun _ => rfl) hl (by repeat (first | exact List.mem_cons_self | refine List.mem_cons_of_mem _ ?_))) nilE nilM) (tok1 (okB0 _ _ _ _)) (ends_i64 _)) rfl ?_
    rintro e L' ⟨rfl, rfl⟩
    try simp only [List.nil_append, List.cons_append, List.append_nil]
    refine s_done ?_
    refine hK _ _ (by refine rm_skip ?_; refine rm_yd rfl (by (first | exact y_ldN rfl rfl rfl (by rfl) | exact y_ldSq (xs := endsL) rfl rfl rfl rfl (fun w hw => hw.cbRdI (by repeat (first | exact List.mem_cons_self | refine List.mem_cons_of_mem _ ?_))) (by omega) (by omega) | exact y_ld rfl rfl rfl (by rfl) | exact y_ldN rfl rfl rfl (by rfl) | exact y_ldK rfl rfl rfl rfl (by assumption) (by omega) | exact y_ldI rfl rfl rfl rfl (by assumption) (by omega) (by omega))) ?_; refine rm_yd rfl (by (first | exact y_ldN rfl rfl rfl (by rfl) | exact y_ldSq (xs := endsL) rfl rfl rfl rfl (fun w hw => hw.cbRdI (by repeat (first | exact List.mem_cons_self | refine List.mem_cons_of_mem _ ?_))) (by omega) (by omega) | exact y_ld rfl rfl rfl (by rfl) | exact y_ldN rfl rfl rfl (by rfl) | exact y_ldK rfl rfl rfl rfl (by assumption) (by omega) | exact y_ldI rfl rfl rfl rfl (by assumption) (by omega) (by omega))) ?_; refine rm_yd rfl (by (first | exact y_ixS (xs := endsL) rfl rfl rfl rfl rfl (fun w hw => hw.cbRdI (by repeat (first | exact List.mem_cons_self | refine List.mem_cons_of_mem _ ?_))) rfl (by omega) (by omega) | exact y_ixI rfl rfl rfl rfl rfl (by assumption) rfl (by omega) (by omega))) ?_; refine rm_yd rfl (by exact y_move rfl) ?_; refine rm_yd rfl (by exact y_move rfl) ?_; refine rm_skip ?_; exact rm_nil) ?_
    clear hK K
    refine d_take 10 rfl (by kernel_rfl) (by (first | exact y_notT rfl | exact y_notF rfl | exact y_notp rfl | exact y_notb rfl)) rfl ?_
    refine d_done (by kernel_rfl) ?_
    refine s_condF2 rfl (by with_reducible rfl) ?_
    refine s_skip ?_
    refine s_endb ?_
    refine s_region ?_
    refine s_q (y_move rfl) rfl ?_
    refine s_q (y_add rfl rfl (by omega)) rfl ?_
    refine s_q (y_assign rfl) rfl ?_
    refine s_done ?_
    refine s_inv (n + 1) (by (try dsimp only); omega) (by (try dsimp only); omega) ⟨rfl, rfl, rfl, rfl, trivial⟩ tk
  refine s_exit rfl ?_
  refine s_seq ?_
  refine s_seq ?_
  refine s_region ?_
  refine s_q (y_assign rfl) rfl ?_
  refine s_done ?_
  refine s_block ?_
  refine s_loopV (σ := Nat) (fun s => [(13, .int .i64 s)]) (fun s => []) (fun s => (198 ≤ s) ∧ (s ≤ 203)) (fun s => 203 - s) (198) [(2, _), (3, _)] ⟨rfl, rfl, trivial⟩ ⟨rfl, trivial⟩ tk ⟨(by (try dsimp only); omega), (by (try dsimp only); omega)⟩ ?_
  rintro n ⟨h1, h2⟩
  try dsimp only [List.cons_append, List.nil_append, List.append_nil] at h1 h2 ⊢
  refine s_seq ?_
  refine s_seq ?_
  refine s_region ?_
  refine s_q (y_move rfl) rfl ?_
  refine s_q (y_lss rfl rfl) rfl ?_
  refine s_done ?_
  refine s_cond rfl (fun hc => ?_) (fun hc => ?_)
  · refine s_skip ?_
    refine s_seq ?_
    refine s_block ?_
    refine s_seq ?_
    refine s_joinV (σ := Nat × Nat) (fun s => [(14, .pointer (some ⟨s.2, 0, none⟩))]) [] (fun s => [cb s.2 42 [.slice (some ⟨s.1, 0, none⟩) (n + 3800) (n + 3800), .int .i64 4, .int .i64 0, .int .i64 0, .int .i64 0], Sl 30 8 (some ⟨s.1, 0, none⟩) (n + 3800) (n + 3800) (zerosOf [.int .i64 0, .int .i64 0, .int .i64 0, .int .i64 0, .int .i64 0, .int .i64 0, .slice none 0 0, .int .i64 0] (n + 3800))]) (fun s => True) [(2, _), (3, _), (13, _)] ⟨rfl, rfl, rfl, trivial⟩ tk (fun k' hr => ?_) ?_
    · skip
      refine d_start ?_
      refine d_take 0 rfl (by kernel_rfl) (by exact y_move rfl) rfl ?_
      refine d_take 1 rfl (by kernel_rfl) (by exact y_add rfl rfl (by omega)) rfl ?_
      refine d_take 3 rfl (by kernel_rfl) (by (first | exact y_ldN rfl rfl rfl (by rfl) | exact y_ld rfl rfl rfl (by rfl) | exact y_ldN rfl rfl rfl (by rfl) | exact y_ldK rfl rfl rfl rfl (by assumption) (by omega) | exact y_ldI rfl rfl rfl rfl (by assumption) (by omega) (by omega))) rfl ?_
      refine d_effs [2, 5] (by kernel_rfl) rfl (all2 ?_ ?_)
      · refine ⟨_, rfl, [3, 1, 0], [true, false, true], rfl, (by kernel_rfl), fun K hK => ?_⟩
        refine s_mkslice (l := n + 3800) (c := n + 3800) rfl rfl (by omega) (by omega) rfl rfl rfl rfl rfl rfl rfl (by omega) (by omega) (fun bl => ?_)
        refine s_done ?_
        refine hK _ _ (by refine rm_yd rfl (by (first | exact y_ldN rfl rfl rfl (by rfl) | exact y_ld rfl rfl rfl (by rfl) | exact y_ldN rfl rfl rfl (by rfl) | exact y_ldK rfl rfl rfl rfl (by assumption) (by omega) | exact y_ldI rfl rfl rfl rfl (by assumption) (by omega) (by omega))) ?_; refine rm_skip ?_; refine rm_yd rfl (by exact y_move rfl) ?_; exact rm_nil) ?_
        clear hK K
        refine d_take 4 rfl (by kernel_rfl) (by exact y_build rfl rfl rfl rfl) rfl ?_
        refine d_effM 5 [4, 3, 0] [true, true, true] rfl (by kernel_rfl) rfl (by kernel_rfl) (fun K hK => ?_)
        refine s_alloc rfl rfl (fun b14 => ?_)
        refine s_done ?_
        refine hK _ _ (by refine rm_yd rfl (by exact y_build rfl rfl rfl rfl) ?_; refine rm_yd rfl (by (first | exact y_ldN rfl rfl rfl (by rfl) | exact y_ld rfl rfl rfl (by rfl) | exact y_ldN rfl rfl rfl (by rfl) | exact y_ldK rfl rfl rfl rfl (by assumption) (by omega) | exact y_ldI rfl rfl rfl rfl (by assumption) (by omega) (by omega))) ?_; refine rm_yd rfl (by exact y_move rfl) ?_; exact rm_nil) ?_
        clear hK K
        refine d_effM 6 [4, 3, 0] [false, false, false] rfl (by kernel_rfl) rfl (by kernel_rfl) (fun K hK => ?_)
        (first | (refine s_storeW rfl rfl rfl rfl rfl (by rfl) ?_) | (refine s_storeN rfl rfl rfl rfl rfl (by rfl) ?_)); change J _ _ _ (cb b14 42 [.slice (some ⟨bl, 0, none⟩) (n + 3800) (n + 3800), .int .i64 4, .int .i64 0, .int .i64 0, .int .i64 0] :: _) _
        refine s_done ?_
        refine hK _ _ (by refine rm_skip ?_; refine rm_skip ?_; refine rm_skip ?_; exact rm_nil) ?_
        clear hK K
        refine d_done (by kernel_rfl) ?_
        have hr' := hr (bl, b14) trivial
        try dsimp only [List.cons_append, List.nil_append, List.append_nil] at hr'
        exact J.to hr' ⟨rfl, rfl, rfl, rfl, trivial⟩ tk
      · refine ⟨_, rfl, [3, 1, 0], [true, true, true], rfl, (by kernel_rfl), fun K hK => ?_⟩
        refine s_alloc rfl rfl (fun b14 => ?_)
        refine s_done ?_
        refine hK _ _ (by refine rm_yd rfl (by (first | exact y_ldN rfl rfl rfl (by rfl) | exact y_ld rfl rfl rfl (by rfl) | exact y_ldN rfl rfl rfl (by rfl) | exact y_ldK rfl rfl rfl rfl (by assumption) (by omega) | exact y_ldI rfl rfl rfl rfl (by assumption) (by omega) (by omega))) ?_; refine rm_yd rfl (by exact y_add rfl rfl (by omega)) ?_; refine rm_yd rfl (by exact y_move rfl) ?_; exact rm_nil) ?_
        clear hK K
        refine d_effM 2 [3, 1, 0] [true, false, true] rfl (by kernel_rfl) rfl (by kernel_rfl) (fun K hK => ?_)
        refine s_mkslice (l := n + 3800) (c := n + 3800) rfl rfl (by omega) (by omega) rfl rfl rfl rfl rfl rfl rfl (by omega) (by omega) (fun bl => ?_)
        refine s_done ?_
        refine hK _ _ (by refine rm_yd rfl (by (first | exact y_ldN rfl rfl rfl (by rfl) | exact y_ld rfl rfl rfl (by rfl) | exact y_ldN rfl rfl rfl (by rfl) | exact y_ldK rfl rfl rfl rfl (by assumption) (by omega) | exact y_ldI rfl rfl rfl rfl (by assumption) (by omega) (by omega))) ?_; refine rm_skip ?_; refine rm_yd rfl (by exact y_move rfl) ?_; exact rm_nil) ?_
        clear hK K
        refine d_take 4 rfl (by kernel_rfl) (by exact y_build rfl rfl rfl rfl) rfl ?_
        refine d_effM 6 [4, 3, 0] [false, false, false] rfl (by kernel_rfl) rfl (by kernel_rfl) (fun K hK => ?_)
        (first | (refine s_storeW rfl rfl rfl rfl rfl (by rfl) ?_) | (refine s_storeN rfl rfl rfl rfl rfl (by rfl) ?_)); change J _ _ _ (cb b14 42 [.slice (some ⟨bl, 0, none⟩) (n + 3800) (n + 3800), .int .i64 4, .int .i64 0, .int .i64 0, .int .i64 0] :: _) _
        refine s_done ?_
        refine hK _ _ (by refine rm_skip ?_; refine rm_skip ?_; refine rm_skip ?_; exact rm_nil) ?_
        clear hK K
        refine d_done (by kernel_rfl) ?_
        have hr' := hr (bl, b14) trivial
        try dsimp only [List.cons_append, List.nil_append, List.append_nil] at hr'
        exact J.to hr' ⟨rfl, rfl, rfl, rfl, trivial⟩ tk
    rintro ⟨bl, b14⟩ -
    dsimp only [List.cons_append, List.nil_append]
    change J _ _ _ (cb b14 42 [.slice (some ⟨bl, 0, none⟩) (n + 3800) (n + 3800), .int .i64 4, .int .i64 0, .int .i64 0, .int .i64 0] :: Sl 30 8 (some ⟨bl, 0, none⟩) (n + 3800) (n + 3800) (zerosOf (encIns InsD.no) (n + 3800)) :: _) _
    rw [zeros_flat (enc := encIns) InsD.no (n + 3800)]
    refine s_seq ?_
    refine s_seq ?_
    refine s_region ?_
    refine s_q (y_assign rfl) rfl ?_
    refine s_done ?_
    refine s_block ?_
    refine s_loopV (σ := Nat × List InsD) (fun s => [(15, .int .i64 s.1)]) (fun s => [Sl 30 8 (some ⟨bl, 0, none⟩) (n + 3800) (n + 3800) (s.2.flatMap encIns)]) (fun s => (s.1 ≤ n + 3800) ∧ (s.2.length = n + 3800) ∧ (∀ x ∈ s.2, x = iC ∨ x = InsD.no)) (fun s => n + 3800 - s.1) (0, List.replicate (n + 3800) InsD.no) [(2, _), (3, _), (13, _), (14, _)] ⟨rfl, rfl, rfl, rfl, trivial⟩ ⟨rfl, trivial⟩ tk ⟨Nat.zero_le _, List.length_replicate, fun x hx => .inr (List.eq_of_mem_replicate hx)⟩ ?_
    rintro ⟨j, l⟩ ⟨hj, hll, hx⟩
    try dsimp only [List.cons_append, List.nil_append, List.append_nil] at hj hll hx ⊢
    refine s_seq ?_
    refine s_seq ?_
    refine s_region ?_
    refine s_q (y_move rfl) rfl ?_
    refine s_q (by (first | exact y_fieldAddrB rfl rfl rfl rfl rfl rfl | exact y_fieldAddr rfl rfl rfl rfl rfl rfl)) rfl ?_
    refine s_q (by (first | exact y_ld rfl rfl rfl (by rfl) | exact y_ldN rfl rfl rfl (by rfl) | exact y_ldK rfl rfl rfl rfl (by assumption) (by omega) | exact y_ldI rfl rfl rfl rfl (by assumption) (by omega) (by omega))) rfl ?_
    refine s_q (y_lenS rfl rfl rfl) rfl ?_
    refine s_q (y_lss rfl rfl) rfl ?_
    refine s_done ?_
    refine s_cond rfl (fun hc2 => ?_) (fun hc2 => ?_)
    · have hjl : j < l.length := by omega
      refine s_skip ?_
      refine s_seq ?_
      refine s_block ?_
      refine s_region ?_
      refine s_q (by (first | exact y_fieldAddrB rfl rfl rfl rfl rfl rfl | exact y_fieldAddr rfl rfl rfl rfl rfl rfl)) rfl ?_
      refine s_q (by (first | exact y_ld rfl rfl rfl (by rfl) | exact y_ldN rfl rfl rfl (by rfl) | exact y_ldK rfl rfl rfl rfl (by assumption) (by omega) | exact y_ldI rfl rfl rfl rfl (by assumption) (by omega) (by omega))) rfl ?_
      refine s_q (y_move rfl) rfl ?_
      refine s_q (by (first | exact y_ixO rfl rfl rfl rfl rfl (by omega) (by omega) (by omega) | exact y_ixI rfl rfl rfl rfl rfl (by assumption) rfl (by omega) (by omega))) rfl ?_
      refine s_q (by (first | exact y_fieldAddrB rfl rfl rfl rfl rfl rfl | exact y_fieldAddr rfl rfl rfl rfl rfl rfl)) rfl ?_
      refine s_storeSlF (q := (j : Int)) rfl rfl rfl rfl (by rw [flat_length (enc := encIns) (sz := 8) (fun _ => rfl), Int.toNat_natCast]; omega) ?_
      rw [Int.toNat_natCast, flatSet (enc := encIns) (sz := 8) (fun _ => rfl) .no iC 0 _ (by omega) l j hjl (by rcases hx _ (getD_mem InsD.no hjl) with e | e <;> rw [e] <;> rfl)]
      refine s_done ?_
      refine s_endb ?_
      refine s_region ?_
      refine s_q (y_move rfl) rfl ?_
      refine s_q (y_add rfl rfl (by omega)) rfl ?_
      refine s_q (y_assign rfl) rfl ?_
      refine s_done ?_
      refine s_inv (j + 1, l.set j iC) ⟨(by (try dsimp only); omega), by (try dsimp only); rw [List.length_set]; exact hll, fun x hm => (List.mem_or_eq_of_mem_set hm).elim (hx x) .inl⟩ (by (try dsimp only); omega) ⟨rfl, rfl, rfl, rfl, rfl, trivial⟩ tk
    refine s_exit rfl ?_
    refine s_seq ?_
    refine s_region ?_
    refine s_q (y_move rfl) rfl ?_
    refine s_mkslice (l := n) (c := n) rfl rfl rfl rfl rfl rfl rfl rfl rfl rfl rfl (by omega) (by omega) (fun bw => ?_)
    change J _ _ _ (Sl 42 5 (some ⟨bw, 0, none⟩) n n (zerosOf (encBlk BlkD.no) n) :: _) _
    rw [zeros_flat (enc := encBlk) BlkD.no n]
    refine s_q (y_assign rfl) rfl ?_
    refine s_done ?_
    refine s_seq ?_
    refine s_seq ?_
    refine s_region ?_
    refine s_q (y_assign rfl) rfl ?_
    refine s_done ?_
    refine s_block ?_
    refine s_loopV (σ := Nat × List BlkD) (fun s => [(17, .int .i64 s.1)]) (fun s => [Sl 42 5 (some ⟨bw, 0, none⟩) n n (s.2.flatMap encBlk)]) (fun s => (s.1 ≤ n) ∧ (s.2.length = n) ∧ (∀ x ∈ s.2, x = trapB ∨ x = BlkD.no)) (fun s => n - s.1) (0, List.replicate n BlkD.no) [(2, _), (3, _), (13, _), (14, _), (16, _)] ⟨rfl, rfl, rfl, rfl, rfl, trivial⟩ ⟨rfl, trivial⟩ tk ⟨Nat.zero_le _, List.length_replicate, fun x hx => .inr (List.eq_of_mem_replicate hx)⟩ ?_
    rintro ⟨k, bs⟩ ⟨hk, hbl, hb⟩
    try dsimp only [List.cons_append, List.nil_append, List.append_nil] at hk hbl hb ⊢
    refine s_seq ?_
    refine s_seq ?_
    refine s_region ?_
    refine s_q (y_move rfl) rfl ?_
    refine s_q (y_move rfl) rfl ?_
    refine s_q (y_lss rfl rfl) rfl ?_
    refine s_done ?_
    refine s_cond rfl (fun hc3 => ?_) (fun hc3 => ?_)
    · have hkl : k < bs.length := by omega
      refine s_skip ?_
      refine s_seq ?_
      refine s_block ?_
      refine s_region ?_
      refine s_q (y_move rfl) rfl ?_
      refine s_q (y_move rfl) rfl ?_
      refine s_q (by (first | exact y_ldN rfl rfl rfl (by rfl) | exact y_ld rfl rfl rfl (by rfl) | exact y_ldN rfl rfl rfl (by rfl) | exact y_ldK rfl rfl rfl rfl (by assumption) (by omega) | exact y_ldI rfl rfl rfl rfl (by assumption) (by omega) (by omega))) rfl ?_
      refine s_q (by (first | exact y_ixO rfl rfl rfl rfl rfl (by omega) (by omega) (by omega) | exact y_ixI rfl rfl rfl rfl rfl (by assumption) rfl (by omega) (by omega))) rfl ?_
      refine s_q (by (first | exact y_fieldAddrB rfl rfl rfl rfl rfl rfl | exact y_fieldAddr rfl rfl rfl rfl rfl rfl)) rfl ?_
      refine J.perm (Tk.perm (K := [Sl 42 5 (some ⟨bw, 0, none⟩) n n (bs.flatMap encBlk)])) ?_
      dsimp only [List.cons_append, List.nil_append]
      refine J.imp (B := cb bw 42 (bs.flatMap encBlk)) (fun _ h => slToCbN h) ?_
      refine s_storeNA (b := bw) (o := k * 5 + 1) rfl (by simp [Option.getD_some, addr_add]) rfl rfl rfl rfl (by rw [flat_length (enc := encBlk) (sz := 5) (fun _ => rfl)]; omega) ?_
      rw [flatSetAll (enc := encBlk) (sz := 5) (fun _ => rfl) .no trapB 1 _ (by decide) bs k hkl (by rcases hb _ (getD_mem BlkD.no hkl) with e | e <;> rw [e] <;> rfl)]
      refine J.imp (B := Sl 42 5 (some ⟨bw, 0, none⟩) n n ((bs.set k trapB).flatMap encBlk)) (fun _ h => Sl.ofCb (by rw [flat_length (enc := encBlk) (sz := 5) (fun _ => rfl), List.length_set]; omega) (by unfold maxLen; omega) h) ?_
      refine s_done ?_
      refine s_endb ?_
      refine s_region ?_
      refine s_q (y_move rfl) rfl ?_
      refine s_q (y_add rfl rfl (by omega)) rfl ?_
      refine s_q (y_assign rfl) rfl ?_
      refine s_done ?_
      refine s_inv (k + 1, bs.set k trapB) ⟨(by (try dsimp only); omega), by (try dsimp only); rw [List.length_set]; exact hbl, fun x hm => (List.mem_or_eq_of_mem_set hm).elim (hb x) .inl⟩ (by (try dsimp only); omega) ⟨rfl, rfl, rfl, rfl, rfl, rfl, trivial⟩ tk
    subst hbl
    rw [← hll]
    have okL : okB' ⟨some ⟨bl, 0, none⟩, l.length, l, 4, 0, 0, 0⟩ := ⟨by dsimp only; omega, fun i hi => by
      rcases hx i hi with rfl | rfl
      · exact ⟨okC0, by decide⟩
      · exact ⟨ok0 0, by decide⟩⟩
    have xsL : ∀ i ∈ l, i.xs = [] := fun i hi => by rcases hx i hi with rfl | rfl <;> rfl
    have insW : ∀ b ∈ bs, b.ins = [] := fun b hm => by rcases hb b hm with rfl | rfl <;> rfl
    have tW : TOK bs := tokOf (by omega) fun b hm => by
      rcases hb b hm with rfl | rfl
      · exact okB0 _ _ _ _
      · exact okB0 _ _ _ _
    have szL : (sizeT [(⟨some ⟨bl, 0, none⟩, l.length, l, 4, 0, 0, 0⟩ : BlkD)] : Int) = (bs.length : Int) + 3801 := by simp [sizeT, sumI]; omega
    refine s_exit rfl ?_
    refine s_seq ?_
    refine s_region ?_
    refine s_q (by (first | exact y_ldN rfl rfl rfl (by rfl) | exact y_ld rfl rfl rfl (by rfl) | exact y_ldN rfl rfl rfl (by rfl) | exact y_ldK rfl rfl rfl rfl (by assumption) (by omega) | exact y_ldI rfl rfl rfl rfl (by assumption) (by omega) (by omega))) rfl ?_
    refine s_bslice rfl rfl rfl rfl rfl rfl rfl rfl (fun y2 => ?_)
    change J _ _ _ (cb y2 42 ([(⟨some ⟨bl, 0, none⟩, l.length, l, 4, 0, 0, 0⟩ : BlkD)].flatMap encBlk) :: _) _
    refine s_q (y_build rfl rfl rfl rfl) rfl ?_
    refine s_alloc rfl rfl (fun b18 => ?_)
    first | (refine s_storeW rfl rfl rfl rfl rfl (by rfl) ?_) | (refine s_storeN rfl rfl rfl rfl rfl (by rfl) ?_)
    change J _ _ _ (cb b18 27 [.int .i64 0, .slice (some ⟨y2, 0, none⟩) 1 1] :: _) _
    have kb : ∀ {base w : World} {M N : Nat → Prop} {L : List HP}, (∀ w', Since w N w' → Sat base M L w') → cb y2 42 ([(⟨some ⟨bl, 0, none⟩, l.length, l, 4, 0, 0, 0⟩ : BlkD)].flatMap encBlk) ∈ L → Sl 30 8 (some ⟨bl, 0, none⟩) l.length l.length (l.flatMap encIns) ∈ L → KB w N (some ⟨y2, 0, none⟩) [⟨some ⟨bl, 0, none⟩, l.length, l, 4, 0, 0, 0⟩] := fun hl m1 m2 => kb1 (keOfC (fun _ => rfl) hl m1) (keOfS (fun _ => rfl) (by omega) hl m2) (fun i hi => by rw [xsL i hi]; exact nilI)
    refine s_done ?_
    refine s_seq ?_
    refine d_start ?_
    refine d_take 0 rfl (by kernel_rfl) (by (first | exact y_ldN rfl rfl rfl (by rfl) | exact y_ld rfl rfl rfl (by rfl) | exact y_ldN rfl rfl rfl (by rfl) | exact y_ldK rfl rfl rfl rfl (by assumption) (by omega) | exact y_ldI rfl rfl rfl rfl (by assumption) (by omega) (by omega))) rfl ?_
    refine d_take 1 rfl (by kernel_rfl) (by exact y_move rfl) rfl ?_
    refine d_take 2 rfl (by kernel_rfl) (by exact y_build rfl rfl rfl rfl) rfl ?_
    refine d_effM 3 [2, 1, 0] [false, true, false] rfl (by kernel_rfl) rfl (by kernel_rfl) (fun K hK => ?_)
    refine s_call (pre := []) (rem := _) rfl rfl tk (fun w N ho hl => MirTells_spec w N m3 (some ⟨ya, 0, none⟩) (some ⟨yb, 0, none⟩) (some ⟨bw, 0, none⟩) 2 1 bs.length 0 bs ho (kiOfC hl (by repeat (first | exact List.mem_cons_self | refine List.mem_cons_of_mem _ ?_))) (kiOfC hl (by repeat (first | exact List.mem_cons_self | refine List.mem_cons_of_mem _ ?_))) (by decide) (by decide) (by decide) (kbOf (keOfS (fun _ => rfl) (by omega) hl (by repeat (first | exact List.mem_cons_self | refine List.mem_cons_of_mem _ ?_))) (fun b hm => by rw [insW b hm]; exact ⟨nilE, nilM⟩)) tW i64_0) rfl ?_
    rintro e L' ⟨rfl, rfl⟩
    try simp only [List.nil_append, List.cons_append, List.append_nil]
    refine s_done ?_
    refine hK _ _ (by refine rm_skip ?_; refine rm_yd rfl (by exact y_move rfl) ?_; refine rm_skip ?_; exact rm_nil) ?_
    clear hK K
    refine d_take 4 rfl (by kernel_rfl) (by (first | exact y_notT rfl | exact y_notF rfl | exact y_notp rfl | exact y_notb rfl)) rfl ?_
    refine d_take 5 rfl (by kernel_rfl) (by exact y_move rfl) rfl ?_
    refine d_takeG 6 rfl (by kernel_rfl) rfl rfl (by (first | exact y_ldN rfl rfl rfl (by rfl) | exact y_ld rfl rfl rfl (by rfl) | exact y_ldN rfl rfl rfl (by rfl) | exact y_ldK rfl rfl rfl rfl (by assumption) (by omega) | exact y_ldI rfl rfl rfl rfl (by assumption) (by omega) (by omega))) rfl ?_
    refine d_takeG 7 rfl (by kernel_rfl) rfl rfl (by (first | exact y_ldN rfl rfl rfl (by rfl) | exact y_ld rfl rfl rfl (by rfl) | exact y_ldN rfl rfl rfl (by rfl) | exact y_ldK rfl rfl rfl rfl (by assumption) (by omega) | exact y_ldI rfl rfl rfl rfl (by assumption) (by omega) (by omega))) rfl ?_
    refine d_takeG 9 rfl (by kernel_rfl) rfl rfl (by (first | exact y_ldN rfl rfl rfl (by rfl) | exact y_ld rfl rfl rfl (by rfl) | exact y_ldN rfl rfl rfl (by rfl) | exact y_ldK rfl rfl rfl rfl (by assumption) (by omega) | exact y_ldI rfl rfl rfl rfl (by assumption) (by omega) (by omega))) rfl ?_
    refine d_takeG 10 rfl (by kernel_rfl) rfl rfl (by (first | exact y_ldN rfl rfl rfl (by rfl) | exact y_ld rfl rfl rfl (by rfl) | exact y_ldN rfl rfl rfl (by rfl) | exact y_ldK rfl rfl rfl rfl (by assumption) (by omega) | exact y_ldI rfl rfl rfl rfl (by assumption) (by omega) (by omega))) rfl ?_
    refine d_effM 8 [10, 9, 7, 6, 5, 4, 1] [true, true, false, false, false, true, true] rfl (by kernel_rfl) rfl (by kernel_rfl) (fun K hK => ?_)
    refine s_guard rfl rfl ?_
    refine s_call (pre := []) (rem := _) rfl rfl tk (fun w N ho hl => Right_spec w N m3 (some ⟨ya, 0, none⟩) (some ⟨yb, 0, none⟩) (some ⟨y2, 0, none⟩) 2 1 1 0 [⟨some ⟨bl, 0, none⟩, l.length, l, 4, 0, 0, 0⟩] ho (kiOfC hl (by repeat (first | exact List.mem_cons_self | refine List.mem_cons_of_mem _ ?_))) (kiOfC hl (by repeat (first | exact List.mem_cons_self | refine List.mem_cons_of_mem _ ?_))) (by decide) (by decide) (kb hl (by repeat (first | exact List.mem_cons_self | refine List.mem_cons_of_mem _ ?_)) (by repeat (first | exact List.mem_cons_self | refine List.mem_cons_of_mem _ ?_))) (tok1 okL) i64_0) rfl ?_
    rintro e L' ⟨rfl, rfl⟩
    try simp only [List.nil_append, List.cons_append, List.append_nil]
    refine s_done ?_
    refine hK _ _ (by refine rm_yd rfl (by (first | exact y_ldN rfl rfl rfl (by rfl) | exact y_ld rfl rfl rfl (by rfl) | exact y_ldN rfl rfl rfl (by rfl) | exact y_ldK rfl rfl rfl rfl (by assumption) (by omega) | exact y_ldI rfl rfl rfl rfl (by assumption) (by omega) (by omega))) ?_; refine rm_yd rfl (by (first | exact y_ldN rfl rfl rfl (by rfl) | exact y_ld rfl rfl rfl (by rfl) | exact y_ldN rfl rfl rfl (by rfl) | exact y_ldK rfl rfl rfl rfl (by assumption) (by omega) | exact y_ldI rfl rfl rfl rfl (by assumption) (by omega) (by omega))) ?_; refine rm_skip ?_; refine rm_skip ?_; refine rm_skip ?_; refine rm_yd rfl (by (first | exact y_notT rfl | exact y_notF rfl | exact y_notp rfl | exact y_notb rfl)) ?_; refine rm_yd rfl (by exact y_move rfl) ?_; exact rm_nil) ?_
    clear hK K
    refine d_effM 11 [10, 9, 4, 1] [false, false, true, true] rfl (by kernel_rfl) rfl (by kernel_rfl) (fun K hK => ?_)
    refine s_guard rfl rfl ?_
    refine s_call (pre := []) (rem := _) rfl rfl tk (fun w N ho hl => refRight_spec w N m3 (some ⟨ya, 0, none⟩) (some ⟨yb, 0, none⟩) (some ⟨y2, 0, none⟩) 2 1 1 0 [⟨some ⟨bl, 0, none⟩, l.length, l, 4, 0, 0, 0⟩] ho (kiOfC hl (by repeat (first | exact List.mem_cons_self | refine List.mem_cons_of_mem _ ?_))) (kiOfC hl (by repeat (first | exact List.mem_cons_self | refine List.mem_cons_of_mem _ ?_))) (by decide) (by decide) (by decide) (kb hl (by repeat (first | exact List.mem_cons_self | refine List.mem_cons_of_mem _ ?_)) (by repeat (first | exact List.mem_cons_self | refine List.mem_cons_of_mem _ ?_))) (by simp) (fun b hm => by rw [List.mem_singleton.1 hm]; dsimp only; omega) (fun b hm i hi => by rw [List.mem_singleton.1 hm] at hi; rw [xsL i hi]; decide)) rfl ?_
    rintro e L' ⟨rfl, rfl⟩
    try simp only [List.nil_append, List.cons_append, List.append_nil]
    refine s_done ?_
    refine hK _ _ (by refine rm_skip ?_; refine rm_skip ?_; refine rm_yd rfl (by (first | exact y_notT rfl | exact y_notF rfl | exact y_notp rfl | exact y_notb rfl)) ?_; refine rm_yd rfl (by exact y_move rfl) ?_; exact rm_nil) ?_
    clear hK K
    refine d_takeG 12 rfl (by kernel_rfl) rfl rfl (by (first | exact y_as (y_neq rfl rfl) (congrArg Value.bool (decide_eq_false (fun h => h rfl))) | exact y_as (y_neq rfl rfl) (congrArg Value.bool (decide_eq_false (fun h => h szL))) | exact y_neq rfl rfl | exact y_neqB rfl rfl rfl)) rfl ?_
    refine d_take 13 rfl (by kernel_rfl) (by (first | exact y_pickT rfl rfl | exact y_pickF rfl rfl)) rfl ?_
    refine d_take 14 rfl (by kernel_rfl) (by exact y_move rfl) rfl ?_
    refine d_takeG 15 rfl (by kernel_rfl) rfl rfl (by (first | exact y_ldN rfl rfl rfl (by rfl) | exact y_ld rfl rfl rfl (by rfl) | exact y_ldN rfl rfl rfl (by rfl) | exact y_ldK rfl rfl rfl rfl (by assumption) (by omega) | exact y_ldI rfl rfl rfl rfl (by assumption) (by omega) (by omega))) rfl ?_
    refine d_takeG 17 rfl (by kernel_rfl) rfl rfl (by exact y_move rfl) rfl ?_
    refine d_takeG 18 rfl (by kernel_rfl) rfl rfl (by exact y_add rfl rfl (by omega)) rfl ?_
    refine d_effM 16 [18, 17, 15, 14, 13, 12, 4, 1] [true, true, false, false, true, true, true, true] rfl (by kernel_rfl) rfl (by kernel_rfl) (fun K hK => ?_)
    refine s_guard rfl rfl ?_
    refine s_call (pre := []) (rem := _) rfl rfl tk (fun w N ho hl => Size_spec w N (some ⟨y2, 0, none⟩) 1 0 [⟨some ⟨bl, 0, none⟩, l.length, l, 4, 0, 0, 0⟩] ho (kb hl (by repeat (first | exact List.mem_cons_self | refine List.mem_cons_of_mem _ ?_)) (by repeat (first | exact List.mem_cons_self | refine List.mem_cons_of_mem _ ?_))) (by simp) (fun b hm => by rw [List.mem_singleton.1 hm]; dsimp only; omega)) rfl ?_
    rintro e L' ⟨rfl, rfl⟩
    try simp only [List.nil_append, List.cons_append, List.append_nil]
    refine s_done ?_
    refine hK _ _ (by refine rm_yd rfl (by exact y_add rfl rfl (by omega)) ?_; refine rm_yd rfl (by exact y_move rfl) ?_; refine rm_skip ?_; refine rm_skip ?_; refine rm_yd rfl (by (first | exact y_pickT rfl rfl | exact y_pickF rfl rfl)) ?_; refine rm_yd rfl (by (first | exact y_as (y_neq rfl rfl) (congrArg Value.bool (decide_eq_false (fun h => h rfl))) | exact y_as (y_neq rfl rfl) (congrArg Value.bool (decide_eq_false (fun h => h szL))) | exact y_neq rfl rfl | exact y_neqB rfl rfl rfl)) ?_; refine rm_yd rfl (by (first | exact y_notT rfl | exact y_notF rfl | exact y_notp rfl | exact y_notb rfl)) ?_; refine rm_yd rfl (by exact y_move rfl) ?_; exact rm_nil) ?_
    clear hK K
    refine d_takeG 19 rfl (by kernel_rfl) rfl rfl (by (first | exact y_as (y_neq rfl rfl) (congrArg Value.bool (decide_eq_false (fun h => h rfl))) | exact y_as (y_neq rfl rfl) (congrArg Value.bool (decide_eq_false (fun h => h szL))) | exact y_neq rfl rfl | exact y_neqB rfl rfl rfl)) rfl ?_
    refine d_take 20 rfl (by kernel_rfl) (by (first | exact y_pickT rfl rfl | exact y_pickF rfl rfl)) rfl ?_
    refine d_done (by kernel_rfl) ?_
    refine s_condF2 rfl (by with_reducible rfl) ?_
    refine s_skip ?_
    refine s_endb ?_
    refine s_region ?_
    refine s_q (y_move rfl) rfl ?_
    refine s_q (y_add rfl rfl (by omega)) rfl ?_
    refine s_q (y_assign rfl) rfl ?_
    refine s_done ?_
    refine s_inv (bs.length + 1) ⟨(by (try dsimp only); omega), (by (try dsimp only); omega)⟩ (by (try dsimp only); omega) ⟨rfl, rfl, rfl, trivial⟩ tk
  have t0 : TOK ([] : List BlkD) := tokOf (by decide) fun b hm => absurd hm List.not_mem_nil
  have k0 : ∀ {w : World} {N : Nat → Prop}, KB w N none [] := kbOf (fun w hw i hi => absurd hi (Nat.not_lt_zero i)) fun b hm => absurd hm List.not_mem_nil
  refine s_exit rfl ?_
  refine s_seq ?_
  refine s_region ?_
  refine s_q (y_build rfl rfl rfl rfl) rfl ?_
  refine s_q (y_build rfl rfl rfl rfl) rfl ?_
  refine s_call (pre := []) (rem := _) rfl rfl tk (fun w N ho hl => MirTells_spec w N ⟨0, [], 0, []⟩ none none none 0 0 0 0 [] ho nilI nilI (by decide) (by decide) (by decide) k0 t0 i64_0) rfl ?_
  rintro e L' ⟨rfl, rfl⟩
  try simp only [List.nil_append, List.cons_append, List.append_nil]
  refine s_q (y_move rfl) rfl ?_
  refine s_guard2 rfl rfl (by with_reducible rfl) ?_
  refine s_q (by (first | exact y_ldN rfl rfl rfl (by rfl) | exact y_ld rfl rfl rfl (by rfl) | exact y_ldN rfl rfl rfl (by rfl) | exact y_ldK rfl rfl rfl rfl (by assumption) (by omega) | exact y_ldI rfl rfl rfl rfl (by assumption) (by omega) (by omega))) rfl ?_
  refine s_guard2 rfl rfl (by with_reducible rfl) ?_
  refine s_q (y_build rfl rfl rfl rfl) rfl ?_
  refine s_guard2 rfl rfl (by with_reducible rfl) ?_
  refine s_call (pre := []) (rem := _) rfl rfl tk (fun w N ho hl => MirTells_spec w N m3 (some ⟨ya, 0, none⟩) (some ⟨yb, 0, none⟩) none 2 1 0 0 [] ho (kiOfC hl (by repeat (first | exact List.mem_cons_self | refine List.mem_cons_of_mem _ ?_))) (kiOfC hl (by repeat (first | exact List.mem_cons_self | refine List.mem_cons_of_mem _ ?_))) (by decide) (by decide) (by decide) k0 t0 i64_0) rfl ?_
  rintro e L' ⟨rfl, rfl⟩
  try simp only [List.nil_append, List.cons_append, List.append_nil]
  refine s_q (by (first | exact y_pickT rfl rfl | exact y_pickF rfl rfl)) rfl ?_
  refine s_q (y_move rfl) rfl ?_
  refine s_guard2 rfl rfl (by with_reducible rfl) ?_
  refine s_call (pre := []) (rem := _) rfl rfl tk (fun w N ho hl => awake_spec w N ho) rfl ?_
  rintro e L' ⟨rfl, rfl⟩
  try simp only [List.nil_append, List.cons_append, List.append_nil]
  refine s_q (by (first | exact y_pickT rfl rfl | exact y_pickF rfl rfl)) rfl ?_
  refine s_q (y_assign rfl) rfl ?_
  refine s_done ?_
  exact s_return ⟨rfl, rfl⟩ (res_tmp Try.results6 rfl)
end Go.Proofs.Ytgpebcfeeagoaaa
