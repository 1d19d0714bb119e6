/- Layer 6 (mir): how many numbers a target, a machine has; which one of many. -/
import Derived.Test.YtgpebcfeeagoaaaMirG
import Derived.Test.YtgpebcfeeagoaaaEEc
import Derived.Test.YtgpebcfeeagoaaaEEb
set_option linter.unusedVariables false
set_option linter.unusedSimpArgs false
namespace Go.Proofs.Ytgpebcfeeagoaaa
open Go Go.E
set_option maxRecDepth 4000
set_option maxHeartbeats 1000000
theorem MachineOf_spec (w : World) (N : Nat → Prop) (A B : Option Addr) (c d : Nat) (m : MV) (ho : Owns w [] N) (hla : m.args.length < 100000000000000) (hls : m.saved.length < 100000000000000) :
    Ret Try.prog 10 [.agg (mval m A c B d).toArray] w N fun v L => v = .int .i64 ((m.args.length : Int) + m.saved.length) ∧ L = [] := by
  refine ret_of_J cx Try.func10 rfl (Nat.le_of_ble_eq_true rfl) ho ?_
  refine s_seq ?_
  refine s_region ?_
  first | (refine s_box1 rfl rfl rfl (fun b => ?_)) | (refine s_boxA rfl rfl (fun b => ?_))
  refine s_q (y_assign rfl) rfl ?_
  refine s_done ?_
  refine s_seq ?_
  refine s_region ?_
  refine s_q (by (first | exact y_fieldAddrB rfl rfl rfl rfl rfl rfl | exact y_fieldAddr rfl rfl rfl rfl rfl rfl)) rfl ?_
  refine s_q (by (first | exact y_ld rfl rfl rfl (by rfl) | exact y_ldN rfl rfl rfl (by rfl) | exact y_ldK rfl rfl rfl rfl (by assumption) (by omega) | exact y_ldI rfl rfl rfl rfl (by assumption) (by omega) (by omega))) rfl ?_
  refine s_q (y_lenS rfl rfl rfl) rfl ?_
  refine s_q (by (first | exact y_fieldAddrB rfl rfl rfl rfl rfl rfl | exact y_fieldAddr rfl rfl rfl rfl rfl rfl)) rfl ?_
  refine s_q (by (first | exact y_ld rfl rfl rfl (by rfl) | exact y_ldN rfl rfl rfl (by rfl) | exact y_ldK rfl rfl rfl rfl (by assumption) (by omega) | exact y_ldI rfl rfl rfl rfl (by assumption) (by omega) (by omega))) rfl ?_
  refine s_q (y_lenS rfl rfl rfl) rfl ?_
  refine s_q (y_add rfl rfl (by omega)) rfl ?_
  refine s_q (y_assign rfl) rfl ?_
  refine s_done ?_
  exact s_return ⟨rfl, rfl⟩ (res_tmp Try.results10 rfl)
/-- What the count of a target tells. -/
def Counted (bs : List BlkD) (i : Nat) (n : Int) : Prop := n ≤ 1500 → (i : Int) ≤ n ∧ ∀ k, k < i → ((bs.getD k .no).ins.length : Int) ≤ n ∧ ∀ x ∈ (bs.getD k .no).ins, (x.xs.length : Int) ≤ n
def cntI : List InsD → Int → Int
  | [], n => n
  | i :: r, n => if n ≤ 1500 then cntI r (n + i.xs.length) else n
def cntB : List BlkD → Int → Int
  | [], n => n
  | b :: r, n => if n ≤ 1500 then cntB r (cntI b.ins (n + 1 + b.ins.length)) else n
theorem BlocksOf_spec (w : World) (N : Nat → Prop) (T : Option Addr) (q : Nat) (bs : List BlkD) (ho : Owns w [] N) (hb : KB w N T bs) (ht : TOK bs) :
    Ret Try.prog 33 [.slice T bs.length q, .int .i64 1500] w N fun v L => 0 ≤ cntB bs 0 ∧ cntB bs 0 ≤ 200000000000000 ∧ Counted bs bs.length (cntB bs 0) ∧ v = .int .i64 (cntB bs 0) ∧ L = [] := by
  have hlen := ht.len
  refine ret_of_J cx Try.func33 rfl (Nat.le_of_ble_eq_true rfl) ho ?_
  refine s_seq ?_
  refine s_region ?_
  refine s_q (y_assign rfl) rfl ?_
  refine s_done ?_
  refine s_seq ?_
  refine s_region ?_
  refine s_q (y_assign rfl) rfl ?_
  refine s_done ?_
  refine s_seq ?_
  refine s_seq ?_
  refine s_region ?_
  refine s_q (y_assign rfl) rfl ?_
  refine s_done ?_
  refine s_block ?_
  refine s_loopV (σ := Nat × Int) (fun s => [(6, .int .i64 s.1), (5, .int .i64 s.2)]) (fun s => []) (fun s => (s.1 ≤ bs.length) ∧ (0 ≤ s.2) ∧ (s.2 ≤ 200000000000000) ∧ (Counted bs s.1 s.2) ∧ (cntB (bs.drop s.1) s.2 = cntB bs 0)) (fun s => bs.length - s.1) (0, 0) [(0, _), (1, _)] ⟨rfl, rfl, trivial⟩ ⟨rfl, rfl, trivial⟩ tk ⟨Nat.zero_le _, Int.le_refl _, (by (try dsimp only); omega), fun _ => ⟨Int.le_refl _, fun k hk => absurd hk (Nat.not_lt_zero k)⟩, rfl⟩ ?_
  rintro ⟨i, n⟩ ⟨hi, h0, hn, hc, hf⟩
  try dsimp only [List.cons_append, List.nil_append, List.append_nil] at hi h0 hn hc hf ⊢
  refine s_seq ?_
  refine s_seq ?_
  refine s_region ?_
  refine s_q (y_move rfl) rfl ?_
  refine s_q (y_move rfl) rfl ?_
  refine s_q (y_lenS rfl rfl rfl) rfl ?_
  refine s_q (y_lss rfl rfl) rfl ?_
  refine s_q (y_move rfl) rfl ?_
  refine s_gsplit rfl rfl (fun h => ?_) (fun h => ?_)
  · refine s_guard2 rfl rfl (by with_reducible rfl) ?_
    refine s_q (y_move rfl) rfl ?_
    refine s_guard2 rfl rfl (by with_reducible rfl) ?_
    refine s_q (y_move rfl) rfl ?_
    refine s_guard2 rfl rfl (by with_reducible rfl) ?_
    refine s_q (y_leq rfl rfl) rfl ?_
    refine s_q (by (first | exact y_pickT rfl rfl | exact y_pickF rfl rfl)) rfl ?_
    refine s_done ?_
    refine s_cond rfl (fun h2 => ?_) (fun h2 => ?_)
    · have hil : i < bs.length := by omega
      obtain ⟨b, hbk⟩ : ∃ b, bs.getD i .no = b := ⟨_, rfl⟩
      have hmem := getD_mem BlkD.no hil
      rw [hbk] at hmem
      have hin := hb.ins b hmem
      have hins := ht.ins b hmem
      have hc1 := hc h2
      rw [drop_D .no bs i hil, hbk, cntB, if_pos h2] at hf
      have hld : ∀ (fr : Fr Try.prog) (v : Value), (encBlk (bs.getD i .no))[0]? = some v ↔ v = .slice b.A b.ins.length b.c := fun _ v => by rw [hbk]; exact ⟨fun x => (Option.some.inj x).symm, fun x => by rw [x]; rfl⟩
      refine s_skip ?_
      refine s_seq ?_
      refine s_block ?_
      refine s_seq ?_
      refine s_region ?_
      refine s_q (y_move rfl) rfl ?_
      refine s_q (y_add rfl rfl (by omega)) rfl ?_
      refine s_q (y_move rfl) rfl ?_
      refine s_q (y_move rfl) rfl ?_
      refine s_q (by (first | exact y_ixE hb.blk rfl rfl rfl rfl rfl rfl (by omega) (by omega) | exact y_ixI rfl rfl rfl rfl rfl (by assumption) rfl (by omega) (by omega))) rfl ?_
      refine s_q (by (first | exact y_fieldAddrB rfl rfl rfl rfl rfl rfl | exact y_fieldAddr rfl rfl rfl rfl rfl rfl)) rfl ?_
      refine s_q (by (first | exact y_ldF (v := .slice b.A b.ins.length b.c) hb.blk rfl rfl rfl (by omega) (by rw [hbk]; rfl) | exact y_ld rfl rfl rfl (by rfl) | exact y_ldN rfl rfl rfl (by rfl) | exact y_ldK rfl rfl rfl rfl (by assumption) (by omega) | exact y_ldI rfl rfl rfl rfl (by assumption) (by omega) (by omega))) rfl ?_
      refine s_q (y_lenS rfl rfl rfl) rfl ?_
      refine s_q (y_add rfl rfl (by omega)) rfl ?_
      refine s_q (y_assign rfl) rfl ?_
      refine s_done ?_
      refine s_seq ?_
      refine s_region ?_
      refine s_q (y_assign rfl) rfl ?_
      refine s_done ?_
      refine s_block ?_
      refine s_loopV (σ := Nat × Int) (fun s => [(7, .int .i64 s.1), (5, .int .i64 s.2)]) (fun s => []) (fun s => (s.1 ≤ b.ins.length) ∧ (0 ≤ s.2) ∧ (s.2 ≤ 200000000000000) ∧ (Counted bs i s.2) ∧ (s.2 ≤ 1500 → (i : Int) + 1 ≤ s.2 ∧ (b.ins.length : Int) ≤ s.2 ∧ ∀ k, k < s.1 → ((b.ins.getD k .no).xs.length : Int) ≤ s.2) ∧ (cntB (bs.drop (i + 1)) (cntI (b.ins.drop s.1) s.2) = cntB bs 0)) (fun s => b.ins.length - s.1) (0, n + 1 + b.ins.length) [(0, _), (1, _), (6, _)] ⟨rfl, rfl, rfl, trivial⟩ ⟨rfl, rfl, trivial⟩ tk ⟨Nat.zero_le _, (by (try dsimp only); omega), (by (try dsimp only); omega), fun h => ⟨by dsimp only at h ⊢; omega, fun k hk => ⟨by have := (hc1.2 k hk).1; dsimp only at h ⊢; omega, fun x hx => by have := (hc1.2 k hk).2 x hx; dsimp only at h ⊢; omega⟩⟩, fun h => ⟨by dsimp only at h ⊢; omega, by dsimp only at h ⊢; omega, fun k hk => absurd hk (Nat.not_lt_zero k)⟩, hf⟩ ?_
      rintro ⟨j, n⟩ ⟨hj, h0, hn, hc, hd, hf⟩
      try dsimp only [List.cons_append, List.nil_append, List.append_nil] at hj h0 hn hc hd hf ⊢
      refine s_seq ?_
      refine s_seq ?_
      refine s_region ?_
      refine s_q (y_move rfl) rfl ?_
      refine s_q (y_move rfl) rfl ?_
      refine s_q (y_move rfl) rfl ?_
      refine s_q (by (first | exact y_ixE hb.blk rfl rfl rfl rfl rfl rfl (by omega) (by omega) | exact y_ixI rfl rfl rfl rfl rfl (by assumption) rfl (by omega) (by omega))) rfl ?_
      refine s_q (by (first | exact y_fieldAddrB rfl rfl rfl rfl rfl rfl | exact y_fieldAddr rfl rfl rfl rfl rfl rfl)) rfl ?_
      refine s_q (by (first | exact y_ldF (v := .slice b.A b.ins.length b.c) hb.blk rfl rfl rfl (by omega) (by rw [hbk]; rfl) | exact y_ld rfl rfl rfl (by rfl) | exact y_ldN rfl rfl rfl (by rfl) | exact y_ldK rfl rfl rfl rfl (by assumption) (by omega) | exact y_ldI rfl rfl rfl rfl (by assumption) (by omega) (by omega))) rfl ?_
      refine s_q (y_lenS rfl rfl rfl) rfl ?_
      refine s_q (y_lss rfl rfl) rfl ?_
      refine s_q (y_move rfl) rfl ?_
      have fin : ∀ (h5 : ¬ ((j : Int) < b.ins.length) ∨ ¬ n ≤ 1500), Counted bs (i + 1) n := fun h5 hle => by
        rcases h5 with h5 | h5
        · have hjl : j = b.ins.length := by omega
          have d1 := hd hle
          have c1 := hc hle
          refine ⟨by have := d1.1; omega, fun k hk => ?_⟩
          by_cases e : k = i
          · subst e
            rw [hbk]
            refine ⟨d1.2.1, fun x hx => ?_⟩
            obtain ⟨k, hk, rfl⟩ := List.mem_iff_getElem.1 hx
            have := d1.2.2 k (by omega)
            rwa [List.getD_eq_getElem?_getD, List.getElem?_eq_getElem hk] at this
          · exact c1.2 k (by omega)
        · exact absurd hle h5
      refine s_gsplit rfl rfl (fun h3 => ?_) (fun h3 => ?_)
      · refine s_guard2 rfl rfl (by with_reducible rfl) ?_
        refine s_q (y_move rfl) rfl ?_
        refine s_guard2 rfl rfl (by with_reducible rfl) ?_
        refine s_q (y_move rfl) rfl ?_
        refine s_guard2 rfl rfl (by with_reducible rfl) ?_
        refine s_q (y_leq rfl rfl) rfl ?_
        refine s_q (by (first | exact y_pickT rfl rfl | exact y_pickF rfl rfl)) rfl ?_
        refine s_done ?_
        refine s_cond rfl (fun h4 => ?_) (fun h4 => ?_)
        · have hjl : j < b.ins.length := by omega
          have hxl := ht.args b hmem _ (getD_mem InsD.no hjl)
          refine s_skip ?_
          refine s_seq ?_
          refine s_block ?_
          refine s_region ?_
          refine s_q (y_move rfl) rfl ?_
          refine s_q (y_move rfl) rfl ?_
          refine s_q (y_move rfl) rfl ?_
          refine s_q (by (first | exact y_ixE hb.blk rfl rfl rfl rfl rfl rfl (by omega) (by omega) | exact y_ixE hin rfl rfl rfl rfl rfl rfl (by omega) (by omega) | exact y_ixI rfl rfl rfl rfl rfl (by assumption) rfl (by omega) (by omega))) rfl ?_
          refine s_q (by (first | exact y_fieldAddrB rfl rfl rfl rfl rfl rfl | exact y_fieldAddr rfl rfl rfl rfl rfl rfl)) rfl ?_
          refine s_q (by (first | exact y_ldF (v := .slice b.A b.ins.length b.c) hb.blk rfl rfl rfl (by omega) (by rw [hbk]; rfl) | exact y_ldF hin rfl rfl rfl (by omega) rfl | exact y_ld rfl rfl rfl (by rfl) | exact y_ldN rfl rfl rfl (by rfl) | exact y_ldK rfl rfl rfl rfl (by assumption) (by omega) | exact y_ldI rfl rfl rfl rfl (by assumption) (by omega) (by omega))) rfl ?_
          refine s_q (y_move rfl) rfl ?_
          refine s_q (by (first | exact y_ixE hb.blk rfl rfl rfl rfl rfl rfl (by omega) (by omega) | exact y_ixE hin rfl rfl rfl rfl rfl rfl (by omega) (by omega) | exact y_ixI rfl rfl rfl rfl rfl (by assumption) rfl (by omega) (by omega))) rfl ?_
          refine s_q (by (first | exact y_fieldAddrB rfl rfl rfl rfl rfl rfl | exact y_fieldAddr rfl rfl rfl rfl rfl rfl)) rfl ?_
          refine s_q (by (first | exact y_ldF (v := .slice b.A b.ins.length b.c) hb.blk rfl rfl rfl (by omega) (by rw [hbk]; rfl) | exact y_ldF hin rfl rfl rfl (by omega) rfl | exact y_ld rfl rfl rfl (by rfl) | exact y_ldN rfl rfl rfl (by rfl) | exact y_ldK rfl rfl rfl rfl (by assumption) (by omega) | exact y_ldI rfl rfl rfl rfl (by assumption) (by omega) (by omega))) rfl ?_
          refine s_q (y_lenS rfl rfl rfl) rfl ?_
          refine s_q (y_add rfl rfl (by omega)) rfl ?_
          refine s_q (y_assign rfl) rfl ?_
          refine s_done ?_
          refine s_endb ?_
          refine s_region ?_
          refine s_q (y_move rfl) rfl ?_
          refine s_q (y_add rfl rfl (by omega)) rfl ?_
          refine s_q (y_assign rfl) rfl ?_
          refine s_done ?_
          have d1 := hd h4
          have c1 := hc h4
          rw [drop_D .no b.ins j hjl, cntI, if_pos h4] at hf
          refine s_inv (j + 1, n + ((b.ins.getD j .no).xs.length : Int)) ⟨(by (try dsimp only); omega), by dsimp only; omega, by dsimp only; omega, fun h => ⟨by dsimp only; omega, fun k hk => ⟨by have := (c1.2 k hk).1; dsimp only; omega, fun x hx => by have := (c1.2 k hk).2 x hx; dsimp only; omega⟩⟩, fun h => ⟨by dsimp only; omega, by dsimp only; omega, fun k hk => ?_⟩, hf⟩ (by (try dsimp only); omega) ⟨rfl, rfl, rfl, rfl, rfl, trivial⟩ tk
          dsimp only at hk ⊢
          by_cases e : k = j
          · subst e; omega
          · have := d1.2.2 k (by omega); omega
        · have hjl : j < b.ins.length := by omega
          rw [drop_D .no b.ins j hjl, cntI, if_neg h4] at hf
          refine s_exit rfl ?_
          refine s_endb ?_
          refine s_region ?_
          refine s_q (y_move rfl) rfl ?_
          refine s_q (y_add rfl rfl (by omega)) rfl ?_
          refine s_q (y_assign rfl) rfl ?_
          refine s_done ?_
          refine s_inv (i + 1, n) ⟨(by (try dsimp only); omega), h0, hn, fin (.inr h4), hf⟩ (by (try dsimp only); omega) ⟨rfl, rfl, rfl, rfl, trivial⟩ tk
      · rw [List.drop_of_length_le (l := b.ins) (i := j) (by omega), cntI] at hf
        refine s_unguard2 (b := false) rfl rfl (by with_reducible rfl) rfl rfl ?_
        refine s_unguard2 (b := false) rfl rfl (by with_reducible rfl) rfl rfl ?_
        refine s_unguard2 (b := false) rfl rfl (by with_reducible rfl) rfl rfl ?_
        refine s_q (by (first | exact y_pickT rfl rfl | exact y_pickF rfl rfl)) rfl ?_
        refine s_done ?_
        refine s_condF2 rfl (by with_reducible rfl) ?_
        refine s_exit rfl ?_
        refine s_endb ?_
        refine s_region ?_
        refine s_q (y_move rfl) rfl ?_
        refine s_q (y_add rfl rfl (by omega)) rfl ?_
        refine s_q (y_assign rfl) rfl ?_
        refine s_done ?_
        refine s_inv (i + 1, n) ⟨(by (try dsimp only); omega), h0, hn, fin (.inl h3), hf⟩ (by (try dsimp only); omega) ⟨rfl, rfl, rfl, rfl, trivial⟩ tk
    · have hil : i < bs.length := by omega
      rw [drop_D .no bs i hil, cntB, if_neg h2] at hf
      subst hf
      refine s_exit rfl ?_
      refine s_seq ?_
      refine s_region ?_
      refine s_q (y_move rfl) rfl ?_
      refine s_q (y_assign rfl) rfl ?_
      refine s_done ?_
      exact s_return ⟨h0, hn, fun h => absurd h h2, rfl, rfl⟩ (res_tmp Try.results33 rfl)
  · refine s_unguard2 (b := false) rfl rfl (by with_reducible rfl) rfl rfl ?_
    refine s_unguard2 (b := false) rfl rfl (by with_reducible rfl) rfl rfl ?_
    refine s_unguard2 (b := false) rfl rfl (by with_reducible rfl) rfl rfl ?_
    refine s_q (by (first | exact y_pickT rfl rfl | exact y_pickF rfl rfl)) rfl ?_
    refine s_done ?_
    refine s_condF2 rfl (by with_reducible rfl) ?_
    refine s_exit rfl ?_
    refine s_seq ?_
    refine s_region ?_
    refine s_q (y_move rfl) rfl ?_
    refine s_q (y_assign rfl) rfl ?_
    refine s_done ?_
    have hil : i = bs.length := by omega
    subst hil
    rw [List.drop_length, cntB] at hf
    subst hf
    exact s_return ⟨h0, hn, hc, rfl, rfl⟩ (res_tmp Try.results33 rfl)
theorem TargetOf_spec (w : World) (N : Nat → Prop) (T : Option Addr) (q : Nat) (f : Int) (bs : List BlkD) (ho : Owns w [] N) (hb : KB w N T bs) (ht : TOK bs) :
    Ret Try.prog 9 [.agg #[.int .i64 f, .slice T bs.length q], .int .i64 1500] w N fun v L => 0 ≤ cntB bs 0 ∧ cntB bs 0 ≤ 200000000000000 ∧ Counted bs bs.length (cntB bs 0) ∧ v = .int .i64 (cntB bs 0) ∧ L = [] := by
  refine ret_of_J cx Try.func9 rfl (Nat.le_of_ble_eq_true rfl) ho ?_
  refine s_seq ?_
  refine s_region ?_
  first | (refine s_box1 rfl rfl rfl (fun b => ?_)) | (refine s_boxA rfl rfl (fun b => ?_))
  change J _ _ _ (cb b 27 [.int .i64 f, .slice T bs.length q] :: _) _
  refine s_q (y_assign rfl) rfl ?_
  refine s_done ?_
  refine s_seq ?_
  refine s_region ?_
  refine s_q (by (first | exact y_fieldAddrB rfl rfl rfl rfl rfl rfl | exact y_fieldAddr rfl rfl rfl rfl rfl rfl)) rfl ?_
  refine s_q (by (first | exact y_ld rfl rfl rfl (by rfl) | exact y_ldN rfl rfl rfl (by rfl) | exact y_ldK rfl rfl rfl rfl (by assumption) (by omega) | exact y_ldI rfl rfl rfl rfl (by assumption) (by omega) (by omega))) rfl ?_
  refine s_q (y_move rfl) rfl ?_
  refine s_call (pre := []) (rem := _) rfl rfl tk (fun w N ho hl => BlocksOf_spec w N T q bs ho (hb.of hl) ht) rfl ?_
  rintro e L' ⟨h0, hn, hc, rfl, rfl⟩
  try simp only [List.nil_append, List.cons_append, List.append_nil]
  refine s_q (y_assign rfl) rfl ?_
  refine s_done ?_
  exact s_return ⟨h0, hn, hc, rfl, rfl⟩ (res_tmp Try.results9 rfl)
theorem tmod_b (x n : Int) (h : 0 < n) : -n < x.tmod n ∧ x.tmod n < n := by
  have h1 := Int.tmod_lt_of_pos x h
  have h2 := Int.lt_tmod_of_pos x h
  omega
theorem Pick_spec (w : World) (N : Nat → Prop) (x : Int) (n : Nat) (ho : Owns w [] N) (hn : 1 ≤ n ∧ n < 1000000000) :
    Ret Try.prog 13 [.int .i64 x, .int .i64 n] w N fun v L => ∃ k : Nat, k < n ∧ v = .int .i64 k ∧ L = [] := by
  refine ret_of_J cx Try.func13 rfl (Nat.le_of_ble_eq_true rfl) ho ?_
  refine s_seq ?_
  refine s_region ?_
  refine s_q (y_assign rfl) rfl ?_
  refine s_done ?_
  refine s_seq ?_
  refine s_seq ?_
  refine s_region ?_
  refine s_q (y_move rfl) rfl ?_
  refine s_q (y_lss rfl rfl) rfl ?_
  refine s_done ?_
  refine s_cond rfl (fun h => ?_) (fun h => ?_)
  · omega
  have hb := tmod_b x n (by omega)
  refine s_skip ?_
  refine s_seq ?_
  refine s_region ?_
  refine s_q (y_move rfl) rfl ?_
  refine s_q (y_move rfl) rfl ?_
  refine s_q (y_remw rfl rfl (by omega)) rfl ?_
  refine s_q (y_assign rfl) rfl ?_
  refine s_done ?_
  refine s_seq ?_
  refine s_seq ?_
  refine s_region ?_
  refine s_q (y_move rfl) rfl ?_
  refine s_q (y_lss rfl rfl) rfl ?_
  refine s_done ?_
  refine s_cond rfl (fun h2 => ?_) (fun h2 => ?_)
  · refine s_region ?_
    refine s_q (y_move rfl) rfl ?_
    refine s_q (y_move rfl) rfl ?_
    refine s_q (y_add rfl rfl (by omega)) rfl ?_
    refine s_q (y_assign rfl) rfl ?_
    refine s_done ?_
    refine s_seq ?_
    refine s_region ?_
    refine s_q (y_move rfl) rfl ?_
    refine s_q (y_assign rfl) rfl ?_
    refine s_done ?_
    exact s_return ⟨(x.tmod n + n).toNat, by omega, by rw [Int.toNat_of_nonneg (by omega)], rfl⟩ (res_tmp Try.results13 rfl)
  · refine s_skip ?_
    refine s_seq ?_
    refine s_region ?_
    refine s_q (y_move rfl) rfl ?_
    refine s_q (y_assign rfl) rfl ?_
    refine s_done ?_
    exact s_return ⟨(x.tmod n).toNat, by omega, by rw [Int.toNat_of_nonneg (by omega)], rfl⟩ (res_tmp Try.results13 rfl)
end Go.Proofs.Ytgpebcfeeagoaaa
