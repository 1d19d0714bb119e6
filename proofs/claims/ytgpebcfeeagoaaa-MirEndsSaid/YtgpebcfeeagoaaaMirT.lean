/- Layer 6 (mir): lent targets looked at again; where they are still as they were. -/
import Derived.Test.YtgpebcfeeagoaaaMirS
import Derived.Test.YtgpebcfeeagoaaaEEb
set_option linter.unusedVariables false
set_option linter.unusedSimpArgs false
namespace Go.Proofs.Ytgpebcfeeagoaaa
open Go Go.E
set_option maxRecDepth 4000
set_option maxHeartbeats 1000000
/-- What a lent block reads as. -/
structure LentB (w : World) (N : Nat → Prop) (b : BlkD) : Prop where
  row : KE 8 encIns .no w N b.A (b.ins ++ marksI)
  cap : b.ins.length + 12 ≤ b.c
  args : ∀ i ∈ b.ins, KI w N i.A (i.xs ++ marks) ∧ i.xs.length + 12 ≤ i.c
theorem LentB.of {base w : World} {M N : Nat → Prop} {L : List HP} {b : BlkD} (h : LentB base M b) (hl : ∀ w', Since w N w' → Sat base M L w') : LentB w N b := ⟨h.row.of hl, h.cap, fun i hi => ⟨(h.args i hi).1.of hl, (h.args i hi).2⟩⟩
theorem LentF.of {base w : World} {M N : Nat → Prop} {L : List HP} {T : Option Addr} {t : Nat} {l : List BlkD} (h : LentF base M T t l) (hl : ∀ w', Since w N w' → Sat base M L w') : LentF w N T t l :=
  ⟨h.blk.of hl, h.cap, fun b hb => ⟨(h.row b hb).1.of hl, (h.row b hb).2⟩, fun b hb i hi => ⟨(h.args b hb i hi).1.of hl, (h.args b hb i hi).2⟩⟩
theorem LentF.at {w : World} {N : Nat → Prop} {T : Option Addr} {t : Nat} {l : List BlkD} (h : LentF w N T t l) {b : BlkD} (hb : b ∈ l) : LentB w N b := ⟨(h.row b hb).1, (h.row b hb).2, h.args b hb⟩
theorem KeptBlock_spec (w : World) (N : Nat → Prop) (b b' : BlkD) (he : b.like b') (ho : Owns w [] N) (hk : LentB w N b) (hk2 : KE 8 encIns .no w N b'.A b'.ins) (hy : ∀ i ∈ b'.ins, KI w N i.A i.xs) (hxl : ∀ i ∈ b.ins, i.xs.length < 1000000) (hlen : b.ins.length < 1000000) :
    Ret Try.prog 67 [.agg (encBlk b).toArray, .agg (encBlk b').toArray] w N fun v L => v = .bool true ∧ L = [] := by
  refine ret_of_J cx Try.func67 rfl (Nat.le_of_ble_eq_true rfl) ho ?_
  refine s_seq ?_
  refine s_region ?_
  first | (refine s_box1 rfl rfl rfl (fun b1 => ?_)) | (refine s_boxA rfl rfl (fun b1 => ?_))
  change J _ _ _ (cb b1 42 (encBlk b) :: _) _
  first | (refine s_box1 rfl rfl rfl (fun b2 => ?_)) | (refine s_boxA rfl rfl (fun b2 => ?_))
  change J _ _ _ (cb b2 42 (encBlk b') :: _) _
  refine s_q (y_assign rfl) rfl ?_
  refine s_done ?_
  refine s_seq ?_
  refine s_region ?_
  refine s_q (by (first | exact y_ldN rfl rfl rfl (by rfl) | exact y_ld rfl rfl rfl (by rfl) | exact y_ldN rfl rfl rfl (by rfl) | exact y_ldK rfl rfl rfl rfl (by assumption) (by omega) | exact y_ldI rfl rfl rfl rfl (by assumption) (by omega) (by omega))) rfl ?_
  refine s_q (by (first | exact y_ldN rfl rfl rfl (by rfl) | exact y_ld rfl rfl rfl (by rfl) | exact y_ldN rfl rfl rfl (by rfl) | exact y_ldK rfl rfl rfl rfl (by assumption) (by omega) | exact y_ldI rfl rfl rfl rfl (by assumption) (by omega) (by omega))) rfl ?_
  refine s_call (pre := []) (rem := _) rfl rfl tk (fun w N ho hl => SameBlock_spec w N b b' he ho ((KE.pre hk.row).of hl) (hk2.of hl) (fun i hi => (KI.pre (hk.args i hi).1).of hl) (fun i hi => (hy i hi).of hl) hxl hlen) rfl ?_
  rintro e L' ⟨rfl, rfl⟩
  try simp only [List.nil_append, List.cons_append, List.append_nil]
  refine s_q (y_move rfl) rfl ?_
  refine s_guard2 rfl rfl (by with_reducible rfl) ?_
  refine s_q (by (first | exact y_fieldAddrB rfl rfl rfl rfl rfl rfl | exact y_fieldAddr rfl rfl rfl rfl rfl rfl)) rfl ?_
  refine s_guard2 rfl rfl (by with_reducible rfl) ?_
  refine s_q (by (first | exact y_ld rfl rfl rfl (by rfl) | exact y_ldN rfl rfl rfl (by rfl) | exact y_ldK rfl rfl rfl rfl (by assumption) (by omega) | exact y_ldI rfl rfl rfl rfl (by assumption) (by omega) (by omega))) rfl ?_
  refine s_guard2 rfl rfl (by with_reducible rfl) ?_
  refine s_q (by (first | exact y_fieldAddrB rfl rfl rfl rfl rfl rfl | exact y_fieldAddr rfl rfl rfl rfl rfl rfl)) rfl ?_
  refine s_guard2 rfl rfl (by with_reducible rfl) ?_
  refine s_q (by (first | exact y_ld rfl rfl rfl (by rfl) | exact y_ldN rfl rfl rfl (by rfl) | exact y_ldK rfl rfl rfl rfl (by assumption) (by omega) | exact y_ldI rfl rfl rfl rfl (by assumption) (by omega) (by omega))) rfl ?_
  refine s_guard2 rfl rfl (by with_reducible rfl) ?_
  refine s_call (pre := []) (rem := _) rfl rfl tk (fun w N ho hl => KeptRow_spec w N b.A b'.A b.c b'.c b.ins.length b'.ins.length b.ins b'.ins rfl he.ins.len.symm he.ins ho (hk.row.of hl) hk.cap (hk2.of hl) (hk.of hl).args (fun i hi => (hy i hi).of hl) hxl hlen) rfl ?_
  rintro e L' ⟨rfl, rfl⟩
  try simp only [List.nil_append, List.cons_append, List.append_nil]
  refine s_q (by (first | exact y_pickT rfl rfl | exact y_pickF rfl rfl)) rfl ?_
  refine s_q (y_assign rfl) rfl ?_
  refine s_done ?_
  exact s_return ⟨rfl, rfl⟩ (res_tmp Try.results67 rfl)
theorem KeptBlocks_spec (w : World) (N : Nat → Prop) (A B : Option Addr) (c d n p : Nat) (l r : List BlkD) (hn : n = l.length) (hp : p = l.length) (he : AllLike l r) (ho : Owns w [] N) (hk : LentF w N A c l) (hk2 : KB w N B r) (hxl : ∀ b ∈ l, ∀ i ∈ b.ins, i.xs.length < 1000000) (hil : ∀ b ∈ l, b.ins.length < 1000000) (hlen : l.length < 1000000) :
    Ret Try.prog 46 [.slice A n c, .slice B p d] w N fun v L => v = .bool true ∧ L = [] := by
  subst hn hp
  have hrl := he.len
  have hc := hk.cap
  have hkb := hk.blk
  have hkb2 := hk2.blk
  have hml : (l ++ marksB).length = l.length + 12 := by rw [List.length_append, marksB_len]
  refine ret_of_J cx Try.func46 rfl (Nat.le_of_ble_eq_true rfl) ho ?_
  refine s_seq ?_
  refine s_region ?_
  refine s_q (y_assign rfl) rfl ?_
  refine s_done ?_
  refine s_seq ?_
  refine s_seq ?_
  refine s_region ?_
  refine s_q (y_move rfl) rfl ?_
  refine s_q (y_lenS rfl rfl rfl) rfl ?_
  refine s_q (y_move rfl) rfl ?_
  refine s_q (y_lenS rfl rfl rfl) rfl ?_
  refine s_q (by (first | exact y_as (y_neq rfl rfl) (congrArg Value.bool (decide_eq_false (fun h => h rfl))) | exact y_neq rfl rfl | exact y_neqB rfl rfl rfl)) rfl ?_
  refine s_done ?_
  refine s_condF2 rfl (by with_reducible rfl) ?_
  refine s_skip ?_
  refine s_seq ?_
  refine s_region ?_
  refine s_q (y_move rfl) rfl ?_
  refine s_q (y_move rfl) rfl ?_
  refine s_q (y_lenS rfl rfl rfl) rfl ?_
  refine s_q (y_add rfl rfl (by omega)) rfl ?_
  refine s_q (by (first | exact y_sliceHi (m := l.length + 12) rfl rfl (by omega) (by omega) rfl rfl | exact y_sliceHi rfl rfl rfl (by omega) rfl rfl)) rfl ?_
  refine s_q (y_assign rfl) rfl ?_
  refine s_done ?_
  refine s_seq ?_
  refine s_seq ?_
  refine s_region ?_
  refine s_q (y_assign rfl) rfl ?_
  refine s_done ?_
  refine s_block ?_
  refine s_loopV (σ := Nat) (fun s => [(6, .int .i64 s)]) (fun s => []) (fun s => (s ≤ l.length + 12)) (fun s => l.length + 12 - s) (0) [(1, _), (5, _)] ⟨rfl, rfl, trivial⟩ ⟨rfl, trivial⟩ tk (Nat.zero_le _) ?_
  rintro i hi
  try dsimp only [List.cons_append, List.nil_append, List.append_nil] at hi ⊢
  refine s_seq ?_
  refine s_seq ?_
  refine s_region ?_
  refine s_q (y_move rfl) rfl ?_
  refine s_q (y_move rfl) rfl ?_
  refine s_q (y_lenS rfl rfl rfl) rfl ?_
  refine s_q (y_lss rfl rfl) rfl ?_
  refine s_done ?_
  refine s_cond rfl (fun h => ?_) (fun h => ?_)
  · refine s_skip ?_
    refine s_seq ?_
    refine s_block ?_
    refine s_seq ?_
    refine s_joinV (σ := Unit) (fun s => [(57, .bool false)]) [] (fun s => []) (fun s => True) [(1, _), (5, _), (6, _)] ⟨rfl, rfl, rfl, trivial⟩ tk (fun k' hr => ?_) ?_
    · by_cases hlt : (i : Int) < (l.length : Int)
      · have hge : ¬ (i : Int) ≥ (l.length : Int) := by omega
        have hkl : i < l.length := by omega
        have hm := getD_mem BlkD.no hkl
        have hm2 := getD_mem (l := r) BlkD.no (k := i) (by omega)
        have e1 : (l ++ marksB).getD i .no = l.getD i .no := app_getD_l hkl
        refine d_start ?_
        refine d_take 0 rfl (by kernel_rfl) (by exact y_move rfl) rfl ?_
        refine d_take 1 rfl (by kernel_rfl) (by exact y_move rfl) rfl ?_
        refine d_take 2 rfl (by kernel_rfl) (by exact y_lenS rfl rfl rfl) rfl ?_
        refine d_take 3 rfl (by kernel_rfl) (by (first | exact y_as (y_lss rfl rfl) (congrArg Value.bool (decide_eq_true hlt)) | exact y_lss rfl rfl)) rfl ?_
        refine d_take 4 rfl (by kernel_rfl) (by exact y_move rfl) rfl ?_
        refine d_takeG 5 rfl (by kernel_rfl) rfl rfl (by exact y_move rfl) rfl ?_
        refine d_takeG 6 rfl (by kernel_rfl) rfl rfl (by exact y_move rfl) rfl ?_
        refine d_takeG 7 rfl (by kernel_rfl) rfl rfl (by (first | exact y_ixE hkb rfl rfl rfl rfl rfl hml.symm (by omega) (by omega) | exact y_ixE hkb2 rfl rfl rfl rfl rfl hrl (by omega) (by omega) | exact y_ixI rfl rfl rfl rfl rfl (by assumption) rfl (by omega) (by omega))) rfl ?_
        refine d_takeG 8 rfl (by kernel_rfl) rfl rfl (by (first | exact y_as (y_ldE hkb rfl rfl rfl (by omega) rfl) (congrArg (fun z => Value.agg (encBlk z).toArray) e1) | exact y_ldE hkb2 rfl rfl rfl (by omega) rfl | exact y_ld rfl rfl rfl (by rfl) | exact y_ldN rfl rfl rfl (by rfl) | exact y_ldK rfl rfl rfl rfl (by assumption) (by omega) | exact y_ldI rfl rfl rfl rfl (by assumption) (by omega) (by omega))) rfl ?_
        refine d_takeG 9 rfl (by kernel_rfl) rfl rfl (by exact y_move rfl) rfl ?_
        refine d_takeG 10 rfl (by kernel_rfl) rfl rfl (by exact y_move rfl) rfl ?_
        refine d_takeG 11 rfl (by kernel_rfl) rfl rfl (by (first | exact y_ixE hkb rfl rfl rfl rfl rfl hml.symm (by omega) (by omega) | exact y_ixE hkb2 rfl rfl rfl rfl rfl hrl (by omega) (by omega) | exact y_ixI rfl rfl rfl rfl rfl (by assumption) rfl (by omega) (by omega))) rfl ?_
        refine d_takeG 12 rfl (by kernel_rfl) rfl rfl (by (first | exact y_as (y_ldE hkb rfl rfl rfl (by omega) rfl) (congrArg (fun z => Value.agg (encBlk z).toArray) e1) | exact y_ldE hkb2 rfl rfl rfl (by omega) rfl | exact y_ld rfl rfl rfl (by rfl) | exact y_ldN rfl rfl rfl (by rfl) | exact y_ldK rfl rfl rfl rfl (by assumption) (by omega) | exact y_ldI rfl rfl rfl rfl (by assumption) (by omega) (by omega))) rfl ?_
        refine d_effM 13 [12, 11, 10, 9, 8, 7, 6, 5, 4, 3, 2, 1, 0] [false, true, true, true, false, true, true, true, false, true, true, true, true] rfl (by kernel_rfl) rfl (by kernel_rfl) (fun K hK => ?_)
        refine s_guard rfl rfl ?_
        refine s_call (pre := []) (rem := _) rfl rfl tk (fun w N ho hl => KeptBlock_spec w N (l.getD i .no) (r.getD i .no) (he.each i (by omega)) ho ((hk.at hm).of hl) ((hk2.ins _ hm2).of hl) (fun j hj => (hk2.args _ hm2 j hj).of hl) (hxl _ hm) (hil _ hm)) rfl ?_
        rintro e L' ⟨rfl, rfl⟩
        try simp only [List.nil_append, List.cons_append, List.append_nil]
        refine s_done ?_
        refine hK _ _ (by refine rm_skip ?_; refine rm_yd rfl (by (first | exact y_ixE hkb rfl rfl rfl rfl rfl hml.symm (by omega) (by omega) | exact y_ixE hkb2 rfl rfl rfl rfl rfl hrl (by omega) (by omega) | exact y_ixI rfl rfl rfl rfl rfl (by assumption) rfl (by omega) (by omega))) ?_; refine rm_yd rfl (by exact y_move rfl) ?_; refine rm_yd rfl (by exact y_move rfl) ?_; refine rm_skip ?_; refine rm_yd rfl (by (first | exact y_ixE hkb rfl rfl rfl rfl rfl hml.symm (by omega) (by omega) | exact y_ixE hkb2 rfl rfl rfl rfl rfl hrl (by omega) (by omega) | exact y_ixI rfl rfl rfl rfl rfl (by assumption) rfl (by omega) (by omega))) ?_; refine rm_yd rfl (by exact y_move rfl) ?_; refine rm_yd rfl (by exact y_move rfl) ?_; refine rm_skip ?_; refine rm_yd rfl (by (first | exact y_as (y_lss rfl rfl) (congrArg Value.bool (decide_eq_true hlt)) | exact y_lss rfl rfl)) ?_; refine rm_yd rfl (by exact y_lenS rfl rfl rfl) ?_; refine rm_yd rfl (by exact y_move rfl) ?_; refine rm_yd rfl (by exact y_move rfl) ?_; exact rm_nil) ?_
        clear hK K
        refine d_takeG 14 rfl (by kernel_rfl) rfl rfl (by (first | exact y_notT rfl | exact y_notF rfl | exact y_notp rfl | exact y_notb rfl)) rfl ?_
        refine d_take 15 rfl (by kernel_rfl) (by (first | exact y_pickT rfl rfl | exact y_pickF rfl rfl)) rfl ?_
        refine d_take 16 rfl (by kernel_rfl) (by exact y_move rfl) rfl ?_
        refine d_takeG 17 rfl (by kernel_rfl) rfl rfl (by exact y_move rfl) rfl ?_
        refine d_takeG 18 rfl (by kernel_rfl) rfl rfl (by exact y_move rfl) rfl ?_
        refine d_takeG 19 rfl (by kernel_rfl) rfl rfl (by exact y_lenS rfl rfl rfl) rfl ?_
        refine d_takeG 20 rfl (by kernel_rfl) rfl rfl (by (first | exact y_as (y_geq rfl rfl) (congrArg Value.bool (decide_eq_false hge)) | exact y_geq rfl rfl)) rfl ?_
        refine d_takeG 21 rfl (by kernel_rfl) rfl rfl (by exact y_move rfl) rfl ?_
        refine d_skip 22 rfl (by kernel_rfl) (fun c e => by cases e) rfl rfl rfl rfl ?_
        refine d_skip 23 rfl (by kernel_rfl) (fun c e => by cases e) rfl rfl rfl rfl ?_
        refine d_skip 24 rfl (by kernel_rfl) (fun c e => by cases e) rfl rfl rfl rfl ?_
        refine d_skip 25 rfl (by kernel_rfl) (fun c e => by cases e) rfl rfl rfl rfl ?_
        refine d_skip 26 rfl (by kernel_rfl) (fun c e => by cases e) rfl rfl rfl rfl ?_
        refine d_skip 27 rfl (by kernel_rfl) (fun c e => by cases e) rfl rfl rfl rfl ?_
        refine d_skip 28 rfl (by kernel_rfl) (fun c e => by cases e) rfl rfl rfl rfl ?_
        refine d_skip 29 rfl (by kernel_rfl) (fun c e => by cases e) rfl rfl rfl rfl ?_
        refine d_skip 30 rfl (by kernel_rfl) (fun c e => by cases e) rfl rfl rfl rfl ?_
        refine d_skip 31 rfl (by kernel_rfl) (fun c e => by cases e) rfl rfl rfl rfl ?_
        refine d_skip 32 rfl (by kernel_rfl) (fun c e => by cases e) rfl rfl rfl rfl ?_
        refine d_takeG 33 rfl (by kernel_rfl) rfl rfl (by (first | exact y_pickT rfl rfl | exact y_pickF rfl rfl)) rfl ?_
        refine d_take 34 rfl (by kernel_rfl) (by (first | exact y_pickT rfl rfl | exact y_pickF rfl rfl)) rfl ?_
        refine d_done (by kernel_rfl) ?_
        have hr' := hr () trivial
        try dsimp only [List.cons_append, List.nil_append, List.append_nil] at hr'
        exact J.to hr' ⟨rfl, rfl, rfl, rfl, trivial⟩ tk
      · have hge : (i : Int) ≥ (l.length : Int) := by omega
        obtain ⟨j, rfl⟩ : ∃ j, i = l.length + j := ⟨i - l.length, by omega⟩
        have e1 : (l ++ marksB).getD (l.length + j) .no = mkB j := by rw [app_getD_r (by omega), Nat.add_sub_cancel_left, marksB_at (by omega)]
        have e2 : ((l.length + j : Nat) : Int) - (l.length : Int) = (j : Int) := by omega
        refine d_start ?_
        refine d_take 0 rfl (by kernel_rfl) (by exact y_move rfl) rfl ?_
        refine d_take 1 rfl (by kernel_rfl) (by exact y_move rfl) rfl ?_
        refine d_take 2 rfl (by kernel_rfl) (by exact y_lenS rfl rfl rfl) rfl ?_
        refine d_take 3 rfl (by kernel_rfl) (by (first | exact y_as (y_lss rfl rfl) (congrArg Value.bool (decide_eq_false hlt)) | exact y_lss rfl rfl)) rfl ?_
        refine d_take 4 rfl (by kernel_rfl) (by exact y_move rfl) rfl ?_
        refine d_skip 5 rfl (by kernel_rfl) (fun c e => by cases e) rfl rfl rfl rfl ?_
        refine d_skip 6 rfl (by kernel_rfl) (fun c e => by cases e) rfl rfl rfl rfl ?_
        refine d_skip 7 rfl (by kernel_rfl) (fun c e => by cases e) rfl rfl rfl rfl ?_
        refine d_skip 8 rfl (by kernel_rfl) (fun c e => by cases e) rfl rfl rfl rfl ?_
        refine d_skip 9 rfl (by kernel_rfl) (fun c e => by cases e) rfl rfl rfl rfl ?_
        refine d_skip 10 rfl (by kernel_rfl) (fun c e => by cases e) rfl rfl rfl rfl ?_
        refine d_skip 11 rfl (by kernel_rfl) (fun c e => by cases e) rfl rfl rfl rfl ?_
        refine d_skip 12 rfl (by kernel_rfl) (fun c e => by cases e) rfl rfl rfl rfl ?_
        refine d_skip 13 rfl (by kernel_rfl) (fun c e => by cases e) rfl rfl rfl rfl ?_
        refine d_skip 14 rfl (by kernel_rfl) (fun c e => by cases e) rfl rfl rfl rfl ?_
        refine d_take 15 rfl (by kernel_rfl) (by (first | exact y_pickT rfl rfl | exact y_pickF rfl rfl)) rfl ?_
        refine d_take 16 rfl (by kernel_rfl) (by exact y_move rfl) rfl ?_
        refine d_takeG 17 rfl (by kernel_rfl) rfl rfl (by exact y_move rfl) rfl ?_
        refine d_takeG 18 rfl (by kernel_rfl) rfl rfl (by exact y_move rfl) rfl ?_
        refine d_takeG 19 rfl (by kernel_rfl) rfl rfl (by exact y_lenS rfl rfl rfl) rfl ?_
        refine d_takeG 20 rfl (by kernel_rfl) rfl rfl (by (first | exact y_as (y_geq rfl rfl) (congrArg Value.bool (decide_eq_true hge)) | exact y_geq rfl rfl)) rfl ?_
        refine d_takeG 21 rfl (by kernel_rfl) rfl rfl (by exact y_move rfl) rfl ?_
        refine d_takeG 22 rfl (by kernel_rfl) rfl rfl (by exact y_move rfl) rfl ?_
        refine d_takeG 23 rfl (by kernel_rfl) rfl rfl (by exact y_move rfl) rfl ?_
        refine d_takeG 24 rfl (by kernel_rfl) rfl rfl (by (first | exact y_ixE hkb rfl rfl rfl rfl rfl hml.symm (by omega) (by omega) | exact y_ixI rfl rfl rfl rfl rfl (by assumption) rfl (by omega) (by omega))) rfl ?_
        refine d_takeG 25 rfl (by kernel_rfl) rfl rfl (by (first | exact y_as (y_ldE hkb rfl rfl rfl (by omega) rfl) (congrArg (fun z => Value.agg (encBlk z).toArray) e1) | exact y_ld rfl rfl rfl (by rfl) | exact y_ldN rfl rfl rfl (by rfl) | exact y_ldK rfl rfl rfl rfl (by assumption) (by omega) | exact y_ldI rfl rfl rfl rfl (by assumption) (by omega) (by omega))) rfl ?_
        refine d_takeG 26 rfl (by kernel_rfl) rfl rfl (by exact y_move rfl) rfl ?_
        refine d_takeG 27 rfl (by kernel_rfl) rfl rfl (by exact y_move rfl) rfl ?_
        refine d_takeG 28 rfl (by kernel_rfl) rfl rfl (by exact y_lenS rfl rfl rfl) rfl ?_
        refine d_takeG 29 rfl (by kernel_rfl) rfl rfl (by (first | exact y_as (y_sub rfl rfl (by omega)) (congrArg (Value.int .i64) e2) | exact y_sub rfl rfl (by omega))) rfl ?_
        refine d_effM 30 [29, 28, 27, 26, 25, 24, 23, 22, 21, 20, 19, 18, 17, 16, 15, 4, 3, 2, 1, 0] [false, true, true, true, true, true, true, true, false, true, true, true, true, true, true, true, true, true, true, true] rfl (by kernel_rfl) rfl (by kernel_rfl) (fun K hK => ?_)
        refine s_guard rfl rfl ?_
        refine s_call (pre := []) (rem := _) rfl rfl tk (fun w N ho hl => markBlock_spec w N j ho (by omega)) rfl ?_
        rintro e L' ⟨rfl, rfl⟩
        try simp only [List.nil_append, List.cons_append, List.append_nil]
        refine s_done ?_
        refine hK _ _ (by refine rm_skip ?_; refine rm_yd rfl (by exact y_lenS rfl rfl rfl) ?_; refine rm_yd rfl (by exact y_move rfl) ?_; refine rm_yd rfl (by exact y_move rfl) ?_; refine rm_yd rfl (by (first | exact y_as (y_ldE hkb rfl rfl rfl (by omega) rfl) (congrArg (fun z => Value.agg (encBlk z).toArray) e1) | exact y_ld rfl rfl rfl (by rfl) | exact y_ldN rfl rfl rfl (by rfl) | exact y_ldK rfl rfl rfl rfl (by assumption) (by omega) | exact y_ldI rfl rfl rfl rfl (by assumption) (by omega) (by omega))) ?_; refine rm_yd rfl (by (first | exact y_ixE hkb rfl rfl rfl rfl rfl hml.symm (by omega) (by omega) | exact y_ixI rfl rfl rfl rfl rfl (by assumption) rfl (by omega) (by omega))) ?_; refine rm_yd rfl (by exact y_move rfl) ?_; refine rm_yd rfl (by exact y_move rfl) ?_; refine rm_skip ?_; refine rm_yd rfl (by (first | exact y_as (y_geq rfl rfl) (congrArg Value.bool (decide_eq_true hge)) | exact y_geq rfl rfl)) ?_; refine rm_yd rfl (by exact y_lenS rfl rfl rfl) ?_; refine rm_yd rfl (by exact y_move rfl) ?_; refine rm_yd rfl (by exact y_move rfl) ?_; refine rm_yd rfl (by exact y_move rfl) ?_; refine rm_yd rfl (by (first | exact y_pickT rfl rfl | exact y_pickF rfl rfl)) ?_; refine rm_yd rfl (by exact y_move rfl) ?_; refine rm_yd rfl (by (first | exact y_as (y_lss rfl rfl) (congrArg Value.bool (decide_eq_false hlt)) | exact y_lss rfl rfl)) ?_; refine rm_yd rfl (by exact y_lenS rfl rfl rfl) ?_; refine rm_yd rfl (by exact y_move rfl) ?_; refine rm_yd rfl (by exact y_move rfl) ?_; exact rm_nil) ?_
        clear hK K
        refine d_effM 31 [28, 27, 26, 25, 24, 23, 22, 20, 19, 18, 17, 16, 15, 4, 3, 2, 1, 0] [true, true, true, false, true, true, true, true, true, true, true, true, true, true, true, true, true, true] rfl (by kernel_rfl) rfl (by kernel_rfl) (fun K hK => ?_)
        refine s_guard rfl rfl ?_
        refine s_call (pre := []) (rem := _) rfl rfl tk (fun w N ho hl => SameBlock_spec w N (mkB j) (mkB j) ⟨rfl, rfl, rfl, rfl, rfl⟩ ho KE.nil KE.nil (fun i hi => by simp [mkB] at hi) (fun i hi => by simp [mkB] at hi) (fun i hi => by simp [mkB] at hi) (by simp [mkB])) rfl ?_
        rintro e L' ⟨rfl, rfl⟩
        try simp only [List.nil_append, List.cons_append, List.append_nil]
        refine s_done ?_
        refine hK _ _ (by refine rm_yd rfl (by exact y_lenS rfl rfl rfl) ?_; refine rm_yd rfl (by exact y_move rfl) ?_; refine rm_yd rfl (by exact y_move rfl) ?_; refine rm_skip ?_; refine rm_yd rfl (by (first | exact y_ixE hkb rfl rfl rfl rfl rfl hml.symm (by omega) (by omega) | exact y_ixI rfl rfl rfl rfl rfl (by assumption) rfl (by omega) (by omega))) ?_; refine rm_yd rfl (by exact y_move rfl) ?_; refine rm_yd rfl (by exact y_move rfl) ?_; refine rm_yd rfl (by (first | exact y_as (y_geq rfl rfl) (congrArg Value.bool (decide_eq_true hge)) | exact y_geq rfl rfl)) ?_; refine rm_yd rfl (by exact y_lenS rfl rfl rfl) ?_; refine rm_yd rfl (by exact y_move rfl) ?_; refine rm_yd rfl (by exact y_move rfl) ?_; refine rm_yd rfl (by exact y_move rfl) ?_; refine rm_yd rfl (by (first | exact y_pickT rfl rfl | exact y_pickF rfl rfl)) ?_; refine rm_yd rfl (by exact y_move rfl) ?_; refine rm_yd rfl (by (first | exact y_as (y_lss rfl rfl) (congrArg Value.bool (decide_eq_false hlt)) | exact y_lss rfl rfl)) ?_; refine rm_yd rfl (by exact y_lenS rfl rfl rfl) ?_; refine rm_yd rfl (by exact y_move rfl) ?_; refine rm_yd rfl (by exact y_move rfl) ?_; exact rm_nil) ?_
        clear hK K
        refine d_takeG 32 rfl (by kernel_rfl) rfl rfl (by (first | exact y_notT rfl | exact y_notF rfl | exact y_notp rfl | exact y_notb rfl)) rfl ?_
        refine d_takeG 33 rfl (by kernel_rfl) rfl rfl (by (first | exact y_pickT rfl rfl | exact y_pickF rfl rfl)) rfl ?_
        refine d_take 34 rfl (by kernel_rfl) (by (first | exact y_pickT rfl rfl | exact y_pickF rfl rfl)) rfl ?_
        refine d_done (by kernel_rfl) ?_
        have hr' := hr () trivial
        try dsimp only [List.cons_append, List.nil_append, List.append_nil] at hr'
        exact J.to hr' ⟨rfl, rfl, rfl, rfl, trivial⟩ tk
    rintro - -
    dsimp only [List.cons_append, List.nil_append]
    refine s_condF2 rfl (by with_reducible rfl) ?_
    refine s_skip ?_
    refine s_endb ?_
    refine s_region ?_
    refine s_q (y_move rfl) rfl ?_
    refine s_q (y_add rfl rfl (by omega)) rfl ?_
    refine s_q (y_assign rfl) rfl ?_
    refine s_done ?_
    refine s_inv (i + 1) (by (try dsimp only); omega) (by (try dsimp only); omega) ⟨rfl, rfl, rfl, trivial⟩ tk
  · refine s_exit rfl ?_
    refine s_seq ?_
    refine s_region ?_
    refine s_q (y_assign rfl) rfl ?_
    refine s_done ?_
    exact s_return ⟨rfl, rfl⟩ (res_tmp Try.results46 rfl)
theorem KeptTarget_spec (w : World) (N : Nat → Prop) (A B : Option Addr) (c d n p : Nat) (f : Int) (l r : List BlkD) (hn : n = l.length) (hp : p = l.length) (he : AllLike l r) (ho : Owns w [] N) (hk : LentF w N A c l) (hk2 : KB w N B r) (hxl : ∀ b ∈ l, ∀ i ∈ b.ins, i.xs.length < 1000000) (hil : ∀ b ∈ l, b.ins.length < 1000000) (hlen : l.length < 1000000) :
    Ret Try.prog 19 [.agg #[.int .i64 f, .slice A n c], .agg #[.int .i64 f, .slice B p d]] w N fun v L => v = .bool true ∧ L = [] := by
  refine ret_of_J cx Try.func19 rfl (Nat.le_of_ble_eq_true rfl) ho ?_
  refine s_seq ?_
  refine s_region ?_
  first | (refine s_box1 rfl rfl rfl (fun b1 => ?_)) | (refine s_boxA rfl rfl (fun b1 => ?_))
  change J _ _ _ (cb b1 27 [.int .i64 f, .slice A n c] :: _) _
  first | (refine s_box1 rfl rfl rfl (fun b2 => ?_)) | (refine s_boxA rfl rfl (fun b2 => ?_))
  change J _ _ _ (cb b2 27 [.int .i64 f, .slice B p d] :: _) _
  refine s_q (y_assign rfl) rfl ?_
  refine s_done ?_
  refine s_seq ?_
  refine s_region ?_
  refine s_q (by (first | exact y_ldN rfl rfl rfl (by rfl) | exact y_ld rfl rfl rfl (by rfl) | exact y_ldN rfl rfl rfl (by rfl) | exact y_ldK rfl rfl rfl rfl (by assumption) (by omega) | exact y_ldI rfl rfl rfl rfl (by assumption) (by omega) (by omega))) rfl ?_
  refine s_q (by (first | exact y_ldN rfl rfl rfl (by rfl) | exact y_ld rfl rfl rfl (by rfl) | exact y_ldN rfl rfl rfl (by rfl) | exact y_ldK rfl rfl rfl rfl (by assumption) (by omega) | exact y_ldI rfl rfl rfl rfl (by assumption) (by omega) (by omega))) rfl ?_
  refine s_call (pre := []) (rem := _) rfl rfl tk (fun w N ho hl => SameTarget_spec w N A B c d n p f l r hn hp he ho (hk.kb.of hl) (hk2.of hl) hxl hil hlen) rfl ?_
  rintro e L' ⟨rfl, rfl⟩
  try simp only [List.nil_append, List.cons_append, List.append_nil]
  refine s_q (y_move rfl) rfl ?_
  refine s_guard2 rfl rfl (by with_reducible rfl) ?_
  refine s_q (by (first | exact y_fieldAddrB rfl rfl rfl rfl rfl rfl | exact y_fieldAddr rfl rfl rfl rfl rfl rfl)) rfl ?_
  refine s_guard2 rfl rfl (by with_reducible rfl) ?_
  refine s_q (by (first | exact y_ld rfl rfl rfl (by rfl) | exact y_ldN rfl rfl rfl (by rfl) | exact y_ldK rfl rfl rfl rfl (by assumption) (by omega) | exact y_ldI rfl rfl rfl rfl (by assumption) (by omega) (by omega))) rfl ?_
  refine s_guard2 rfl rfl (by with_reducible rfl) ?_
  refine s_q (by (first | exact y_fieldAddrB rfl rfl rfl rfl rfl rfl | exact y_fieldAddr rfl rfl rfl rfl rfl rfl)) rfl ?_
  refine s_guard2 rfl rfl (by with_reducible rfl) ?_
  refine s_q (by (first | exact y_ld rfl rfl rfl (by rfl) | exact y_ldN rfl rfl rfl (by rfl) | exact y_ldK rfl rfl rfl rfl (by assumption) (by omega) | exact y_ldI rfl rfl rfl rfl (by assumption) (by omega) (by omega))) rfl ?_
  refine s_guard2 rfl rfl (by with_reducible rfl) ?_
  refine s_call (pre := []) (rem := _) rfl rfl tk (fun w N ho hl => KeptBlocks_spec w N A B c d n p l r hn hp he ho (hk.of hl) (hk2.of hl) hxl hil hlen) rfl ?_
  rintro e L' ⟨rfl, rfl⟩
  try simp only [List.nil_append, List.cons_append, List.append_nil]
  refine s_q (by (first | exact y_pickT rfl rfl | exact y_pickF rfl rfl)) rfl ?_
  refine s_q (y_assign rfl) rfl ?_
  refine s_done ?_
  exact s_return ⟨rfl, rfl⟩ (res_tmp Try.results19 rfl)
end Go.Proofs.Ytgpebcfeeagoaaa
