/- Layer 23 (brief), the laws: briefs lent, the document's, looked at again; rows compared. -/
import Derived.Test.YtdbnlgknalencaaGreatBrgT
import Derived.Test.YtdbnlgknalencaaGreatBrgKL
import Derived.Test.YtdbnlgknalencaaGreatBrgKH
import Derived.Test.YtdbnlgknalencaaGreatEEb
set_option linter.unusedVariables false
set_option linter.unusedSimpArgs false
namespace Go.Proofs.YtdbnlgknalencaaGreat
open Go Go.E
set_option maxRecDepth 4000
set_option maxHeartbeats 1000000
def lbHP (b : BrD) : HP := star [Sl 3 1 b.A (b.vars.length + 12) b.c (ints (b.vars ++ marks)), Sl 3 1 b.B (b.cols.length + 12) b.d (ints (b.cols ++ marks)), Sl 3 1 b.C (b.edge.length + 12) b.e (ints (b.edge ++ marks))]
/-- A brief, but for where it lies. -/
def BrD.bare (b : BrD) : BrD := ⟨none, 0, b.vars, none, 0, b.cols, none, 0, b.edge⟩
abbrev Alike (l' l : List BrD) : Prop := l'.map BrD.bare = l.map BrD.bare
def LentBr (l : List BrD) (v : Value) (L : List HP) : Prop := ∃ (G : Option Addr) (g : Nat) (l' : List BrD), Alike l' l ∧ v = .slice G l'.length g ∧ L = [Sl 43 3 G l'.length g (l'.flatMap encBr), bs (fun j => lbHP (l'.getD j .no)) l'.length]
theorem Alike.len {l' l : List BrD} (h : Alike l' l) : l'.length = l.length := by simpa using congrArg List.length h
theorem Alike.at {l' l : List BrD} (h : Alike l' l) (i : Nat) : (l'.getD i .no).bare = (l.getD i .no).bare := by
  have := congrArg (fun x => x.getD i BrD.no.bare) h
  simpa [List.getD_eq_getElem?_getD, List.getElem?_map, Option.getD_map] using this
theorem Alike.all {l' l : List BrD} (h : Alike l' l) {Q : BrD → Prop} (hQ : ∀ b, Q b.bare ↔ Q b) (hl : ∀ b ∈ l, Q b) : ∀ b ∈ l', Q b := fun b hb => by
  obtain ⟨i, hi, rfl⟩ := getD_of_mem BrD.no hb
  rw [← hQ, h.at i, hQ]
  exact hl _ (getD_mem BrD.no (by rw [← h.len]; exact hi))
theorem worthO_bare (vs ws : List Int) (l : List BrD) : worthO vs ws (l.map BrD.bare) = worthO vs ws l ∧ worthE vs ws (l.map BrD.bare) = worthE vs ws l := by
  have e1 : wrongW vs ws (l.map BrD.bare) = wrongW vs ws l := by
    simp only [wrongW, List.length_map, List.all_map]; rfl
  have e2 : ∀ x, dls (l.map BrD.bare) x = dls l x := fun x => by
    induction l with
    | nil => rfl
    | cons b l ih => simp only [List.map_cons, dls]; rw [ih (by simp only [wrongW, List.length_map, List.all_map]; rfl)]; rfl
  simp only [worthO, worthE, e1, worthL, e2, and_self]
theorem Alike.worth {l' l : List BrD} (h : Alike l' l) (vs ws : List Int) : worthO vs ws l' = worthO vs ws l ∧ worthE vs ws l' = worthE vs ws l := by
  rw [← (worthO_bare vs ws l').1, ← (worthO_bare vs ws l').2, h]; exact worthO_bare vs ws l
theorem keptL_bare (l : List BrD) : keptL (l.map BrD.bare) = keptL l := by
  simp only [keptL, isSp, List.all_map, List.any_map]; rfl
theorem Alike.kept {l' l : List BrD} (h : Alike l' l) : keptL l' = keptL l := by rw [← keptL_bare l', h, keptL_bare]
theorem bare_eq {b' b : BrD} (h : b'.bare = b.bare) : b'.vars = b.vars ∧ b'.cols = b.cols ∧ b'.edge = b.edge := by
  simp only [BrD.bare, BrD.mk.injEq] at h; exact ⟨h.2.2.1, h.2.2.2.2.2.1, h.2.2.2.2.2.2.2.2⟩
theorem bare_fn {b' b : BrD} (h : b'.bare = b.bare) : rightB b' = rightB b ∧ apartL b' = apartL b := by
  obtain ⟨e1, e2, e3⟩ := bare_eq h
  obtain ⟨_, _, _, _, _, _, _, _, _⟩ := b'
  obtain ⟨_, _, _, _, _, _, _, _, _⟩ := b
  dsimp only at e1 e2 e3
  subst e1 e2 e3
  exact ⟨rfl, rfl⟩
structure LB (w : World) (N : Nat → Prop) (b : BrD) : Prop where
  v : KI w N b.A (b.vars ++ marks)
  c : KI w N b.B (b.cols ++ marks)
  e : KI w N b.C (b.edge ++ marks)
  vc : b.vars.length + 12 ≤ b.c
  cc : b.cols.length + 12 ≤ b.d
  ec : b.edge.length + 12 ≤ b.e
theorem LB.of {base w : World} {M N : Nat → Prop} {L : List HP} {b : BrD} (h : LB base M b) (hl : ∀ w', Since w N w' → Sat base M L w') : LB w N b := ⟨h.v.of hl, h.c.of hl, h.e.of hl, h.vc, h.cc, h.ec⟩
theorem LB.kr {w : World} {N : Nat → Prop} {b : BrD} (h : LB w N b) : KR w N b := ⟨KI.pre h.v, KI.pre h.c, KI.pre h.e⟩
theorem lbF {base w : World} {M N : Nat → Prop} {L : List HP} {l : List BrD} {n : Nat} (hn : n = l.length) (hl : ∀ w', Since w N w' → Sat base M L w') (hm : bs (fun j => lbHP (l.getD j .no)) n ∈ L) : ∀ b ∈ l, LB w N b := fun b hb => by
  subst hn
  obtain ⟨k, hk, rfl⟩ := getD_of_mem BrD.no hb
  have s1 : ∀ w', Since w N w' → ∃ R, Sat base M (Sl 3 1 (l.getD k .no).A ((l.getD k .no).vars.length + 12) (l.getD k .no).c (ints ((l.getD k .no).vars ++ marks)) :: Sl 3 1 (l.getD k .no).B ((l.getD k .no).cols.length + 12) (l.getD k .no).d (ints ((l.getD k .no).cols ++ marks)) :: Sl 3 1 (l.getD k .no).C ((l.getD k .no).edge.length + 12) (l.getD k .no).e (ints ((l.getD k .no).edge ++ marks)) :: R) w' := fun w' h' => by
    obtain ⟨R, h⟩ := Sat.focus hk (hl w' h') hm
    exact ⟨R, Sat.group.1 h⟩
  have cap : ∀ {e sz n c : Nat} {A : Option Addr} {vs : List Value} {R : List HP} {w' : World}, Sl e sz A n c vs ∈ R → Sat base M R w' → n ≤ c := fun hm h => by
    obtain ⟨k, hk, _⟩ := h.has hm
    exact (Sl.facts _ hk).2
  obtain ⟨R0, h0⟩ := s1 w (Since.refl _ _)
  refine ⟨fun w' h' => ?_, fun w' h' => ?_, fun w' h' => ?_, ?_, ?_, ?_⟩
  · obtain ⟨R, h⟩ := s1 w' h'; exact h.slRdI List.mem_cons_self
  · obtain ⟨R, h⟩ := s1 w' h'; exact h.slRdI (List.mem_cons_of_mem _ List.mem_cons_self)
  · obtain ⟨R, h⟩ := s1 w' h'; exact h.slRdI (List.mem_cons_of_mem _ (List.mem_cons_of_mem _ List.mem_cons_self))
  · exact cap List.mem_cons_self h0
  · exact cap (List.mem_cons_of_mem _ List.mem_cons_self) h0
  · exact cap (List.mem_cons_of_mem _ (List.mem_cons_of_mem _ List.mem_cons_self)) h0
/-- Of a few numbers. -/
abbrev few (n : Nat) (b : BrD) : Prop := b.vars.length ≤ n ∧ b.cols.length ≤ n ∧ b.edge.length ≤ n
theorem lent_spec (w : World) (N : Nat → Prop) (T : Option Addr) (t n : Nat) (l : List BrD) (hn : n = l.length) (ho : Owns w [] N) (hl0 : KBr w N T l) (hok : ∀ b ∈ l, few 1000 b) (h3 : l.length ≤ 1000) : Ret Tryz.prog 9 [.slice T n t] w N (LentBr l) := by
  subst hn
  refine ret_of_J cx Tryz.func9 rfl (Nat.le_of_ble_eq_true rfl) ho ?_
  refine s_seq ?_
  refine s_region ?_
  refine s_q (y_assign rfl) rfl ?_
  refine s_done ?_
  refine s_seq ?_
  refine s_region ?_
  refine s_q (y_assign rfl) rfl ?_
  refine s_done ?_
  refine s_seq ?_
  refine s_seq ?_
  refine s_region ?_
  refine s_q (y_assign rfl) rfl ?_
  refine s_done ?_
  refine s_block ?_
  refine J.emp (B := Go.E.bs (fun k => lbHP (([] : List BrD).getD k .no)) 0) rfl ?_
  refine J.emp (B := Sl 43 3 none 0 0 (([] : List BrD).flatMap encBr)) (Sl.ofNil _ _) ?_
  refine s_loopV (σ := Nat × Option Addr × Nat × List BrD) (fun s => [(4, .int .i64 s.1), (3, .slice s.2.1 s.1 s.2.2.1)]) (fun s => [Sl 43 3 s.2.1 s.1 s.2.2.1 (s.2.2.2.flatMap encBr), Go.E.bs (fun j => lbHP (s.2.2.2.getD j .no)) s.1]) (fun s => (s.1 ≤ l.length) ∧ (s.2.2.2.length = s.1) ∧ (Alike s.2.2.2 (l.take s.1))) (fun s => l.length - s.1) (0, none, 0, []) [(0, _)] ⟨rfl, trivial⟩ ⟨rfl, rfl, trivial⟩ tk ⟨Nat.zero_le _, rfl, rfl⟩ ?_
  rintro ⟨i, G, g, l'⟩ ⟨hi, hl, hal⟩
  try dsimp only [List.cons_append, List.nil_append, List.append_nil] at hi hl hal ⊢
  refine s_seq ?_
  refine s_seq ?_
  refine s_region ?_
  refine s_q (y_move rfl) rfl ?_
  refine s_q (y_move rfl) rfl ?_
  refine s_q (y_lenS rfl rfl rfl) rfl ?_
  refine s_q (y_lss rfl rfl) rfl ?_
  refine s_done ?_
  refine s_cond rfl (fun h => ?_) (fun h => ?_)
  · have hil : i < l.length := by omega
    have hm := getD_mem BrD.no hil
    obtain ⟨b, hb⟩ : ∃ b, l.getD i .no = b := ⟨_, rfl⟩
    rw [hb] at hm
    have hrow := hl0.row _ hm
    have hbk := hok _ hm
    refine s_skip ?_
    refine s_seq ?_
    refine s_block ?_
    refine d_start ?_
    refine d_take 0 rfl (by kernel_rfl) (by exact y_move rfl) rfl ?_
    refine d_take 1 rfl (by kernel_rfl) (by exact y_move rfl) rfl ?_
    refine d_take 2 rfl (by kernel_rfl) (by exact y_move rfl) rfl ?_
    refine d_take 3 rfl (by kernel_rfl) (by (first | exact y_ixE hl0.blk rfl rfl rfl rfl rfl rfl (by omega) (by omega) | exact y_ixI rfl rfl rfl rfl rfl (by assumption) rfl (by omega) (by omega))) rfl ?_
    refine d_take 4 rfl (by kernel_rfl) (by (first | exact y_fieldAddrB rfl rfl rfl rfl rfl rfl | exact y_fieldAddr rfl rfl rfl rfl rfl rfl)) rfl ?_
    refine d_take 5 rfl (by kernel_rfl) (by (first | exact y_ldF (off := 0) (v := .slice b.A b.vars.length b.c) hl0.blk rfl rfl rfl (by omega) (by rw [hb]; rfl) | exact y_ldF (off := 1) (v := .slice b.B b.cols.length b.d) hl0.blk rfl rfl rfl (by omega) (by rw [hb]; rfl) | exact y_ldF (off := 2) (v := .slice b.C b.edge.length b.e) hl0.blk rfl rfl rfl (by omega) (by rw [hb]; rfl) | exact y_ld rfl rfl rfl (by rfl) | exact y_ldN rfl rfl rfl (by rfl) | exact y_ldK rfl rfl rfl rfl (by assumption) (by omega) | exact y_ldI rfl rfl rfl rfl (by assumption) (by omega) (by omega))) rfl ?_
    refine d_take 7 rfl (by kernel_rfl) (by exact y_move rfl) rfl ?_
    refine d_take 8 rfl (by kernel_rfl) (by exact y_move rfl) rfl ?_
    refine d_take 9 rfl (by kernel_rfl) (by (first | exact y_ixE hl0.blk rfl rfl rfl rfl rfl rfl (by omega) (by omega) | exact y_ixI rfl rfl rfl rfl rfl (by assumption) rfl (by omega) (by omega))) rfl ?_
    refine d_take 10 rfl (by kernel_rfl) (by (first | exact y_fieldAddrB rfl rfl rfl rfl rfl rfl | exact y_fieldAddr rfl rfl rfl rfl rfl rfl)) rfl ?_
    refine d_take 11 rfl (by kernel_rfl) (by (first | exact y_ldF (off := 0) (v := .slice b.A b.vars.length b.c) hl0.blk rfl rfl rfl (by omega) (by rw [hb]; rfl) | exact y_ldF (off := 1) (v := .slice b.B b.cols.length b.d) hl0.blk rfl rfl rfl (by omega) (by rw [hb]; rfl) | exact y_ldF (off := 2) (v := .slice b.C b.edge.length b.e) hl0.blk rfl rfl rfl (by omega) (by rw [hb]; rfl) | exact y_ld rfl rfl rfl (by rfl) | exact y_ldN rfl rfl rfl (by rfl) | exact y_ldK rfl rfl rfl rfl (by assumption) (by omega) | exact y_ldI rfl rfl rfl rfl (by assumption) (by omega) (by omega))) rfl ?_
    refine d_take 13 rfl (by kernel_rfl) (by exact y_move rfl) rfl ?_
    refine d_take 14 rfl (by kernel_rfl) (by exact y_move rfl) rfl ?_
    refine d_take 15 rfl (by kernel_rfl) (by (first | exact y_ixE hl0.blk rfl rfl rfl rfl rfl rfl (by omega) (by omega) | exact y_ixI rfl rfl rfl rfl rfl (by assumption) rfl (by omega) (by omega))) rfl ?_
    refine d_take 16 rfl (by kernel_rfl) (by (first | exact y_fieldAddrB rfl rfl rfl rfl rfl rfl | exact y_fieldAddr rfl rfl rfl rfl rfl rfl)) rfl ?_
    refine d_take 17 rfl (by kernel_rfl) (by (first | exact y_ldF (off := 0) (v := .slice b.A b.vars.length b.c) hl0.blk rfl rfl rfl (by omega) (by rw [hb]; rfl) | exact y_ldF (off := 1) (v := .slice b.B b.cols.length b.d) hl0.blk rfl rfl rfl (by omega) (by rw [hb]; rfl) | exact y_ldF (off := 2) (v := .slice b.C b.edge.length b.e) hl0.blk rfl rfl rfl (by omega) (by rw [hb]; rfl) | exact y_ld rfl rfl rfl (by rfl) | exact y_ldN rfl rfl rfl (by rfl) | exact y_ldK rfl rfl rfl rfl (by assumption) (by omega) | exact y_ldI rfl rfl rfl rfl (by assumption) (by omega) (by omega))) rfl ?_
    refine d_effM 6 [17, 16, 15, 14, 13, 11, 10, 9, 8, 7, 5, 4, 3, 2, 1, 0] [true, true, true, true, true, true, true, true, true, true, false, true, true, true, true, true] rfl (by kernel_rfl) rfl (by kernel_rfl) (fun K hK => ?_)
    refine s_call (pre := []) (rem := _) rfl rfl tk (fun w N ho hl => LentInts_spec w N b.A b.c b.vars ho (hrow.v.of hl) (by omega)) rfl ?_
    rintro e L' ⟨A1, c1, rfl, rfl⟩
    try simp only [List.nil_append, List.cons_append, List.append_nil]
    refine s_done ?_
    refine hK _ _ (by refine rm_yd rfl (by (first | exact y_ldF (off := 0) (v := .slice b.A b.vars.length b.c) hl0.blk rfl rfl rfl (by omega) (by rw [hb]; rfl) | exact y_ldF (off := 1) (v := .slice b.B b.cols.length b.d) hl0.blk rfl rfl rfl (by omega) (by rw [hb]; rfl) | exact y_ldF (off := 2) (v := .slice b.C b.edge.length b.e) hl0.blk rfl rfl rfl (by omega) (by rw [hb]; rfl) | exact y_ld rfl rfl rfl (by rfl) | exact y_ldN rfl rfl rfl (by rfl) | exact y_ldK rfl rfl rfl rfl (by assumption) (by omega) | exact y_ldI rfl rfl rfl rfl (by assumption) (by omega) (by omega))) ?_; refine rm_yd rfl (by (first | exact y_fieldAddrB rfl rfl rfl rfl rfl rfl | exact y_fieldAddr rfl rfl rfl rfl rfl rfl)) ?_; refine rm_yd rfl (by (first | exact y_ixE hl0.blk rfl rfl rfl rfl rfl rfl (by omega) (by omega) | exact y_ixI rfl rfl rfl rfl rfl (by assumption) rfl (by omega) (by omega))) ?_; refine rm_yd rfl (by exact y_move rfl) ?_; refine rm_yd rfl (by exact y_move rfl) ?_; refine rm_yd rfl (by (first | exact y_ldF (off := 0) (v := .slice b.A b.vars.length b.c) hl0.blk rfl rfl rfl (by omega) (by rw [hb]; rfl) | exact y_ldF (off := 1) (v := .slice b.B b.cols.length b.d) hl0.blk rfl rfl rfl (by omega) (by rw [hb]; rfl) | exact y_ldF (off := 2) (v := .slice b.C b.edge.length b.e) hl0.blk rfl rfl rfl (by omega) (by rw [hb]; rfl) | exact y_ld rfl rfl rfl (by rfl) | exact y_ldN rfl rfl rfl (by rfl) | exact y_ldK rfl rfl rfl rfl (by assumption) (by omega) | exact y_ldI rfl rfl rfl rfl (by assumption) (by omega) (by omega))) ?_; refine rm_yd rfl (by (first | exact y_fieldAddrB rfl rfl rfl rfl rfl rfl | exact y_fieldAddr rfl rfl rfl rfl rfl rfl)) ?_; refine rm_yd rfl (by (first | exact y_ixE hl0.blk rfl rfl rfl rfl rfl rfl (by omega) (by omega) | exact y_ixI rfl rfl rfl rfl rfl (by assumption) rfl (by omega) (by omega))) ?_; refine rm_yd rfl (by exact y_move rfl) ?_; refine rm_yd rfl (by exact y_move rfl) ?_; refine rm_skip ?_; refine rm_yd rfl (by (first | exact y_fieldAddrB rfl rfl rfl rfl rfl rfl | exact y_fieldAddr rfl rfl rfl rfl rfl rfl)) ?_; refine rm_yd rfl (by (first | exact y_ixE hl0.blk rfl rfl rfl rfl rfl rfl (by omega) (by omega) | exact y_ixI rfl rfl rfl rfl rfl (by assumption) rfl (by omega) (by omega))) ?_; refine rm_yd rfl (by exact y_move rfl) ?_; refine rm_yd rfl (by exact y_move rfl) ?_; refine rm_yd rfl (by exact y_move rfl) ?_; exact rm_nil) ?_
    clear hK K
    refine d_effM 12 [17, 16, 15, 14, 13, 11, 10, 9, 8, 7, 4, 3, 2, 1, 0] [true, true, true, true, true, false, true, true, true, true, true, true, true, true, true] rfl (by kernel_rfl) rfl (by kernel_rfl) (fun K hK => ?_)
    refine s_call (pre := []) (rem := _) rfl rfl tk (fun w N ho hl => LentInts_spec w N b.B b.d b.cols ho (hrow.c.of hl) (by omega)) rfl ?_
    rintro e L' ⟨A2, c2, rfl, rfl⟩
    try simp only [List.nil_append, List.cons_append, List.append_nil]
    refine s_done ?_
    refine hK _ _ (by refine rm_yd rfl (by (first | exact y_ldF (off := 0) (v := .slice b.A b.vars.length b.c) hl0.blk rfl rfl rfl (by omega) (by rw [hb]; rfl) | exact y_ldF (off := 1) (v := .slice b.B b.cols.length b.d) hl0.blk rfl rfl rfl (by omega) (by rw [hb]; rfl) | exact y_ldF (off := 2) (v := .slice b.C b.edge.length b.e) hl0.blk rfl rfl rfl (by omega) (by rw [hb]; rfl) | exact y_ld rfl rfl rfl (by rfl) | exact y_ldN rfl rfl rfl (by rfl) | exact y_ldK rfl rfl rfl rfl (by assumption) (by omega) | exact y_ldI rfl rfl rfl rfl (by assumption) (by omega) (by omega))) ?_; refine rm_yd rfl (by (first | exact y_fieldAddrB rfl rfl rfl rfl rfl rfl | exact y_fieldAddr rfl rfl rfl rfl rfl rfl)) ?_; refine rm_yd rfl (by (first | exact y_ixE hl0.blk rfl rfl rfl rfl rfl rfl (by omega) (by omega) | exact y_ixI rfl rfl rfl rfl rfl (by assumption) rfl (by omega) (by omega))) ?_; refine rm_yd rfl (by exact y_move rfl) ?_; refine rm_yd rfl (by exact y_move rfl) ?_; refine rm_skip ?_; refine rm_yd rfl (by (first | exact y_fieldAddrB rfl rfl rfl rfl rfl rfl | exact y_fieldAddr rfl rfl rfl rfl rfl rfl)) ?_; refine rm_yd rfl (by (first | exact y_ixE hl0.blk rfl rfl rfl rfl rfl rfl (by omega) (by omega) | exact y_ixI rfl rfl rfl rfl rfl (by assumption) rfl (by omega) (by omega))) ?_; refine rm_yd rfl (by exact y_move rfl) ?_; refine rm_yd rfl (by exact y_move rfl) ?_; refine rm_yd rfl (by (first | exact y_fieldAddrB rfl rfl rfl rfl rfl rfl | exact y_fieldAddr rfl rfl rfl rfl rfl rfl)) ?_; refine rm_yd rfl (by (first | exact y_ixE hl0.blk rfl rfl rfl rfl rfl rfl (by omega) (by omega) | exact y_ixI rfl rfl rfl rfl rfl (by assumption) rfl (by omega) (by omega))) ?_; refine rm_yd rfl (by exact y_move rfl) ?_; refine rm_yd rfl (by exact y_move rfl) ?_; refine rm_yd rfl (by exact y_move rfl) ?_; exact rm_nil) ?_
    clear hK K
    refine d_effM 18 [17, 16, 15, 14, 13, 10, 9, 8, 7, 4, 3, 2, 1, 0] [false, true, true, true, true, true, true, true, true, true, true, true, true, true] rfl (by kernel_rfl) rfl (by kernel_rfl) (fun K hK => ?_)
    refine s_call (pre := []) (rem := _) rfl rfl tk (fun w N ho hl => LentInts_spec w N b.C b.e b.edge ho (hrow.e.of hl) (by omega)) rfl ?_
    rintro e L' ⟨A3, c3, rfl, rfl⟩
    try simp only [List.nil_append, List.cons_append, List.append_nil]
    refine s_done ?_
    refine hK _ _ (by refine rm_skip ?_; refine rm_yd rfl (by (first | exact y_fieldAddrB rfl rfl rfl rfl rfl rfl | exact y_fieldAddr rfl rfl rfl rfl rfl rfl)) ?_; refine rm_yd rfl (by (first | exact y_ixE hl0.blk rfl rfl rfl rfl rfl rfl (by omega) (by omega) | exact y_ixI rfl rfl rfl rfl rfl (by assumption) rfl (by omega) (by omega))) ?_; refine rm_yd rfl (by exact y_move rfl) ?_; refine rm_yd rfl (by exact y_move rfl) ?_; refine rm_yd rfl (by (first | exact y_fieldAddrB rfl rfl rfl rfl rfl rfl | exact y_fieldAddr rfl rfl rfl rfl rfl rfl)) ?_; refine rm_yd rfl (by (first | exact y_ixE hl0.blk rfl rfl rfl rfl rfl rfl (by omega) (by omega) | exact y_ixI rfl rfl rfl rfl rfl (by assumption) rfl (by omega) (by omega))) ?_; refine rm_yd rfl (by exact y_move rfl) ?_; refine rm_yd rfl (by exact y_move rfl) ?_; refine rm_yd rfl (by (first | exact y_fieldAddrB rfl rfl rfl rfl rfl rfl | exact y_fieldAddr rfl rfl rfl rfl rfl rfl)) ?_; refine rm_yd rfl (by (first | exact y_ixE hl0.blk rfl rfl rfl rfl rfl rfl (by omega) (by omega) | exact y_ixI rfl rfl rfl rfl rfl (by assumption) rfl (by omega) (by omega))) ?_; refine rm_yd rfl (by exact y_move rfl) ?_; refine rm_yd rfl (by exact y_move rfl) ?_; refine rm_yd rfl (by exact y_move rfl) ?_; exact rm_nil) ?_
    clear hK K
    refine d_take 19 rfl (by kernel_rfl) (by exact y_build rfl rfl rfl rfl) rfl ?_
    refine d_effM 20 [19, 16, 15, 14, 13, 10, 9, 8, 7, 4, 3, 2, 1, 0] [false, true, true, true, true, true, true, true, true, true, true, true, true, true] rfl (by kernel_rfl) rfl (by kernel_rfl) (fun K hK => ?_)
    refine s_bslice rfl rfl rfl rfl rfl rfl rfl rfl (fun bn => ?_)
    refine s_done ?_
    refine hK _ _ (by refine rm_skip ?_; refine rm_yd rfl (by (first | exact y_fieldAddrB rfl rfl rfl rfl rfl rfl | exact y_fieldAddr rfl rfl rfl rfl rfl rfl)) ?_; refine rm_yd rfl (by (first | exact y_ixE hl0.blk rfl rfl rfl rfl rfl rfl (by omega) (by omega) | exact y_ixI rfl rfl rfl rfl rfl (by assumption) rfl (by omega) (by omega))) ?_; refine rm_yd rfl (by exact y_move rfl) ?_; refine rm_yd rfl (by exact y_move rfl) ?_; refine rm_yd rfl (by (first | exact y_fieldAddrB rfl rfl rfl rfl rfl rfl | exact y_fieldAddr rfl rfl rfl rfl rfl rfl)) ?_; refine rm_yd rfl (by (first | exact y_ixE hl0.blk rfl rfl rfl rfl rfl rfl (by omega) (by omega) | exact y_ixI rfl rfl rfl rfl rfl (by assumption) rfl (by omega) (by omega))) ?_; refine rm_yd rfl (by exact y_move rfl) ?_; refine rm_yd rfl (by exact y_move rfl) ?_; refine rm_yd rfl (by (first | exact y_fieldAddrB rfl rfl rfl rfl rfl rfl | exact y_fieldAddr rfl rfl rfl rfl rfl rfl)) ?_; refine rm_yd rfl (by (first | exact y_ixE hl0.blk rfl rfl rfl rfl rfl rfl (by omega) (by omega) | exact y_ixI rfl rfl rfl rfl rfl (by assumption) rfl (by omega) (by omega))) ?_; refine rm_yd rfl (by exact y_move rfl) ?_; refine rm_yd rfl (by exact y_move rfl) ?_; refine rm_yd rfl (by exact y_move rfl) ?_; exact rm_nil) ?_
    clear hK K
    refine d_effM 21 [16, 15, 14, 13, 10, 9, 8, 7, 4, 3, 2, 1, 0] [true, true, true, true, true, true, true, true, true, true, true, true, false] rfl (by kernel_rfl) rfl (by kernel_rfl) (fun K hK => ?_)
    refine s_append rfl rfl rfl rfl rfl rfl rfl rfl rfl (by omega) rfl (fun G' g' => ?_)
    refine s_done ?_
    refine hK _ _ (by refine rm_yd rfl (by (first | exact y_fieldAddrB rfl rfl rfl rfl rfl rfl | exact y_fieldAddr rfl rfl rfl rfl rfl rfl)) ?_; refine rm_yd rfl (by (first | exact y_ixE hl0.blk rfl rfl rfl rfl rfl rfl (by omega) (by omega) | exact y_ixI rfl rfl rfl rfl rfl (by assumption) rfl (by omega) (by omega))) ?_; refine rm_yd rfl (by exact y_move rfl) ?_; refine rm_yd rfl (by exact y_move rfl) ?_; refine rm_yd rfl (by (first | exact y_fieldAddrB rfl rfl rfl rfl rfl rfl | exact y_fieldAddr rfl rfl rfl rfl rfl rfl)) ?_; refine rm_yd rfl (by (first | exact y_ixE hl0.blk rfl rfl rfl rfl rfl rfl (by omega) (by omega) | exact y_ixI rfl rfl rfl rfl rfl (by assumption) rfl (by omega) (by omega))) ?_; refine rm_yd rfl (by exact y_move rfl) ?_; refine rm_yd rfl (by exact y_move rfl) ?_; refine rm_yd rfl (by (first | exact y_fieldAddrB rfl rfl rfl rfl rfl rfl | exact y_fieldAddr rfl rfl rfl rfl rfl rfl)) ?_; refine rm_yd rfl (by (first | exact y_ixE hl0.blk rfl rfl rfl rfl rfl rfl (by omega) (by omega) | exact y_ixI rfl rfl rfl rfl rfl (by assumption) rfl (by omega) (by omega))) ?_; refine rm_yd rfl (by exact y_move rfl) ?_; refine rm_yd rfl (by exact y_move rfl) ?_; refine rm_skip ?_; exact rm_nil) ?_
    clear hK K
    refine d_take 22 rfl (by kernel_rfl) (by exact y_assign rfl) rfl ?_
    refine d_done (by kernel_rfl) ?_
    change J _ _ _ (Sl 43 3 G' (i + 1) g' (l'.flatMap encBr ++ [.slice A1 b.vars.length c1, .slice A2 b.cols.length c2, .slice A3 b.edge.length c3]) :: _) _
    obtain ⟨b', hb'⟩ : ∃ b' : BrD, b' = ⟨A1, c1, b.vars, A2, c2, b.cols, A3, c3, b.edge⟩ := ⟨_, rfl⟩
    refine J.perm (Tk.perm (K := [Sl 3 1 A1 (b.vars.length + 12) c1 (ints (b.vars ++ marks)), Sl 3 1 A2 (b.cols.length + 12) c2 (ints (b.cols ++ marks)), Sl 3 1 A3 (b.edge.length + 12) c3 (ints (b.edge ++ marks))])) ?_
    refine J.group.1 ?_
    rw [show star [Sl 3 1 A1 (b.vars.length + 12) c1 (ints (b.vars ++ marks)), Sl 3 1 A2 (b.cols.length + 12) c2 (ints (b.cols ++ marks)), Sl 3 1 A3 (b.edge.length + 12) c3 (ints (b.edge ++ marks))] = lbHP b' by rw [hb']; rfl]
    refine J.perm (Tk.perm (K := [lbHP b', Go.E.bs (fun j => lbHP (l'.getD j .no)) i])) ?_
    dsimp only [List.cons_append, List.nil_append]
    refine J.bsSnoc (fun j => lbHP ((l' ++ [b']).getD j .no)) (by (try dsimp only); rw [app_getD_r (by omega), hl, Nat.sub_self]; rfl) (fun j hj => by (try dsimp only); rw [app_getD_l (by omega)]) ?_
    refine J.perm (Tk.perm (K := [Sl 43 3 G' (i + 1) g' (l'.flatMap encBr ++ [.slice A1 b.vars.length c1, .slice A2 b.cols.length c2, .slice A3 b.edge.length c3])])) ?_
    dsimp only [List.cons_append, List.nil_append]
    rw [show l'.flatMap encBr ++ [.slice A1 b.vars.length c1, .slice A2 b.cols.length c2, .slice A3 b.edge.length c3] = (l' ++ [b']).flatMap encBr by rw [hb']; simp [encBr]]
    refine s_endb ?_
    refine s_region ?_
    refine s_q (y_move rfl) rfl ?_
    refine s_q (y_add rfl rfl (by omega)) rfl ?_
    refine s_q (y_assign rfl) rfl ?_
    refine s_done ?_
    refine s_inv (i + 1, G', g', l' ++ [b']) ⟨(by (try dsimp only); omega), by simp [hl], ?_⟩ (by (try dsimp only); omega) ⟨rfl, rfl, rfl, trivial⟩ tk
    dsimp only
    rw [Alike, take_D .no hil, List.map_append, List.map_append, hal, hb, hb']; rfl
  · have hil : i = l.length := by omega
    rw [List.take_of_length_le (by omega)] at hal
    subst hl
    refine s_exit rfl ?_
    refine s_seq ?_
    refine s_region ?_
    refine s_q (y_move rfl) rfl ?_
    refine s_q (y_assign rfl) rfl ?_
    refine s_done ?_
    exact s_return (R := LentBr l) ⟨G, g, l', hal, rfl, rfl⟩ (res_tmp Tryz.results9 rfl)
def RefBr (l : List BrD) (v : Value) (L : List HP) : Prop := ∃ (G : Option Addr) (g : Nat), v = .slice G l.length g ∧ L = [Sl 46 3 G l.length g (l.flatMap encBr)]
theorem refs_spec (w : World) (N : Nat → Prop) (T : Option Addr) (t n : Nat) (l : List BrD) (hn : n = l.length) (ho : Owns w [] N) (hl0 : KBr w N T l) (h3 : l.length ≤ 1000) : Ret Tryz.prog 12 [.slice T n t] w N (RefBr l) := by
  subst hn
  refine ret_of_J cx Tryz.func12 rfl (Nat.le_of_ble_eq_true rfl) ho ?_
  refine s_seq ?_
  refine s_region ?_
  refine s_q (y_assign rfl) rfl ?_
  refine s_done ?_
  refine s_seq ?_
  refine s_region ?_
  refine s_q (y_assign rfl) rfl ?_
  refine s_done ?_
  refine s_seq ?_
  refine s_seq ?_
  refine s_region ?_
  refine s_q (y_assign rfl) rfl ?_
  refine s_done ?_
  refine s_block ?_
  refine J.emp (B := Sl 46 3 none 0 0 ((l.take 0).flatMap encBr)) (Sl.ofNil _ _) ?_
  refine s_loopV (σ := Nat × Option Addr × Nat) (fun s => [(4, .int .i64 s.1), (3, .slice s.2.1 s.1 s.2.2)]) (fun s => [Sl 46 3 s.2.1 s.1 s.2.2 ((l.take s.1).flatMap encBr)]) (fun s => (s.1 ≤ l.length)) (fun s => l.length - s.1) (0, none, 0) [(0, _)] ⟨rfl, trivial⟩ ⟨rfl, rfl, trivial⟩ tk (Nat.zero_le _) ?_
  rintro ⟨i, G, g⟩ hi
  try dsimp only [List.cons_append, List.nil_append, List.append_nil] at hi ⊢
  refine s_seq ?_
  refine s_seq ?_
  refine s_region ?_
  refine s_q (y_move rfl) rfl ?_
  refine s_q (y_move rfl) rfl ?_
  refine s_q (y_lenS rfl rfl rfl) rfl ?_
  refine s_q (y_lss rfl rfl) rfl ?_
  refine s_done ?_
  refine s_cond rfl (fun h => ?_) (fun h => ?_)
  · have hil : i < l.length := by omega
    obtain ⟨b, hb⟩ : ∃ b, l.getD i .no = b := ⟨_, rfl⟩
    refine s_skip ?_
    refine s_seq ?_
    refine s_block ?_
    refine d_start ?_
    refine d_take 0 rfl (by kernel_rfl) (by exact y_move rfl) rfl ?_
    refine d_take 1 rfl (by kernel_rfl) (by exact y_move rfl) rfl ?_
    refine d_take 2 rfl (by kernel_rfl) (by exact y_move rfl) rfl ?_
    refine d_take 3 rfl (by kernel_rfl) (by (first | exact y_ixE hl0.blk rfl rfl rfl rfl rfl rfl (by omega) (by omega) | exact y_ixI rfl rfl rfl rfl rfl (by assumption) rfl (by omega) (by omega))) rfl ?_
    refine d_take 4 rfl (by kernel_rfl) (by (first | exact y_fieldAddrB rfl rfl rfl rfl rfl rfl | exact y_fieldAddr rfl rfl rfl rfl rfl rfl)) rfl ?_
    refine d_take 5 rfl (by kernel_rfl) (by (first | exact y_ldF (off := 0) (v := .slice b.A b.vars.length b.c) hl0.blk rfl rfl rfl (by omega) (by rw [hb]; rfl) | exact y_ldF (off := 1) (v := .slice b.B b.cols.length b.d) hl0.blk rfl rfl rfl (by omega) (by rw [hb]; rfl) | exact y_ldF (off := 2) (v := .slice b.C b.edge.length b.e) hl0.blk rfl rfl rfl (by omega) (by rw [hb]; rfl) | exact y_ld rfl rfl rfl (by rfl) | exact y_ldN rfl rfl rfl (by rfl) | exact y_ldK rfl rfl rfl rfl (by assumption) (by omega) | exact y_ldI rfl rfl rfl rfl (by assumption) (by omega) (by omega))) rfl ?_
    refine d_take 6 rfl (by kernel_rfl) (by exact y_move rfl) rfl ?_
    refine d_take 7 rfl (by kernel_rfl) (by exact y_move rfl) rfl ?_
    refine d_take 8 rfl (by kernel_rfl) (by (first | exact y_ixE hl0.blk rfl rfl rfl rfl rfl rfl (by omega) (by omega) | exact y_ixI rfl rfl rfl rfl rfl (by assumption) rfl (by omega) (by omega))) rfl ?_
    refine d_take 9 rfl (by kernel_rfl) (by (first | exact y_fieldAddrB rfl rfl rfl rfl rfl rfl | exact y_fieldAddr rfl rfl rfl rfl rfl rfl)) rfl ?_
    refine d_take 10 rfl (by kernel_rfl) (by (first | exact y_ldF (off := 0) (v := .slice b.A b.vars.length b.c) hl0.blk rfl rfl rfl (by omega) (by rw [hb]; rfl) | exact y_ldF (off := 1) (v := .slice b.B b.cols.length b.d) hl0.blk rfl rfl rfl (by omega) (by rw [hb]; rfl) | exact y_ldF (off := 2) (v := .slice b.C b.edge.length b.e) hl0.blk rfl rfl rfl (by omega) (by rw [hb]; rfl) | exact y_ld rfl rfl rfl (by rfl) | exact y_ldN rfl rfl rfl (by rfl) | exact y_ldK rfl rfl rfl rfl (by assumption) (by omega) | exact y_ldI rfl rfl rfl rfl (by assumption) (by omega) (by omega))) rfl ?_
    refine d_take 11 rfl (by kernel_rfl) (by exact y_move rfl) rfl ?_
    refine d_take 12 rfl (by kernel_rfl) (by exact y_move rfl) rfl ?_
    refine d_take 13 rfl (by kernel_rfl) (by (first | exact y_ixE hl0.blk rfl rfl rfl rfl rfl rfl (by omega) (by omega) | exact y_ixI rfl rfl rfl rfl rfl (by assumption) rfl (by omega) (by omega))) rfl ?_
    refine d_take 14 rfl (by kernel_rfl) (by (first | exact y_fieldAddrB rfl rfl rfl rfl rfl rfl | exact y_fieldAddr rfl rfl rfl rfl rfl rfl)) rfl ?_
    refine d_take 15 rfl (by kernel_rfl) (by (first | exact y_ldF (off := 0) (v := .slice b.A b.vars.length b.c) hl0.blk rfl rfl rfl (by omega) (by rw [hb]; rfl) | exact y_ldF (off := 1) (v := .slice b.B b.cols.length b.d) hl0.blk rfl rfl rfl (by omega) (by rw [hb]; rfl) | exact y_ldF (off := 2) (v := .slice b.C b.edge.length b.e) hl0.blk rfl rfl rfl (by omega) (by rw [hb]; rfl) | exact y_ld rfl rfl rfl (by rfl) | exact y_ldN rfl rfl rfl (by rfl) | exact y_ldK rfl rfl rfl rfl (by assumption) (by omega) | exact y_ldI rfl rfl rfl rfl (by assumption) (by omega) (by omega))) rfl ?_
    refine d_take 16 rfl (by kernel_rfl) (by exact y_build rfl rfl rfl rfl) rfl ?_
    refine d_effM 17 [16, 15, 14, 13, 12, 11, 10, 9, 8, 7, 6, 5, 4, 3, 2, 1, 0] [false, true, true, true, true, true, true, true, true, true, true, true, true, true, true, true, true] rfl (by kernel_rfl) rfl (by kernel_rfl) (fun K hK => ?_)
    refine s_bslice rfl rfl rfl rfl rfl rfl rfl rfl (fun bn => ?_)
    refine s_done ?_
    refine hK _ _ (by refine rm_skip ?_; refine rm_yd rfl (by (first | exact y_ldF (off := 0) (v := .slice b.A b.vars.length b.c) hl0.blk rfl rfl rfl (by omega) (by rw [hb]; rfl) | exact y_ldF (off := 1) (v := .slice b.B b.cols.length b.d) hl0.blk rfl rfl rfl (by omega) (by rw [hb]; rfl) | exact y_ldF (off := 2) (v := .slice b.C b.edge.length b.e) hl0.blk rfl rfl rfl (by omega) (by rw [hb]; rfl) | exact y_ld rfl rfl rfl (by rfl) | exact y_ldN rfl rfl rfl (by rfl) | exact y_ldK rfl rfl rfl rfl (by assumption) (by omega) | exact y_ldI rfl rfl rfl rfl (by assumption) (by omega) (by omega))) ?_; refine rm_yd rfl (by (first | exact y_fieldAddrB rfl rfl rfl rfl rfl rfl | exact y_fieldAddr rfl rfl rfl rfl rfl rfl)) ?_; refine rm_yd rfl (by (first | exact y_ixE hl0.blk rfl rfl rfl rfl rfl rfl (by omega) (by omega) | exact y_ixI rfl rfl rfl rfl rfl (by assumption) rfl (by omega) (by omega))) ?_; refine rm_yd rfl (by exact y_move rfl) ?_; refine rm_yd rfl (by exact y_move rfl) ?_; refine rm_yd rfl (by (first | exact y_ldF (off := 0) (v := .slice b.A b.vars.length b.c) hl0.blk rfl rfl rfl (by omega) (by rw [hb]; rfl) | exact y_ldF (off := 1) (v := .slice b.B b.cols.length b.d) hl0.blk rfl rfl rfl (by omega) (by rw [hb]; rfl) | exact y_ldF (off := 2) (v := .slice b.C b.edge.length b.e) hl0.blk rfl rfl rfl (by omega) (by rw [hb]; rfl) | exact y_ld rfl rfl rfl (by rfl) | exact y_ldN rfl rfl rfl (by rfl) | exact y_ldK rfl rfl rfl rfl (by assumption) (by omega) | exact y_ldI rfl rfl rfl rfl (by assumption) (by omega) (by omega))) ?_; refine rm_yd rfl (by (first | exact y_fieldAddrB rfl rfl rfl rfl rfl rfl | exact y_fieldAddr rfl rfl rfl rfl rfl rfl)) ?_; refine rm_yd rfl (by (first | exact y_ixE hl0.blk rfl rfl rfl rfl rfl rfl (by omega) (by omega) | exact y_ixI rfl rfl rfl rfl rfl (by assumption) rfl (by omega) (by omega))) ?_; refine rm_yd rfl (by exact y_move rfl) ?_; refine rm_yd rfl (by exact y_move rfl) ?_; refine rm_yd rfl (by (first | exact y_ldF (off := 0) (v := .slice b.A b.vars.length b.c) hl0.blk rfl rfl rfl (by omega) (by rw [hb]; rfl) | exact y_ldF (off := 1) (v := .slice b.B b.cols.length b.d) hl0.blk rfl rfl rfl (by omega) (by rw [hb]; rfl) | exact y_ldF (off := 2) (v := .slice b.C b.edge.length b.e) hl0.blk rfl rfl rfl (by omega) (by rw [hb]; rfl) | exact y_ld rfl rfl rfl (by rfl) | exact y_ldN rfl rfl rfl (by rfl) | exact y_ldK rfl rfl rfl rfl (by assumption) (by omega) | exact y_ldI rfl rfl rfl rfl (by assumption) (by omega) (by omega))) ?_; refine rm_yd rfl (by (first | exact y_fieldAddrB rfl rfl rfl rfl rfl rfl | exact y_fieldAddr rfl rfl rfl rfl rfl rfl)) ?_; refine rm_yd rfl (by (first | exact y_ixE hl0.blk rfl rfl rfl rfl rfl rfl (by omega) (by omega) | exact y_ixI rfl rfl rfl rfl rfl (by assumption) rfl (by omega) (by omega))) ?_; refine rm_yd rfl (by exact y_move rfl) ?_; refine rm_yd rfl (by exact y_move rfl) ?_; refine rm_yd rfl (by exact y_move rfl) ?_; exact rm_nil) ?_
    clear hK K
    refine d_effM 18 [15, 14, 13, 12, 11, 10, 9, 8, 7, 6, 5, 4, 3, 2, 1, 0] [true, true, true, true, true, true, true, true, true, true, true, true, true, true, true, false] rfl (by kernel_rfl) rfl (by kernel_rfl) (fun K hK => ?_)
    refine s_append rfl rfl rfl rfl rfl rfl rfl rfl rfl (by omega) rfl (fun G' g' => ?_)
    refine s_done ?_
    refine hK _ _ (by refine rm_yd rfl (by (first | exact y_ldF (off := 0) (v := .slice b.A b.vars.length b.c) hl0.blk rfl rfl rfl (by omega) (by rw [hb]; rfl) | exact y_ldF (off := 1) (v := .slice b.B b.cols.length b.d) hl0.blk rfl rfl rfl (by omega) (by rw [hb]; rfl) | exact y_ldF (off := 2) (v := .slice b.C b.edge.length b.e) hl0.blk rfl rfl rfl (by omega) (by rw [hb]; rfl) | exact y_ld rfl rfl rfl (by rfl) | exact y_ldN rfl rfl rfl (by rfl) | exact y_ldK rfl rfl rfl rfl (by assumption) (by omega) | exact y_ldI rfl rfl rfl rfl (by assumption) (by omega) (by omega))) ?_; refine rm_yd rfl (by (first | exact y_fieldAddrB rfl rfl rfl rfl rfl rfl | exact y_fieldAddr rfl rfl rfl rfl rfl rfl)) ?_; refine rm_yd rfl (by (first | exact y_ixE hl0.blk rfl rfl rfl rfl rfl rfl (by omega) (by omega) | exact y_ixI rfl rfl rfl rfl rfl (by assumption) rfl (by omega) (by omega))) ?_; refine rm_yd rfl (by exact y_move rfl) ?_; refine rm_yd rfl (by exact y_move rfl) ?_; refine rm_yd rfl (by (first | exact y_ldF (off := 0) (v := .slice b.A b.vars.length b.c) hl0.blk rfl rfl rfl (by omega) (by rw [hb]; rfl) | exact y_ldF (off := 1) (v := .slice b.B b.cols.length b.d) hl0.blk rfl rfl rfl (by omega) (by rw [hb]; rfl) | exact y_ldF (off := 2) (v := .slice b.C b.edge.length b.e) hl0.blk rfl rfl rfl (by omega) (by rw [hb]; rfl) | exact y_ld rfl rfl rfl (by rfl) | exact y_ldN rfl rfl rfl (by rfl) | exact y_ldK rfl rfl rfl rfl (by assumption) (by omega) | exact y_ldI rfl rfl rfl rfl (by assumption) (by omega) (by omega))) ?_; refine rm_yd rfl (by (first | exact y_fieldAddrB rfl rfl rfl rfl rfl rfl | exact y_fieldAddr rfl rfl rfl rfl rfl rfl)) ?_; refine rm_yd rfl (by (first | exact y_ixE hl0.blk rfl rfl rfl rfl rfl rfl (by omega) (by omega) | exact y_ixI rfl rfl rfl rfl rfl (by assumption) rfl (by omega) (by omega))) ?_; refine rm_yd rfl (by exact y_move rfl) ?_; refine rm_yd rfl (by exact y_move rfl) ?_; refine rm_yd rfl (by (first | exact y_ldF (off := 0) (v := .slice b.A b.vars.length b.c) hl0.blk rfl rfl rfl (by omega) (by rw [hb]; rfl) | exact y_ldF (off := 1) (v := .slice b.B b.cols.length b.d) hl0.blk rfl rfl rfl (by omega) (by rw [hb]; rfl) | exact y_ldF (off := 2) (v := .slice b.C b.edge.length b.e) hl0.blk rfl rfl rfl (by omega) (by rw [hb]; rfl) | exact y_ld rfl rfl rfl (by rfl) | exact y_ldN rfl rfl rfl (by rfl) | exact y_ldK rfl rfl rfl rfl (by assumption) (by omega) | exact y_ldI rfl rfl rfl rfl (by assumption) (by omega) (by omega))) ?_; refine rm_yd rfl (by (first | exact y_fieldAddrB rfl rfl rfl rfl rfl rfl | exact y_fieldAddr rfl rfl rfl rfl rfl rfl)) ?_; refine rm_yd rfl (by (first | exact y_ixE hl0.blk rfl rfl rfl rfl rfl rfl (by omega) (by omega) | exact y_ixI rfl rfl rfl rfl rfl (by assumption) rfl (by omega) (by omega))) ?_; refine rm_yd rfl (by exact y_move rfl) ?_; refine rm_yd rfl (by exact y_move rfl) ?_; refine rm_skip ?_; exact rm_nil) ?_
    clear hK K
    refine d_take 19 rfl (by kernel_rfl) (by exact y_assign rfl) rfl ?_
    refine d_done (by kernel_rfl) ?_
    change J _ _ _ (Sl 46 3 G' (i + 1) g' ((l.take i).flatMap encBr ++ encBr b) :: _) _
    rw [show (l.take i).flatMap encBr ++ encBr b = (l.take (i + 1)).flatMap encBr by rw [take_D .no hil, hb]; simp]
    refine s_endb ?_
    refine s_region ?_
    refine s_q (y_move rfl) rfl ?_
    refine s_q (y_add rfl rfl (by omega)) rfl ?_
    refine s_q (y_assign rfl) rfl ?_
    refine s_done ?_
    refine s_inv (i + 1, G', g') (by (try dsimp only); omega) (by (try dsimp only); omega) ⟨rfl, rfl, rfl, trivial⟩ tk
  · have hil : i = l.length := by omega
    subst hil
    rw [List.take_length]
    refine s_exit rfl ?_
    refine s_seq ?_
    refine s_region ?_
    refine s_q (y_move rfl) rfl ?_
    refine s_q (y_assign rfl) rfl ?_
    refine s_done ?_
    exact s_return (R := RefBr l) ⟨G, g, rfl, rfl⟩ (res_tmp Tryz.results12 rfl)
theorem kept_spec (w : World) (N : Nat → Prop) (X T : Option Addr) (x t n m : Nat) (l' l : List BrD) (hn : n = l'.length) (hm : m = l.length) (ho : Owns w [] N) (hx : KE 3 encBr .no w N X l') (hx2 : ∀ b ∈ l', LB w N b) (hl0 : KBr w N T l) (hal : Alike l' l) (hok : ∀ b ∈ l, few 1000 b) (h3 : l.length ≤ 1000) :
    Ret Tryz.prog 16 [.slice X n x, .slice T m t] w N fun v L => v = .bool true ∧ L = [] := by
  subst hn hm
  have hll := hal.len
  refine ret_of_J cx Tryz.func16 rfl (Nat.le_of_ble_eq_true rfl) ho ?_
  refine s_seq ?_
  refine s_region ?_
  refine s_q (y_assign rfl) rfl ?_
  refine s_done ?_
  refine s_seq ?_
  refine s_seq ?_
  refine s_region ?_
  refine s_q (y_assign rfl) rfl ?_
  refine s_done ?_
  refine s_block ?_
  refine s_loopV (σ := Nat) (fun s => [(5, .int .i64 s)]) (fun s => []) (fun s => (s ≤ l.length)) (fun s => l.length - s) (0) [(0, _), (1, _)] ⟨rfl, rfl, trivial⟩ ⟨rfl, trivial⟩ tk (Nat.zero_le _) ?_
  rintro i hi
  try dsimp only [List.cons_append, List.nil_append, List.append_nil] at hi ⊢
  refine s_seq ?_
  refine s_seq ?_
  refine s_region ?_
  refine s_q (y_move rfl) rfl ?_
  refine s_q (y_move rfl) rfl ?_
  refine s_q (y_lenS rfl rfl rfl) rfl ?_
  refine s_q (y_lss rfl rfl) rfl ?_
  refine s_done ?_
  refine s_cond rfl (fun h => ?_) (fun h => ?_)
  · have hil : i < l.length := by omega
    have hm := getD_mem BrD.no hil
    have hm2 := getD_mem BrD.no (l := l') (k := i) (by omega)
    obtain ⟨e1, e2, e3⟩ := bare_eq (hal.at i)
    obtain ⟨b, hb⟩ : ∃ b, l.getD i .no = b := ⟨_, rfl⟩
    obtain ⟨y, hy⟩ : ∃ y, l'.getD i .no = y := ⟨_, rfl⟩
    rw [hb] at hm e1 e2 e3
    rw [hy] at hm2 e1 e2 e3
    have hrow := hl0.row _ hm
    have hbk := hok _ hm
    have hlb := hx2 _ hm2
    have l1 := congrArg List.length e1
    have l2 := congrArg List.length e2
    have l3 := congrArg List.length e3
    have hvc := hlb.vc
    have hcc := hlb.cc
    have hec := hlb.ec
    refine s_skip ?_
    refine s_seq ?_
    refine s_block ?_
    refine s_seq ?_
    refine d_start ?_
    refine d_take 0 rfl (by kernel_rfl) (by exact y_move rfl) rfl ?_
    refine d_take 1 rfl (by kernel_rfl) (by exact y_move rfl) rfl ?_
    refine d_take 2 rfl (by kernel_rfl) (by (first | exact y_ixE hx rfl rfl rfl rfl rfl rfl (by omega) (by omega) | exact y_ixE hl0.blk rfl rfl rfl rfl rfl rfl (by omega) (by omega) | exact y_ixI rfl rfl rfl rfl rfl (by assumption) rfl (by omega) (by omega))) rfl ?_
    refine d_take 3 rfl (by kernel_rfl) (by (first | exact y_fieldAddrB rfl rfl rfl rfl rfl rfl | exact y_fieldAddr rfl rfl rfl rfl rfl rfl)) rfl ?_
    refine d_take 4 rfl (by kernel_rfl) (by (first | exact y_ldF (off := 0) (v := .slice b.A b.vars.length b.c) hl0.blk rfl rfl rfl (by omega) (by rw [hb]; rfl) | exact y_ldF (off := 1) (v := .slice b.B b.cols.length b.d) hl0.blk rfl rfl rfl (by omega) (by rw [hb]; rfl) | exact y_ldF (off := 2) (v := .slice b.C b.edge.length b.e) hl0.blk rfl rfl rfl (by omega) (by rw [hb]; rfl) | exact y_ldF (off := 0) (v := .slice y.A y.vars.length y.c) hx rfl rfl rfl (by omega) (by rw [hy]; rfl) | exact y_ldF (off := 1) (v := .slice y.B y.cols.length y.d) hx rfl rfl rfl (by omega) (by rw [hy]; rfl) | exact y_ldF (off := 2) (v := .slice y.C y.edge.length y.e) hx rfl rfl rfl (by omega) (by rw [hy]; rfl) | exact y_ld rfl rfl rfl (by rfl) | exact y_ldN rfl rfl rfl (by rfl) | exact y_ldK rfl rfl rfl rfl (by assumption) (by omega) | exact y_ldI rfl rfl rfl rfl (by assumption) (by omega) (by omega))) rfl ?_
    refine d_take 5 rfl (by kernel_rfl) (by exact y_move rfl) rfl ?_
    refine d_take 6 rfl (by kernel_rfl) (by exact y_move rfl) rfl ?_
    refine d_take 7 rfl (by kernel_rfl) (by (first | exact y_ixE hx rfl rfl rfl rfl rfl rfl (by omega) (by omega) | exact y_ixE hl0.blk rfl rfl rfl rfl rfl rfl (by omega) (by omega) | exact y_ixI rfl rfl rfl rfl rfl (by assumption) rfl (by omega) (by omega))) rfl ?_
    refine d_take 8 rfl (by kernel_rfl) (by (first | exact y_fieldAddrB rfl rfl rfl rfl rfl rfl | exact y_fieldAddr rfl rfl rfl rfl rfl rfl)) rfl ?_
    refine d_take 9 rfl (by kernel_rfl) (by (first | exact y_ldF (off := 0) (v := .slice b.A b.vars.length b.c) hl0.blk rfl rfl rfl (by omega) (by rw [hb]; rfl) | exact y_ldF (off := 1) (v := .slice b.B b.cols.length b.d) hl0.blk rfl rfl rfl (by omega) (by rw [hb]; rfl) | exact y_ldF (off := 2) (v := .slice b.C b.edge.length b.e) hl0.blk rfl rfl rfl (by omega) (by rw [hb]; rfl) | exact y_ldF (off := 0) (v := .slice y.A y.vars.length y.c) hx rfl rfl rfl (by omega) (by rw [hy]; rfl) | exact y_ldF (off := 1) (v := .slice y.B y.cols.length y.d) hx rfl rfl rfl (by omega) (by rw [hy]; rfl) | exact y_ldF (off := 2) (v := .slice y.C y.edge.length y.e) hx rfl rfl rfl (by omega) (by rw [hy]; rfl) | exact y_ld rfl rfl rfl (by rfl) | exact y_ldN rfl rfl rfl (by rfl) | exact y_ldK rfl rfl rfl rfl (by assumption) (by omega) | exact y_ldI rfl rfl rfl rfl (by assumption) (by omega) (by omega))) rfl ?_
    refine d_effM 10 [9, 8, 7, 6, 5, 4, 3, 2, 1, 0] [false, true, true, true, true, false, true, true, true, true] rfl (by kernel_rfl) rfl (by kernel_rfl) (fun K hK => ?_)
    refine s_call (pre := []) (rem := _) rfl rfl tk (fun w N ho hl => KeptInts_spec w N y.A b.A y.c b.c _ _ y.vars rfl l1.symm ho (hlb.v.of hl) (by rw [e1]; exact hrow.v.of hl) (by omega) (by omega)) rfl ?_
    rintro e L' ⟨rfl, rfl⟩
    try simp only [List.nil_append, List.cons_append, List.append_nil]
    refine s_done ?_
    refine hK _ _ (by refine rm_skip ?_; refine rm_yd rfl (by (first | exact y_fieldAddrB rfl rfl rfl rfl rfl rfl | exact y_fieldAddr rfl rfl rfl rfl rfl rfl)) ?_; refine rm_yd rfl (by (first | exact y_ixE hx rfl rfl rfl rfl rfl rfl (by omega) (by omega) | exact y_ixE hl0.blk rfl rfl rfl rfl rfl rfl (by omega) (by omega) | exact y_ixI rfl rfl rfl rfl rfl (by assumption) rfl (by omega) (by omega))) ?_; refine rm_yd rfl (by exact y_move rfl) ?_; refine rm_yd rfl (by exact y_move rfl) ?_; refine rm_skip ?_; refine rm_yd rfl (by (first | exact y_fieldAddrB rfl rfl rfl rfl rfl rfl | exact y_fieldAddr rfl rfl rfl rfl rfl rfl)) ?_; refine rm_yd rfl (by (first | exact y_ixE hx rfl rfl rfl rfl rfl rfl (by omega) (by omega) | exact y_ixE hl0.blk rfl rfl rfl rfl rfl rfl (by omega) (by omega) | exact y_ixI rfl rfl rfl rfl rfl (by assumption) rfl (by omega) (by omega))) ?_; refine rm_yd rfl (by exact y_move rfl) ?_; refine rm_yd rfl (by exact y_move rfl) ?_; exact rm_nil) ?_
    clear hK K
    refine d_take 11 rfl (by kernel_rfl) (by (first | exact y_notT rfl | exact y_notF rfl | exact y_notp rfl | exact y_notb rfl)) rfl ?_
    refine d_take 12 rfl (by kernel_rfl) (by exact y_move rfl) rfl ?_
    refine d_takeG 13 rfl (by kernel_rfl) rfl rfl (by exact y_move rfl) rfl ?_
    refine d_takeG 14 rfl (by kernel_rfl) rfl rfl (by exact y_move rfl) rfl ?_
    refine d_takeG 15 rfl (by kernel_rfl) rfl rfl (by (first | exact y_ixE hx rfl rfl rfl rfl rfl rfl (by omega) (by omega) | exact y_ixE hl0.blk rfl rfl rfl rfl rfl rfl (by omega) (by omega) | exact y_ixI rfl rfl rfl rfl rfl (by assumption) rfl (by omega) (by omega))) rfl ?_
    refine d_takeG 16 rfl (by kernel_rfl) rfl rfl (by (first | exact y_fieldAddrB rfl rfl rfl rfl rfl rfl | exact y_fieldAddr rfl rfl rfl rfl rfl rfl)) rfl ?_
    refine d_takeG 17 rfl (by kernel_rfl) rfl rfl (by (first | exact y_ldF (off := 0) (v := .slice b.A b.vars.length b.c) hl0.blk rfl rfl rfl (by omega) (by rw [hb]; rfl) | exact y_ldF (off := 1) (v := .slice b.B b.cols.length b.d) hl0.blk rfl rfl rfl (by omega) (by rw [hb]; rfl) | exact y_ldF (off := 2) (v := .slice b.C b.edge.length b.e) hl0.blk rfl rfl rfl (by omega) (by rw [hb]; rfl) | exact y_ldF (off := 0) (v := .slice y.A y.vars.length y.c) hx rfl rfl rfl (by omega) (by rw [hy]; rfl) | exact y_ldF (off := 1) (v := .slice y.B y.cols.length y.d) hx rfl rfl rfl (by omega) (by rw [hy]; rfl) | exact y_ldF (off := 2) (v := .slice y.C y.edge.length y.e) hx rfl rfl rfl (by omega) (by rw [hy]; rfl) | exact y_ld rfl rfl rfl (by rfl) | exact y_ldN rfl rfl rfl (by rfl) | exact y_ldK rfl rfl rfl rfl (by assumption) (by omega) | exact y_ldI rfl rfl rfl rfl (by assumption) (by omega) (by omega))) rfl ?_
    refine d_takeG 18 rfl (by kernel_rfl) rfl rfl (by exact y_move rfl) rfl ?_
    refine d_takeG 19 rfl (by kernel_rfl) rfl rfl (by exact y_move rfl) rfl ?_
    refine d_takeG 20 rfl (by kernel_rfl) rfl rfl (by (first | exact y_ixE hx rfl rfl rfl rfl rfl rfl (by omega) (by omega) | exact y_ixE hl0.blk rfl rfl rfl rfl rfl rfl (by omega) (by omega) | exact y_ixI rfl rfl rfl rfl rfl (by assumption) rfl (by omega) (by omega))) rfl ?_
    refine d_takeG 21 rfl (by kernel_rfl) rfl rfl (by (first | exact y_fieldAddrB rfl rfl rfl rfl rfl rfl | exact y_fieldAddr rfl rfl rfl rfl rfl rfl)) rfl ?_
    refine d_takeG 22 rfl (by kernel_rfl) rfl rfl (by (first | exact y_ldF (off := 0) (v := .slice b.A b.vars.length b.c) hl0.blk rfl rfl rfl (by omega) (by rw [hb]; rfl) | exact y_ldF (off := 1) (v := .slice b.B b.cols.length b.d) hl0.blk rfl rfl rfl (by omega) (by rw [hb]; rfl) | exact y_ldF (off := 2) (v := .slice b.C b.edge.length b.e) hl0.blk rfl rfl rfl (by omega) (by rw [hb]; rfl) | exact y_ldF (off := 0) (v := .slice y.A y.vars.length y.c) hx rfl rfl rfl (by omega) (by rw [hy]; rfl) | exact y_ldF (off := 1) (v := .slice y.B y.cols.length y.d) hx rfl rfl rfl (by omega) (by rw [hy]; rfl) | exact y_ldF (off := 2) (v := .slice y.C y.edge.length y.e) hx rfl rfl rfl (by omega) (by rw [hy]; rfl) | exact y_ld rfl rfl rfl (by rfl) | exact y_ldN rfl rfl rfl (by rfl) | exact y_ldK rfl rfl rfl rfl (by assumption) (by omega) | exact y_ldI rfl rfl rfl rfl (by assumption) (by omega) (by omega))) rfl ?_
    refine d_effM 23 [22, 21, 20, 19, 18, 17, 16, 15, 14, 13, 12, 11, 8, 7, 6, 5, 3, 2, 1, 0] [false, true, true, true, true, false, true, true, true, true, false, true, true, true, true, true, true, true, true, true] rfl (by kernel_rfl) rfl (by kernel_rfl) (fun K hK => ?_)
    refine s_guard rfl rfl ?_
    refine s_call (pre := []) (rem := _) rfl rfl tk (fun w N ho hl => KeptInts_spec w N y.B b.B y.d b.d _ _ y.cols rfl l2.symm ho (hlb.c.of hl) (by rw [e2]; exact hrow.c.of hl) (by omega) (by omega)) rfl ?_
    rintro e L' ⟨rfl, rfl⟩
    try simp only [List.nil_append, List.cons_append, List.append_nil]
    refine s_done ?_
    refine hK _ _ (by refine rm_skip ?_; refine rm_yd rfl (by (first | exact y_fieldAddrB rfl rfl rfl rfl rfl rfl | exact y_fieldAddr rfl rfl rfl rfl rfl rfl)) ?_; refine rm_yd rfl (by (first | exact y_ixE hx rfl rfl rfl rfl rfl rfl (by omega) (by omega) | exact y_ixE hl0.blk rfl rfl rfl rfl rfl rfl (by omega) (by omega) | exact y_ixI rfl rfl rfl rfl rfl (by assumption) rfl (by omega) (by omega))) ?_; refine rm_yd rfl (by exact y_move rfl) ?_; refine rm_yd rfl (by exact y_move rfl) ?_; refine rm_skip ?_; refine rm_yd rfl (by (first | exact y_fieldAddrB rfl rfl rfl rfl rfl rfl | exact y_fieldAddr rfl rfl rfl rfl rfl rfl)) ?_; refine rm_yd rfl (by (first | exact y_ixE hx rfl rfl rfl rfl rfl rfl (by omega) (by omega) | exact y_ixE hl0.blk rfl rfl rfl rfl rfl rfl (by omega) (by omega) | exact y_ixI rfl rfl rfl rfl rfl (by assumption) rfl (by omega) (by omega))) ?_; refine rm_yd rfl (by exact y_move rfl) ?_; refine rm_yd rfl (by exact y_move rfl) ?_; refine rm_skip ?_; refine rm_yd rfl (by (first | exact y_notT rfl | exact y_notF rfl | exact y_notp rfl | exact y_notb rfl)) ?_; refine rm_yd rfl (by (first | exact y_fieldAddrB rfl rfl rfl rfl rfl rfl | exact y_fieldAddr rfl rfl rfl rfl rfl rfl)) ?_; refine rm_yd rfl (by (first | exact y_ixE hx rfl rfl rfl rfl rfl rfl (by omega) (by omega) | exact y_ixE hl0.blk rfl rfl rfl rfl rfl rfl (by omega) (by omega) | exact y_ixI rfl rfl rfl rfl rfl (by assumption) rfl (by omega) (by omega))) ?_; refine rm_yd rfl (by exact y_move rfl) ?_; refine rm_yd rfl (by exact y_move rfl) ?_; refine rm_yd rfl (by (first | exact y_fieldAddrB rfl rfl rfl rfl rfl rfl | exact y_fieldAddr rfl rfl rfl rfl rfl rfl)) ?_; refine rm_yd rfl (by (first | exact y_ixE hx rfl rfl rfl rfl rfl rfl (by omega) (by omega) | exact y_ixE hl0.blk rfl rfl rfl rfl rfl rfl (by omega) (by omega) | exact y_ixI rfl rfl rfl rfl rfl (by assumption) rfl (by omega) (by omega))) ?_; refine rm_yd rfl (by exact y_move rfl) ?_; refine rm_yd rfl (by exact y_move rfl) ?_; exact rm_nil) ?_
    clear hK K
    refine d_takeG 24 rfl (by kernel_rfl) rfl rfl (by (first | exact y_notT rfl | exact y_notF rfl | exact y_notp rfl | exact y_notb rfl)) rfl ?_
    refine d_take 25 rfl (by kernel_rfl) (by (first | exact y_pickT rfl rfl | exact y_pickF rfl rfl)) rfl ?_
    refine d_take 26 rfl (by kernel_rfl) (by exact y_move rfl) rfl ?_
    refine d_takeG 27 rfl (by kernel_rfl) rfl rfl (by exact y_move rfl) rfl ?_
    refine d_takeG 28 rfl (by kernel_rfl) rfl rfl (by exact y_move rfl) rfl ?_
    refine d_takeG 29 rfl (by kernel_rfl) rfl rfl (by (first | exact y_ixE hx rfl rfl rfl rfl rfl rfl (by omega) (by omega) | exact y_ixE hl0.blk rfl rfl rfl rfl rfl rfl (by omega) (by omega) | exact y_ixI rfl rfl rfl rfl rfl (by assumption) rfl (by omega) (by omega))) rfl ?_
    refine d_takeG 30 rfl (by kernel_rfl) rfl rfl (by (first | exact y_fieldAddrB rfl rfl rfl rfl rfl rfl | exact y_fieldAddr rfl rfl rfl rfl rfl rfl)) rfl ?_
    refine d_takeG 31 rfl (by kernel_rfl) rfl rfl (by (first | exact y_ldF (off := 0) (v := .slice b.A b.vars.length b.c) hl0.blk rfl rfl rfl (by omega) (by rw [hb]; rfl) | exact y_ldF (off := 1) (v := .slice b.B b.cols.length b.d) hl0.blk rfl rfl rfl (by omega) (by rw [hb]; rfl) | exact y_ldF (off := 2) (v := .slice b.C b.edge.length b.e) hl0.blk rfl rfl rfl (by omega) (by rw [hb]; rfl) | exact y_ldF (off := 0) (v := .slice y.A y.vars.length y.c) hx rfl rfl rfl (by omega) (by rw [hy]; rfl) | exact y_ldF (off := 1) (v := .slice y.B y.cols.length y.d) hx rfl rfl rfl (by omega) (by rw [hy]; rfl) | exact y_ldF (off := 2) (v := .slice y.C y.edge.length y.e) hx rfl rfl rfl (by omega) (by rw [hy]; rfl) | exact y_ld rfl rfl rfl (by rfl) | exact y_ldN rfl rfl rfl (by rfl) | exact y_ldK rfl rfl rfl rfl (by assumption) (by omega) | exact y_ldI rfl rfl rfl rfl (by assumption) (by omega) (by omega))) rfl ?_
    refine d_takeG 32 rfl (by kernel_rfl) rfl rfl (by exact y_move rfl) rfl ?_
    refine d_takeG 33 rfl (by kernel_rfl) rfl rfl (by exact y_move rfl) rfl ?_
    refine d_takeG 34 rfl (by kernel_rfl) rfl rfl (by (first | exact y_ixE hx rfl rfl rfl rfl rfl rfl (by omega) (by omega) | exact y_ixE hl0.blk rfl rfl rfl rfl rfl rfl (by omega) (by omega) | exact y_ixI rfl rfl rfl rfl rfl (by assumption) rfl (by omega) (by omega))) rfl ?_
    refine d_takeG 35 rfl (by kernel_rfl) rfl rfl (by (first | exact y_fieldAddrB rfl rfl rfl rfl rfl rfl | exact y_fieldAddr rfl rfl rfl rfl rfl rfl)) rfl ?_
    refine d_takeG 36 rfl (by kernel_rfl) rfl rfl (by (first | exact y_ldF (off := 0) (v := .slice b.A b.vars.length b.c) hl0.blk rfl rfl rfl (by omega) (by rw [hb]; rfl) | exact y_ldF (off := 1) (v := .slice b.B b.cols.length b.d) hl0.blk rfl rfl rfl (by omega) (by rw [hb]; rfl) | exact y_ldF (off := 2) (v := .slice b.C b.edge.length b.e) hl0.blk rfl rfl rfl (by omega) (by rw [hb]; rfl) | exact y_ldF (off := 0) (v := .slice y.A y.vars.length y.c) hx rfl rfl rfl (by omega) (by rw [hy]; rfl) | exact y_ldF (off := 1) (v := .slice y.B y.cols.length y.d) hx rfl rfl rfl (by omega) (by rw [hy]; rfl) | exact y_ldF (off := 2) (v := .slice y.C y.edge.length y.e) hx rfl rfl rfl (by omega) (by rw [hy]; rfl) | exact y_ld rfl rfl rfl (by rfl) | exact y_ldN rfl rfl rfl (by rfl) | exact y_ldK rfl rfl rfl rfl (by assumption) (by omega) | exact y_ldI rfl rfl rfl rfl (by assumption) (by omega) (by omega))) rfl ?_
    refine d_effM 37 [36, 35, 34, 33, 32, 31, 30, 29, 28, 27, 26, 25, 24, 21, 20, 19, 18, 16, 15, 14, 13, 11, 8, 7, 6, 5, 3, 2, 1, 0] [false, true, true, true, true, false, true, true, true, true, false, true, true, true, true, true, true, true, true, true, true, true, true, true, true, true, true, true, true, true] rfl (by kernel_rfl) rfl (by kernel_rfl) (fun K hK => ?_)
    refine s_guard rfl rfl ?_
    refine s_call (pre := []) (rem := _) rfl rfl tk (fun w N ho hl => KeptInts_spec w N y.C b.C y.e b.e _ _ y.edge rfl l3.symm ho (hlb.e.of hl) (by rw [e3]; exact hrow.e.of hl) (by omega) (by omega)) rfl ?_
    rintro e L' ⟨rfl, rfl⟩
    try simp only [List.nil_append, List.cons_append, List.append_nil]
    refine s_done ?_
    refine hK _ _ (by refine rm_skip ?_; refine rm_yd rfl (by (first | exact y_fieldAddrB rfl rfl rfl rfl rfl rfl | exact y_fieldAddr rfl rfl rfl rfl rfl rfl)) ?_; refine rm_yd rfl (by (first | exact y_ixE hx rfl rfl rfl rfl rfl rfl (by omega) (by omega) | exact y_ixE hl0.blk rfl rfl rfl rfl rfl rfl (by omega) (by omega) | exact y_ixI rfl rfl rfl rfl rfl (by assumption) rfl (by omega) (by omega))) ?_; refine rm_yd rfl (by exact y_move rfl) ?_; refine rm_yd rfl (by exact y_move rfl) ?_; refine rm_skip ?_; refine rm_yd rfl (by (first | exact y_fieldAddrB rfl rfl rfl rfl rfl rfl | exact y_fieldAddr rfl rfl rfl rfl rfl rfl)) ?_; refine rm_yd rfl (by (first | exact y_ixE hx rfl rfl rfl rfl rfl rfl (by omega) (by omega) | exact y_ixE hl0.blk rfl rfl rfl rfl rfl rfl (by omega) (by omega) | exact y_ixI rfl rfl rfl rfl rfl (by assumption) rfl (by omega) (by omega))) ?_; refine rm_yd rfl (by exact y_move rfl) ?_; refine rm_yd rfl (by exact y_move rfl) ?_; refine rm_skip ?_; refine rm_yd rfl (by (first | exact y_pickT rfl rfl | exact y_pickF rfl rfl)) ?_; refine rm_yd rfl (by (first | exact y_notT rfl | exact y_notF rfl | exact y_notp rfl | exact y_notb rfl)) ?_; refine rm_yd rfl (by (first | exact y_fieldAddrB rfl rfl rfl rfl rfl rfl | exact y_fieldAddr rfl rfl rfl rfl rfl rfl)) ?_; refine rm_yd rfl (by (first | exact y_ixE hx rfl rfl rfl rfl rfl rfl (by omega) (by omega) | exact y_ixE hl0.blk rfl rfl rfl rfl rfl rfl (by omega) (by omega) | exact y_ixI rfl rfl rfl rfl rfl (by assumption) rfl (by omega) (by omega))) ?_; refine rm_yd rfl (by exact y_move rfl) ?_; refine rm_yd rfl (by exact y_move rfl) ?_; refine rm_yd rfl (by (first | exact y_fieldAddrB rfl rfl rfl rfl rfl rfl | exact y_fieldAddr rfl rfl rfl rfl rfl rfl)) ?_; refine rm_yd rfl (by (first | exact y_ixE hx rfl rfl rfl rfl rfl rfl (by omega) (by omega) | exact y_ixE hl0.blk rfl rfl rfl rfl rfl rfl (by omega) (by omega) | exact y_ixI rfl rfl rfl rfl rfl (by assumption) rfl (by omega) (by omega))) ?_; refine rm_yd rfl (by exact y_move rfl) ?_; refine rm_yd rfl (by exact y_move rfl) ?_; refine rm_yd rfl (by (first | exact y_notT rfl | exact y_notF rfl | exact y_notp rfl | exact y_notb rfl)) ?_; refine rm_yd rfl (by (first | exact y_fieldAddrB rfl rfl rfl rfl rfl rfl | exact y_fieldAddr rfl rfl rfl rfl rfl rfl)) ?_; refine rm_yd rfl (by (first | exact y_ixE hx rfl rfl rfl rfl rfl rfl (by omega) (by omega) | exact y_ixE hl0.blk rfl rfl rfl rfl rfl rfl (by omega) (by omega) | exact y_ixI rfl rfl rfl rfl rfl (by assumption) rfl (by omega) (by omega))) ?_; refine rm_yd rfl (by exact y_move rfl) ?_; refine rm_yd rfl (by exact y_move rfl) ?_; refine rm_yd rfl (by (first | exact y_fieldAddrB rfl rfl rfl rfl rfl rfl | exact y_fieldAddr rfl rfl rfl rfl rfl rfl)) ?_; refine rm_yd rfl (by (first | exact y_ixE hx rfl rfl rfl rfl rfl rfl (by omega) (by omega) | exact y_ixE hl0.blk rfl rfl rfl rfl rfl rfl (by omega) (by omega) | exact y_ixI rfl rfl rfl rfl rfl (by assumption) rfl (by omega) (by omega))) ?_; refine rm_yd rfl (by exact y_move rfl) ?_; refine rm_yd rfl (by exact y_move rfl) ?_; exact rm_nil) ?_
    clear hK K
    refine d_takeG 38 rfl (by kernel_rfl) rfl rfl (by (first | exact y_notT rfl | exact y_notF rfl | exact y_notp rfl | exact y_notb rfl)) rfl ?_
    refine d_take 39 rfl (by kernel_rfl) (by (first | exact y_pickT rfl rfl | exact y_pickF rfl rfl)) rfl ?_
    refine d_done (by kernel_rfl) ?_
    refine s_condF2 rfl (by with_reducible rfl) ?_
    refine s_skip ?_
    refine s_endb ?_
    refine s_region ?_
    refine s_q (y_move rfl) rfl ?_
    refine s_q (y_add rfl rfl (by omega)) rfl ?_
    refine s_q (y_assign rfl) rfl ?_
    refine s_done ?_
    refine s_inv (i + 1) (by (try dsimp only); omega) (by (try dsimp only); omega) ⟨rfl, rfl, rfl, trivial⟩ tk
  · refine s_exit rfl ?_
    refine s_seq ?_
    refine s_region ?_
    refine s_q (y_assign rfl) rfl ?_
    refine s_done ?_
    exact s_return ⟨rfl, rfl⟩ (res_tmp Tryz.results16 rfl)
theorem SameIntRows_spec (w : World) (N : Nat → Prop) (A B : Option Addr) (c d n m : Nat) (rs ss : List Row) (he : rs.map (·.xs) = ss.map (·.xs)) (hn : n = rs.length) (hm : m = rs.length) (ho : Owns w [Sl 22 1 A n c (rs.map Row.val), Sl 22 1 B m d (ss.map Row.val)] N)
    (hr : ∀ k, k < rs.length → KI w N (rs.getD k ⟨none, 0, []⟩).A (rs.getD k ⟨none, 0, []⟩).xs) (hr2 : ∀ k, k < ss.length → KI w N (ss.getD k ⟨none, 0, []⟩).A (ss.getD k ⟨none, 0, []⟩).xs) (hlen : rs.length < 100000) (hxl : ∀ r ∈ rs, r.xs.length < 1000000) :
    Ret Tryz.prog 24 [.slice A n c, .slice B m d] w N fun v L => v = .bool true ∧ L = [Sl 22 1 A n c (rs.map Row.val), Sl 22 1 B m d (ss.map Row.val)] := by
  subst hn hm
  have hll : rs.length = ss.length := by simpa using congrArg List.length he
  refine ret_of_J cx Tryz.func24 rfl (Nat.le_of_ble_eq_true rfl) ho ?_
  refine s_seq ?_
  refine s_region ?_
  refine s_q (y_assign rfl) rfl ?_
  refine s_done ?_
  refine s_seq ?_
  refine s_seq ?_
  refine s_region ?_
  refine s_q (y_move rfl) rfl ?_
  refine s_q (y_lenS rfl rfl rfl) rfl ?_
  refine s_q (y_move rfl) rfl ?_
  refine s_q (y_lenS rfl rfl rfl) rfl ?_
  refine s_q (by (first | exact y_as (y_neq rfl rfl) (congrArg Value.bool (decide_eq_false (fun h => h rfl))) | exact y_neq rfl rfl | exact y_neqB rfl rfl rfl)) rfl ?_
  refine s_done ?_
  refine s_condF2 rfl (by with_reducible rfl) ?_
  refine s_skip ?_
  refine s_seq ?_
  refine s_seq ?_
  refine s_region ?_
  refine s_q (y_assign rfl) rfl ?_
  refine s_done ?_
  refine s_block ?_
  refine s_loopV (σ := Nat) (fun s => [(5, .int .i64 s)]) (fun s => []) (fun s => (s ≤ rs.length)) (fun s => rs.length - s) (0) [(0, _), (1, _)] ⟨rfl, rfl, trivial⟩ ⟨rfl, trivial⟩ tk (Nat.zero_le _) ?_
  rintro i hi
  try dsimp only [List.cons_append, List.nil_append, List.append_nil] at hi ⊢
  refine s_seq ?_
  refine s_seq ?_
  refine s_region ?_
  refine s_q (y_move rfl) rfl ?_
  refine s_q (y_move rfl) rfl ?_
  refine s_q (y_lenS rfl rfl rfl) rfl ?_
  refine s_q (y_lss rfl rfl) rfl ?_
  refine s_done ?_
  refine s_cond rfl (fun h => ?_) (fun h => ?_)
  · have hil : i < rs.length := by omega
    have hk1 := hr i hil
    have hk2 := hr2 i (by omega)
    have hm := getD_mem (⟨none, 0, []⟩ : Row) hil
    have hxx := hxl _ hm
    have e1 : (rs.getD i ⟨none, 0, []⟩).xs = (ss.getD i ⟨none, 0, []⟩).xs := by
      have := congrArg (fun x => x.getD i []) he
      simpa [List.getD_eq_getElem?_getD, List.getElem?_map, Option.getD_map, List.getElem?_eq_getElem hil, List.getElem?_eq_getElem (hll ▸ hil)] using this
    obtain ⟨r, hr1⟩ : ∃ r, rs.getD i ⟨none, 0, []⟩ = r := ⟨_, rfl⟩
    obtain ⟨s, hs1⟩ : ∃ s, ss.getD i ⟨none, 0, []⟩ = s := ⟨_, rfl⟩
    have v1 : (rs.map Row.val)[i]? = some r.val := by rw [List.getElem?_map, List.getElem?_eq_getElem hil, ← hr1, List.getD_eq_getElem?_getD, List.getElem?_eq_getElem hil]; rfl
    have v2 : (ss.map Row.val)[i]? = some s.val := by rw [List.getElem?_map, List.getElem?_eq_getElem (by omega), ← hs1, List.getD_eq_getElem?_getD, List.getElem?_eq_getElem (by omega)]; rfl
    rw [hr1] at hk1 e1 hxx
    rw [hs1] at hk2 e1
    refine s_skip ?_
    refine s_seq ?_
    refine s_block ?_
    refine s_seq ?_
    refine d_start ?_
    refine d_take 0 rfl (by kernel_rfl) (by exact y_move rfl) rfl ?_
    refine d_take 1 rfl (by kernel_rfl) (by exact y_move rfl) rfl ?_
    refine d_take 2 rfl (by kernel_rfl) (by (first | exact y_ixO rfl rfl rfl rfl rfl (by omega) (by omega) (by omega) | exact y_ixI rfl rfl rfl rfl rfl (by assumption) rfl (by omega) (by omega))) rfl ?_
    refine d_take 3 rfl (by kernel_rfl) (by (first | exact y_ldOn rfl rfl rfl rfl v1 | exact y_ldOn rfl rfl rfl rfl v2 | exact y_ld rfl rfl rfl (by rfl) | exact y_ldN rfl rfl rfl (by rfl) | exact y_ldK rfl rfl rfl rfl (by assumption) (by omega) | exact y_ldI rfl rfl rfl rfl (by assumption) (by omega) (by omega))) rfl ?_
    refine d_take 4 rfl (by kernel_rfl) (by exact y_move rfl) rfl ?_
    refine d_take 5 rfl (by kernel_rfl) (by exact y_move rfl) rfl ?_
    refine d_take 6 rfl (by kernel_rfl) (by (first | exact y_ixO rfl rfl rfl rfl rfl (by omega) (by omega) (by omega) | exact y_ixI rfl rfl rfl rfl rfl (by assumption) rfl (by omega) (by omega))) rfl ?_
    refine d_take 7 rfl (by kernel_rfl) (by (first | exact y_ldOn rfl rfl rfl rfl v1 | exact y_ldOn rfl rfl rfl rfl v2 | exact y_ld rfl rfl rfl (by rfl) | exact y_ldN rfl rfl rfl (by rfl) | exact y_ldK rfl rfl rfl rfl (by assumption) (by omega) | exact y_ldI rfl rfl rfl rfl (by assumption) (by omega) (by omega))) rfl ?_
    refine d_effM 8 [7, 6, 5, 4, 3, 2, 1, 0] [false, true, true, true, false, true, true, true] rfl (by kernel_rfl) rfl (by kernel_rfl) (fun K hK => ?_)
    refine s_call (pre := []) (rem := _) rfl rfl tk (fun w N ho hl => SameInts_spec w N r.A s.A r.c s.c _ _ r.xs s.xs rfl rfl ho (hk1.of hl) (hk2.of hl) (by omega)) rfl ?_
    rintro e L' ⟨rfl, rfl⟩
    try simp only [List.nil_append, List.cons_append, List.append_nil]
    refine s_done ?_
    refine hK _ _ (by refine rm_skip ?_; refine rm_yd rfl (by (first | exact y_ixO rfl rfl rfl rfl rfl (by omega) (by omega) (by omega) | exact y_ixI rfl rfl rfl rfl rfl (by assumption) rfl (by omega) (by omega))) ?_; refine rm_yd rfl (by exact y_move rfl) ?_; refine rm_yd rfl (by exact y_move rfl) ?_; refine rm_skip ?_; refine rm_yd rfl (by (first | exact y_ixO rfl rfl rfl rfl rfl (by omega) (by omega) (by omega) | exact y_ixI rfl rfl rfl rfl rfl (by assumption) rfl (by omega) (by omega))) ?_; refine rm_yd rfl (by exact y_move rfl) ?_; refine rm_yd rfl (by exact y_move rfl) ?_; exact rm_nil) ?_
    clear hK K
    refine d_take 9 rfl (by kernel_rfl) (by (first | exact y_notT rfl | exact y_notF rfl | exact y_notp rfl | exact y_notb rfl)) rfl ?_
    refine d_done (by kernel_rfl) ?_
    rw [show (decide ¬r.xs = s.xs) = false by rw [e1]; simp]
    refine s_condF2 rfl (by with_reducible rfl) ?_
    refine s_skip ?_
    refine s_endb ?_
    refine s_region ?_
    refine s_q (y_move rfl) rfl ?_
    refine s_q (y_add rfl rfl (by omega)) rfl ?_
    refine s_q (y_assign rfl) rfl ?_
    refine s_done ?_
    refine s_inv (i + 1) (by (try dsimp only); omega) (by (try dsimp only); omega) ⟨rfl, rfl, rfl, trivial⟩ tk
  · refine s_exit rfl ?_
    refine s_seq ?_
    refine s_region ?_
    refine s_q (y_assign rfl) rfl ?_
    refine s_done ?_
    exact s_return (R := fun v L => v = .bool true ∧ L = [_, _]) ⟨rfl, rfl⟩ (res_tmp Tryz.results24 rfl)
end Go.Proofs.YtdbnlgknalencaaGreat
