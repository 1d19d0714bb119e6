/- Layer 23 (brief), BriefWorth, walked. -/
import Derived.Test.YtdbnlgknalencaaGreatBrgL
import Derived.Test.YtdbnlgknalencaaGreatEEb
set_option linter.unusedVariables false
set_option linter.unusedSimpArgs false
namespace Go.Proofs.YtdbnlgknalencaaGreat
open Go Go.E
set_option maxRecDepth 4000
set_option maxHeartbeats 1000000
theorem few_ok {b : BrD} {n : Nat} (h : few n b) (hn : n < 100000000000000) : b.ok := ⟨by have := h.1; omega, by have := h.2.1; omega, by have := h.2.2; omega⟩
theorem worthO_len (vs ws : List Int) (l : List BrD) : (worthO vs ws l).length ≤ vs.length := by rw [worthO]; split <;> simp [worthL]
theorem sized_few {l : List BrD} {z : Int} (h : Sized l z) (hz : z ≤ 400) : l.length ≤ 400 ∧ ∀ b ∈ l, few 400 b := by
  obtain ⟨h1, h2⟩ := h.each hz
  exact ⟨by omega, fun b hb => by obtain ⟨a1, a2, a3⟩ := h2 b hb; exact ⟨by omega, by omega, by omega⟩⟩
theorem few_mono {b : BrD} {n m : Nat} (h : few n b) (hn : n ≤ m) : few m b := ⟨Nat.le_trans h.1 hn, Nat.le_trans h.2.1 hn, Nat.le_trans h.2.2 hn⟩
theorem BriefWorth_spec (w : World) (N : Nat → Prop) (A B T : Option Addr) (c d t n p q : Nat) (vars weight : List Int) (l : List BrD) (hn : n = vars.length) (hp : p = weight.length) (hq : q = l.length) (ho : Owns w [] N) (hv : KI w N A vars) (hw : KI w N B weight) (hl0 : KBr w N T l) (hok : ∀ b ∈ l, b.ok) (h1 : vars.length < 100000000000000) (h2 : weight.length < 100000000000000) (h3 : l.length < 100000000000000) :
    Ret Tryz.prog 3 [.slice A n c, .slice B p d, .slice T q t] w N fun v L => v = .bool true ∧ L = [] := by
  subst hn hp hq
  refine ret_of_J cx Tryz.func3 rfl (Nat.le_of_ble_eq_true rfl) ho ?_
  refine s_seq ?_
  refine s_region ?_
  refine s_q (y_assign rfl) rfl ?_
  refine s_done ?_
  refine s_seq ?_
  refine s_seq ?_
  refine s_region ?_
  refine s_q (y_move rfl) rfl ?_
  refine s_q (y_lenS rfl rfl rfl) rfl ?_
  refine s_q (y_move rfl) rfl ?_
  refine s_q (y_lenS rfl rfl rfl) rfl ?_
  refine s_q (y_add rfl rfl (by omega)) rfl ?_
  refine s_q (y_move rfl) rfl ?_
  refine s_call (pre := []) (rem := _) rfl rfl tk (fun w N ho hl => size_spec w N T t l.length l rfl ho (hl0.blk.of hl) hok h3) rfl ?_
  rintro e L' ⟨z, hz, rfl, rfl⟩
  try simp only [List.nil_append, List.cons_append, List.append_nil]
  have hz0 := hz.pos
  have hz1 := hz.top
  refine s_q (y_add rfl rfl (by omega)) rfl ?_
  refine s_q (y_gtr rfl rfl) rfl ?_
  refine s_done ?_
  refine s_cond rfl (fun g1 => ?_) (fun g1 => ?_)
  · refine s_seq ?_
    refine s_region ?_
    refine s_call (pre := []) (rem := _) rfl rfl tk (fun w N ho hl => awake_spec w N ho) rfl ?_
    rintro e L' ⟨rfl, rfl⟩
    try simp only [List.nil_append, List.cons_append, List.append_nil]
    refine s_q (y_assign rfl) rfl ?_
    refine s_done ?_
    exact s_return ⟨rfl, rfl⟩ (res_tmp Tryz.results3 rfl)
  obtain ⟨hll, hfew⟩ := sized_few hz (by omega)
  have hf1 : ∀ b ∈ l, few 1000 b := fun b hb => few_mono (hfew b hb) (by decide)
  refine s_skip ?_
  refine s_seq ?_
  refine s_region ?_
  refine s_q (y_move rfl) rfl ?_
  refine s_call (pre := []) (rem := _) rfl rfl tk (fun w N ho hl => LentInts_spec w N A c vars ho (hv.of hl) (by omega)) rfl ?_
  rintro e L' ⟨V, v, rfl, rfl⟩
  try simp only [List.nil_append, List.cons_append, List.append_nil]
  refine J.fact Sl.facts fun hV => ?_
  refine s_q (y_move rfl) rfl ?_
  refine s_call (pre := []) (rem := _) rfl rfl tk (fun w N ho hl => LentInts_spec w N B d weight ho (hw.of hl) (by omega)) rfl ?_
  rintro e L' ⟨W, x, rfl, rfl⟩
  try simp only [List.nil_append, List.cons_append, List.append_nil]
  refine J.fact Sl.facts fun hW => ?_
  refine s_q (y_move rfl) rfl ?_
  refine s_call (pre := []) (rem := _) rfl rfl tk (fun w N ho hl => lent_spec w N T t l.length l rfl ho (hl0.of hl) hf1 (by omega)) rfl ?_
  rintro e L' ⟨X, y, xs, hal, rfl, rfl⟩
  try simp only [List.nil_append, List.cons_append, List.append_nil]
  have hxok : ∀ b ∈ xs, b.ok := hal.all (Q := BrD.ok) (fun b => ⟨fun h => ⟨h.v, h.c, h.e⟩, fun h => ⟨h.v, h.c, h.e⟩⟩) hok
  have hxl := hal.len
  obtain ⟨e1, e2⟩ := hal.worth vars weight
  have hwl := worthO_len vars weight l
  refine s_q (y_assign rfl) rfl ?_
  refine s_q (y_assign rfl) rfl ?_
  refine s_q (y_assign rfl) rfl ?_
  refine s_done ?_
  refine s_seq ?_
  refine s_region ?_
  refine s_q (y_move rfl) rfl ?_
  refine s_q (y_move rfl) rfl ?_
  refine s_q (y_move rfl) rfl ?_
  refine s_call (pre := []) (rem := _) rfl rfl tk (fun w N ho hl => Worth_spec w N V W X v x y _ _ _ vars weight xs rfl rfl rfl ho (KI.pre (KI.ofS hl (by repeat (first | exact List.mem_cons_self | refine List.mem_cons_of_mem _ ?_)))) (KI.pre (KI.ofS hl (by repeat (first | exact List.mem_cons_self | refine List.mem_cons_of_mem _ ?_)))) ⟨keOfS (fun _ => rfl) (by omega) hl (by repeat (first | exact List.mem_cons_self | refine List.mem_cons_of_mem _ ?_)), fun b hb => (lbF rfl hl (by repeat (first | exact List.mem_cons_self | refine List.mem_cons_of_mem _ ?_)) b hb).kr⟩ hxok h1 h2 (by omega)) rfl ?_
  rintro e L' ⟨G, g, rfl, rfl⟩
  try simp only [List.nil_append, List.cons_append, List.append_nil]
  rw [e1, e2]
  refine s_q (y_move rfl) rfl ?_
  refine s_q (y_extract rfl rfl) rfl ?_
  refine s_q (y_extract rfl rfl) rfl ?_
  refine s_q (y_assign rfl) rfl ?_
  refine s_q (y_assign rfl) rfl ?_
  refine s_done ?_
  refine s_seq ?_
  refine s_region ?_
  refine s_q (y_move rfl) rfl ?_
  refine s_q (y_move rfl) rfl ?_
  refine s_q (y_move rfl) rfl ?_
  refine s_call (pre := []) (rem := _) rfl rfl tk (fun w N ho hl => refs_spec w N T t l.length l rfl ho (hl0.of hl) (by omega)) rfl ?_
  rintro e L' ⟨R, r, rfl, rfl⟩
  try simp only [List.nil_append, List.cons_append, List.append_nil]
  refine s_call (pre := []) (rem := _) rfl rfl tk (fun w N ho hl => rWorth_spec w N A B R c d r _ _ _ vars weight l rfl rfl rfl ho (hv.of hl) (hw.of hl) ⟨keOfS (fun _ => rfl) (by omega) hl (by repeat (first | exact List.mem_cons_self | refine List.mem_cons_of_mem _ ?_)), fun b hb => (hl0.row b hb).of hl⟩ hok h1 h2 h3) rfl ?_
  rintro e L' ⟨H, h, rfl, rfl⟩
  try simp only [List.nil_append, List.cons_append, List.append_nil]
  refine s_q (y_move rfl) rfl ?_
  refine s_q (y_extract rfl rfl) rfl ?_
  refine s_q (y_extract rfl rfl) rfl ?_
  refine s_q (y_assign rfl) rfl ?_
  refine s_q (y_assign rfl) rfl ?_
  refine s_done ?_
  refine s_seq ?_
  refine s_region ?_
  refine s_q (y_move rfl) rfl ?_
  refine s_q (y_move rfl) rfl ?_
  refine s_q (y_move rfl) rfl ?_
  refine s_call (pre := []) (rem := _) rfl rfl tk (fun w N ho hl => Worth_spec w N V W X v x y _ _ _ vars weight xs rfl rfl rfl ho (KI.pre (KI.ofS hl (by repeat (first | exact List.mem_cons_self | refine List.mem_cons_of_mem _ ?_)))) (KI.pre (KI.ofS hl (by repeat (first | exact List.mem_cons_self | refine List.mem_cons_of_mem _ ?_)))) ⟨keOfS (fun _ => rfl) (by omega) hl (by repeat (first | exact List.mem_cons_self | refine List.mem_cons_of_mem _ ?_)), fun b hb => (lbF rfl hl (by repeat (first | exact List.mem_cons_self | refine List.mem_cons_of_mem _ ?_)) b hb).kr⟩ hxok h1 h2 (by omega)) rfl ?_
  rintro e L' ⟨G2, g2, rfl, rfl⟩
  try simp only [List.nil_append, List.cons_append, List.append_nil]
  rw [e1, e2]
  obtain ⟨ws, hws⟩ : ∃ ws, worthO vars weight l = ws := ⟨_, rfl⟩
  rw [hws] at hwl ⊢
  refine s_q (y_move rfl) rfl ?_
  refine s_q (y_extract rfl rfl) rfl ?_
  refine s_q (y_extract rfl rfl) rfl ?_
  refine s_q (y_assign rfl) rfl ?_
  refine s_q (y_assign rfl) rfl ?_
  refine s_done ?_
  refine s_seq ?_
  refine s_region ?_
  refine s_q (y_move rfl) rfl ?_
  refine s_q (y_move rfl) rfl ?_
  refine s_q (by (first | exact y_as (y_eql rfl rfl) (congrArg Value.bool (decide_eq_true rfl)) | exact y_eql rfl rfl | exact y_eqlB rfl rfl rfl)) rfl ?_
  refine s_q (y_move rfl) rfl ?_
  refine s_guard2 rfl rfl (by with_reducible rfl) ?_
  refine s_q (y_move rfl) rfl ?_
  refine s_guard2 rfl rfl (by with_reducible rfl) ?_
  refine s_q (y_move rfl) rfl ?_
  refine s_guard2 rfl rfl (by with_reducible rfl) ?_
  refine s_call (pre := []) (rem := _) rfl rfl tk (fun w N ho hl => SameInts_spec w N G H g h _ _ ws ws rfl rfl ho (KI.ofS hl (by repeat (first | exact List.mem_cons_self | refine List.mem_cons_of_mem _ ?_))) (KI.ofS hl (by repeat (first | exact List.mem_cons_self | refine List.mem_cons_of_mem _ ?_))) (by omega)) rfl ?_
  rintro e L' ⟨rfl, rfl⟩
  try simp only [List.nil_append, List.cons_append, List.append_nil]
  simp only [decide_true]
  refine s_q (by (first | exact y_pickT rfl rfl | exact y_pickF rfl rfl)) rfl ?_
  refine s_q (y_move rfl) rfl ?_
  refine s_guard2 rfl rfl (by with_reducible rfl) ?_
  refine s_q (y_move rfl) rfl ?_
  refine s_guard2 rfl rfl (by with_reducible rfl) ?_
  refine s_q (y_move rfl) rfl ?_
  refine s_guard2 rfl rfl (by with_reducible rfl) ?_
  refine s_bslice rfl rfl rfl rfl rfl rfl rfl rfl (fun nb => ?_)
  change J _ _ _ (cb nb 22 [.slice G ws.length g, .slice G2 ws.length g2] :: _) _
  refine J.imp (B := Sl 22 1 (some ⟨nb, 0, none⟩) 2 2 [.slice G ws.length g, .slice G2 ws.length g2]) (fun h hh => Sl.ofCb rfl (by decide) hh) ?_
  refine s_guard2 rfl rfl (by with_reducible rfl) ?_
  refine s_call (pre := [Sl 3 1 G ws.length g (ints ws), Sl 3 1 G2 ws.length g2 (ints ws), Sl 22 1 (some ⟨nb, 0, none⟩) 2 2 [.slice G ws.length g, .slice G2 ws.length g2]]) (rem := _) rfl rfl tk (fun w N ho hl => ApartInts_spec w N (some ⟨nb, 0, none⟩) 2 [⟨G, g, ws⟩, ⟨G2, g2, ws⟩] (by simp) (fun j hj => by have this : j = 0 ∨ j = 1 := (by simp at hj; omega); rcases this with rfl | rfl <;> (show ws.length < _; omega)) (ho.mono fun h s => (star_star (K := [Sl 3 1 G ws.length g (ints ws), Sl 3 1 G2 ws.length g2 (ints ws)])).2 s)) rfl ?_
  rintro e L' ⟨rfl, rfl⟩
  try simp only [List.nil_append, List.cons_append, List.append_nil]
  refine s_q (by (first | exact y_pickT rfl rfl | exact y_pickF rfl rfl)) rfl ?_
  refine s_q (y_move rfl) rfl ?_
  refine s_guard2 rfl rfl (by with_reducible rfl) ?_
  refine s_q (y_move rfl) rfl ?_
  refine s_guard2 rfl rfl (by with_reducible rfl) ?_
  refine s_q (y_move rfl) rfl ?_
  refine s_guard2 rfl rfl (by with_reducible rfl) ?_
  refine s_call (pre := []) (rem := _) rfl rfl tk (fun w N ho hl => KeptInts_spec w N V A v c _ _ vars rfl rfl ho (KI.ofS hl (by repeat (first | exact List.mem_cons_self | refine List.mem_cons_of_mem _ ?_))) (hv.of hl) (by omega) (by omega)) rfl ?_
  rintro e L' ⟨rfl, rfl⟩
  try simp only [List.nil_append, List.cons_append, List.append_nil]
  refine s_q (by (first | exact y_pickT rfl rfl | exact y_pickF rfl rfl)) rfl ?_
  refine s_q (y_move rfl) rfl ?_
  refine s_guard2 rfl rfl (by with_reducible rfl) ?_
  refine s_q (y_move rfl) rfl ?_
  refine s_guard2 rfl rfl (by with_reducible rfl) ?_
  refine s_q (y_move rfl) rfl ?_
  refine s_guard2 rfl rfl (by with_reducible rfl) ?_
  refine s_call (pre := []) (rem := _) rfl rfl tk (fun w N ho hl => KeptInts_spec w N W B x d _ _ weight rfl rfl ho (KI.ofS hl (by repeat (first | exact List.mem_cons_self | refine List.mem_cons_of_mem _ ?_))) (hw.of hl) (by omega) (by omega)) rfl ?_
  rintro e L' ⟨rfl, rfl⟩
  try simp only [List.nil_append, List.cons_append, List.append_nil]
  refine s_q (by (first | exact y_pickT rfl rfl | exact y_pickF rfl rfl)) rfl ?_
  refine s_q (y_move rfl) rfl ?_
  refine s_guard2 rfl rfl (by with_reducible rfl) ?_
  refine s_q (y_move rfl) rfl ?_
  refine s_guard2 rfl rfl (by with_reducible rfl) ?_
  refine s_q (y_move rfl) rfl ?_
  refine s_guard2 rfl rfl (by with_reducible rfl) ?_
  refine s_call (pre := []) (rem := _) rfl rfl tk (fun w N ho hl => kept_spec w N X T y t _ _ xs l rfl rfl ho (keOfS (fun _ => rfl) (by omega) hl (by repeat (first | exact List.mem_cons_self | refine List.mem_cons_of_mem _ ?_))) (lbF rfl hl (by repeat (first | exact List.mem_cons_self | refine List.mem_cons_of_mem _ ?_))) (hl0.of hl) hal hf1 (by omega)) rfl ?_
  rintro e L' ⟨rfl, rfl⟩
  try simp only [List.nil_append, List.cons_append, List.append_nil]
  refine s_q (by (first | exact y_pickT rfl rfl | exact y_pickF rfl rfl)) rfl ?_
  refine s_q (y_move rfl) rfl ?_
  refine s_guard2 rfl rfl (by with_reducible rfl) ?_
  refine s_call (pre := []) (rem := _) rfl rfl tk (fun w N ho hl => awake_spec w N ho) rfl ?_
  rintro e L' ⟨rfl, rfl⟩
  try simp only [List.nil_append, List.cons_append, List.append_nil]
  refine s_q (by (first | exact y_pickT rfl rfl | exact y_pickF rfl rfl)) rfl ?_
  refine s_q (y_assign rfl) rfl ?_
  refine s_done ?_
  exact s_return ⟨rfl, rfl⟩ (res_tmp Tryz.results3 rfl)
end Go.Proofs.YtdbnlgknalencaaGreat
