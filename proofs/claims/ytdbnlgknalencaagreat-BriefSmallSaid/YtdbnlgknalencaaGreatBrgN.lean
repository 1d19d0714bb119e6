/- Layer 23 (brief), BriefTells, walked. -/
import Derived.Test.YtdbnlgknalencaaGreatBrgM
import Derived.Test.YtdbnlgknalencaaGreatEEb
set_option linter.unusedVariables false
set_option linter.unusedSimpArgs false
namespace Go.Proofs.YtdbnlgknalencaaGreat
open Go Go.E
set_option maxRecDepth 4000
set_option maxHeartbeats 1000000
theorem flat_at {α : Type} {sz : Nat} {enc : α → List Value} (he : ∀ x, (enc x).length = sz) (dd : α) : ∀ (xs : List α) (i j : Nat) (u : Value), i < xs.length → (enc (xs.getD i dd))[j]? = some u → (xs.flatMap enc)[i * sz + j]? = some u
  | [], i, j, u, h, _ => by simp at h
  | x :: xs, 0, j, u, _, hj => by
    have hj' : (enc x)[j]? = some u := hj
    rw [List.flatMap_cons, Nat.zero_mul, Nat.zero_add, List.getElem?_append_left (List.getElem?_eq_some_iff.1 hj').1]
    exact hj'
  | x :: xs, i + 1, j, u, h, hj => by
    rw [List.flatMap_cons, List.getElem?_append_right (by rw [he, Nat.add_mul]; omega), he, show (i + 1) * sz + j - sz = i * sz + j by rw [Nat.add_mul]; omega]
    exact flat_at he dd xs i j u (by simpa using h) (by simpa using hj)
theorem fl0_star (rs : List Rw) : bs (fl0 rs) rs.length = star (rs.map Rw.hp) := by
  unfold bs
  congr 1
  refine List.ext_getElem (by simp) fun i h1 h2 => ?_
  simp only [List.length_map] at h2
  simp only [List.getElem_map, List.getElem_range, fl0, rw0, List.getD_eq_getElem?_getD, List.getElem?_eq_getElem h2, Option.getD_some]
theorem J.bsApp {P : Program} {fr : Fr P} {ds : List Deferred} {ρ : Env} {L : List HP} {k : List It} {rs qs : List Rw} (h : J fr ds ρ (bs (fl0 (rs ++ qs)) (rs ++ qs).length :: L) k) : J fr ds ρ (star (qs.map Rw.hp) :: bs (fl0 rs) rs.length :: L) k := by
  rw [fl0_star, List.map_append] at h
  rw [fl0_star]
  refine J.group.2 ?_
  refine J.perm (L' := star (rs.map Rw.hp) :: (qs.map Rw.hp ++ L)) List.perm_middle ?_
  refine J.group.2 ?_
  have := J.group.1 h
  rwa [List.append_assoc] at this
def toRw (r : Row) : Rw := ⟨r.A, r.c, r.xs⟩
theorem toRw_hp (rs : List Row) : (rs.map toRw).map Rw.hp = rs.map Row.hp := by rw [List.map_map]; rfl
theorem toRw_val (rs : List Row) : (rs.map toRw).map Rw.val = rs.map Row.val := by rw [List.map_map]; rfl
theorem apart_few {b : BrD} : (apartL b).length ≤ 64 ∧ ∀ r ∈ apartL b, r.length ≤ b.vars.length := by
  rw [apartL]
  split
  · refine ⟨Nat.le_trans (List.length_filter_le _ _) (by simp), fun r hr => ?_⟩
    obtain ⟨c, _, rfl⟩ := List.mem_map.1 (List.mem_filter.1 hr).1
    exact row_len _ _ _
  · exact ⟨by simp, fun r hr => absurd hr List.not_mem_nil⟩
theorem keptL_len (l : List BrD) : (keptL l).length ≤ 200 := by
  rw [keptL]; split
  · exact Nat.le_trans (List.length_filter_le _ _) (by simp)
  · simp
theorem rowKI {base w : World} {M N : Nat → Prop} {L : List HP} {rs : List Row} {k : Nat} (hl : ∀ w', Since w N w' → Sat base M L w') (hm : star (rs.map Row.hp) ∈ L) (hk : k < rs.length) : KI w N (rs.getD k ⟨none, 0, []⟩).A (rs.getD k ⟨none, 0, []⟩).xs := fun w' h' => by
  obtain ⟨h, s, hin⟩ := (hl w' h').has hm
  have hs : Sat w' (fun _ => True) (rs.map Row.hp) w' := ⟨⟨h, s, hin, fun _ _ _ => .inr trivial⟩, Since.refl _ _⟩
  exact hs.slRdI (e := 3) (n := (rs.getD k ⟨none, 0, []⟩).xs.length) (c := (rs.getD k ⟨none, 0, []⟩).c) (List.mem_map.2 ⟨_, getD_mem ⟨none, 0, []⟩ hk, rfl⟩)
theorem BriefTells_spec (w : World) (N : Nat → Prop) (T : Option Addr) (t q : Nat) (l : List BrD) (hq : q = l.length) (ho : Owns w [] N) (hl0 : KBr w N T l) (hok : ∀ b ∈ l, b.ok) (h3 : l.length < 100000000000000) :
    Ret Tryz.prog 4 [.slice T q t] w N fun v L => v = .bool true ∧ L = [] := by
  subst hq
  refine ret_of_J cx Tryz.func4 rfl (Nat.le_of_ble_eq_true rfl) ho ?_
  refine s_seq ?_
  refine s_region ?_
  refine s_q (y_assign rfl) rfl ?_
  refine s_done ?_
  refine s_seq ?_
  refine s_seq ?_
  refine s_region ?_
  refine s_q (y_move rfl) rfl ?_
  refine s_call (pre := []) (rem := _) rfl rfl tk (fun w N ho hl => size_spec w N T t l.length l rfl ho (hl0.blk.of hl) hok h3) rfl ?_
  rintro e L' ⟨z, hz, rfl, rfl⟩
  try simp only [List.nil_append, List.cons_append, List.append_nil]
  have hz0 := hz.pos
  have hz1 := hz.top
  refine s_q (y_gtr rfl rfl) rfl ?_
  refine s_done ?_
  refine s_cond rfl (fun g1 => ?_) (fun g1 => ?_)
  · refine s_seq ?_
    refine s_region ?_
    refine s_call (pre := []) (rem := _) rfl rfl tk (fun w N ho hl => awake_spec w N ho) rfl ?_
    rintro e L' ⟨rfl, rfl⟩
    try simp only [List.nil_append, List.cons_append, List.append_nil]
    refine s_q (y_assign rfl) rfl ?_
    refine s_done ?_
    exact s_return ⟨rfl, rfl⟩ (res_tmp Tryz.results4 rfl)
  obtain ⟨hll, hfew⟩ := sized_few hz (by omega)
  have hf1 : ∀ b ∈ l, few 1000 b := fun b hb => few_mono (hfew b hb) (by decide)
  refine s_skip ?_
  refine s_seq ?_
  refine s_region ?_
  refine s_q (y_move rfl) rfl ?_
  refine s_call (pre := []) (rem := _) rfl rfl tk (fun w N ho hl => lent_spec w N T t l.length l rfl ho (hl0.of hl) hf1 (by omega)) rfl ?_
  rintro e L' ⟨X, y, xs, hal, rfl, rfl⟩
  try simp only [List.nil_append, List.cons_append, List.append_nil]
  have hxok : ∀ b ∈ xs, b.ok := hal.all (Q := BrD.ok) (fun b => ⟨fun h => ⟨h.v, h.c, h.e⟩, fun h => ⟨h.v, h.c, h.e⟩⟩) hok
  have hxl := hal.len
  have ek := hal.kept
  have hkl := keptL_len l
  refine s_q (y_move rfl) rfl ?_
  refine s_call (pre := []) (rem := _) rfl rfl tk (fun w N ho hl => refs_spec w N T t l.length l rfl ho (hl0.of hl) (by omega)) rfl ?_
  rintro e L' ⟨R, r, rfl, rfl⟩
  try simp only [List.nil_append, List.cons_append, List.append_nil]
  refine s_q (y_assign rfl) rfl ?_
  refine s_q (y_assign rfl) rfl ?_
  refine s_done ?_
  refine s_seq ?_
  refine s_region ?_
  refine s_q (y_move rfl) rfl ?_
  refine s_call (pre := []) (rem := _) rfl rfl tk (fun w N ho hl => Kept_spec w N X y _ xs rfl ho ⟨keOfS (fun _ => rfl) (by omega) hl (by repeat (first | exact List.mem_cons_self | refine List.mem_cons_of_mem _ ?_)), fun b hb => (lbF rfl hl (by repeat (first | exact List.mem_cons_self | refine List.mem_cons_of_mem _ ?_)) b hb).kr⟩ hxok (by omega)) rfl ?_
  rintro e L' ⟨K1, k1, rfl, rfl⟩
  try simp only [List.nil_append, List.cons_append, List.append_nil]
  refine s_q (y_move rfl) rfl ?_
  refine s_call (pre := []) (rem := _) rfl rfl tk (fun w N ho hl => Kept_spec w N X y _ xs rfl ho ⟨keOfS (fun _ => rfl) (by omega) hl (by repeat (first | exact List.mem_cons_self | refine List.mem_cons_of_mem _ ?_)), fun b hb => (lbF rfl hl (by repeat (first | exact List.mem_cons_self | refine List.mem_cons_of_mem _ ?_)) b hb).kr⟩ hxok (by omega)) rfl ?_
  rintro e L' ⟨K2, k2, rfl, rfl⟩
  try simp only [List.nil_append, List.cons_append, List.append_nil]
  refine s_q (y_assign rfl) rfl ?_
  refine s_q (y_assign rfl) rfl ?_
  refine s_done ?_
  refine s_seq ?_
  refine s_seq ?_
  refine s_region ?_
  refine s_q (y_move rfl) rfl ?_
  refine s_q (y_move rfl) rfl ?_
  refine s_call (pre := []) (rem := _) rfl rfl tk (fun w N ho hl => rKept_spec w N R r _ l rfl ho ⟨keOfS (fun _ => rfl) (by omega) hl (by repeat (first | exact List.mem_cons_self | refine List.mem_cons_of_mem _ ?_)), fun b hb => (hl0.row b hb).of hl⟩ hok h3) rfl ?_
  rintro e L' ⟨K3, k3, rfl, rfl⟩
  try simp only [List.nil_append, List.cons_append, List.append_nil]
  rw [ek]
  obtain ⟨ks, hks⟩ : ∃ ks, keptL l = ks := ⟨_, rfl⟩
  rw [hks] at hkl ⊢
  refine s_call (pre := []) (rem := _) rfl rfl tk (fun w N ho hl => SameInts_spec w N K1 K3 k1 k3 _ _ ks ks rfl rfl ho (KI.ofS hl (by repeat (first | exact List.mem_cons_self | refine List.mem_cons_of_mem _ ?_))) (KI.ofS hl (by repeat (first | exact List.mem_cons_self | refine List.mem_cons_of_mem _ ?_))) (by omega)) rfl ?_
  rintro e L' ⟨rfl, rfl⟩
  try simp only [List.nil_append, List.cons_append, List.append_nil]
  simp only [decide_true]
  refine s_q (by (first | exact y_notT rfl | exact y_notF rfl | exact y_notp rfl | exact y_notb rfl)) rfl ?_
  refine s_done ?_
  refine s_condF2 rfl (by with_reducible rfl) ?_
  refine s_skip ?_
  refine s_seq ?_
  refine s_region ?_
  refine s_q (y_move rfl) rfl ?_
  refine s_q (y_move rfl) rfl ?_
  refine s_bslice rfl rfl rfl rfl rfl rfl rfl rfl (fun nb => ?_)
  change J _ _ _ (cb nb 22 [.slice K1 ks.length k1, .slice K2 ks.length k2] :: _) _
  refine J.imp (B := Sl 22 1 (some ⟨nb, 0, none⟩) 2 2 (([⟨K1, k1, ks⟩, ⟨K2, k2, ks⟩] : List Rw).map Rw.val)) (fun h hh => Sl.ofCb rfl (by decide) hh) ?_
  refine J.perm (Tk.perm (K := [Sl 3 1 K1 ks.length k1 (ints ks), Sl 3 1 K2 ks.length k2 (ints ks)])) ?_
  refine J.group.1 ?_
  change J _ _ _ (Go.E.bs (fl0 [⟨K1, k1, ks⟩, ⟨K2, k2, ks⟩]) 2 :: _) _
  refine s_q (y_assign rfl) rfl ?_
  refine s_done ?_
  refine s_seq ?_
  refine s_seq ?_
  refine s_region ?_
  refine s_q (y_assign rfl) rfl ?_
  refine s_done ?_
  refine s_block ?_
  refine s_loopV (σ := Nat × List Rw × Nat × Option Addr × Nat) (fun s => [(8, .int .i64 s.1), (7, .slice s.2.2.2.1 s.2.2.1 s.2.2.2.2)]) (fun s => [Sl 22 1 s.2.2.2.1 s.2.2.1 s.2.2.2.2 (s.2.1.map Rw.val), Go.E.bs (fl0 s.2.1) s.2.2.1]) (fun s => (s.1 ≤ l.length) ∧ (s.2.2.1 = s.2.1.length) ∧ (s.2.2.1 ≤ 2 + 64 * s.1) ∧ (∀ r ∈ s.2.1, r.xs.length ≤ 400)) (fun s => l.length - s.1) (0, [⟨K1, k1, ks⟩, ⟨K2, k2, ks⟩], 2, some ⟨nb, 0, none⟩, 2) [(0, _), (3, _), (4, _)] ⟨rfl, rfl, rfl, trivial⟩ ⟨rfl, rfl, trivial⟩ tk ⟨Nat.zero_le _, rfl, by simp, fun r hr => by simp at hr; rcases hr with rfl | rfl <;> (show ks.length ≤ 400; omega)⟩ ?_
  rintro ⟨i, rs, m, P, p⟩ ⟨hi, hm, hm2, hr⟩
  try dsimp only [List.cons_append, List.nil_append, List.append_nil] at hi hm hm2 hr ⊢
  refine s_seq ?_
  refine s_seq ?_
  refine s_region ?_
  refine s_q (y_move rfl) rfl ?_
  refine s_q (y_move rfl) rfl ?_
  refine s_q (y_lenS rfl rfl rfl) rfl ?_
  refine s_q (y_lss rfl rfl) rfl ?_
  refine s_done ?_
  refine s_cond rfl (fun h => ?_) (fun h => ?_)
  · have hil : i < l.length := by omega
    have hix : i < xs.length := by omega
    have hmx := getD_mem BrD.no hix
    have hml := getD_mem BrD.no hil
    obtain ⟨b, hb⟩ : ∃ b, l.getD i .no = b := ⟨_, rfl⟩
    obtain ⟨x, hx⟩ : ∃ x, xs.getD i .no = x := ⟨_, rfl⟩
    have hbx := hal.at i
    rw [hb] at hml hbx
    rw [hx] at hmx hbx
    obtain ⟨e1, e2⟩ := bare_fn hbx
    have hrow := hl0.row _ hml
    have hbk := hok _ hml
    have hxk := hxok _ hmx
    have hbf := hfew _ hml
    obtain ⟨a1, a2⟩ := apart_few (b := b)
    have fx : ∀ j v, (encBr x)[j]? = some v → (xs.flatMap encBr)[i * 3 + j]? = some v := fun j v hj => flat_at (enc := encBr) (fun _ => rfl) .no xs i j v hix (by rw [hx]; exact hj)
    have fl : ∀ j v, (encBr b)[j]? = some v → (l.flatMap encBr)[i * 3 + j]? = some v := fun j v hj => flat_at (enc := encBr) (fun _ => rfl) .no l i j v hil (by rw [hb]; exact hj)
    refine s_skip ?_
    refine s_seq ?_
    refine s_block ?_
    refine s_seq ?_
    refine s_region ?_
    refine s_q (y_move rfl) rfl ?_
    refine s_q (y_move rfl) rfl ?_
    refine s_q (by (first | exact y_ixO rfl rfl rfl rfl rfl (by omega) (by omega) (by omega) | exact y_ixI rfl rfl rfl rfl rfl (by assumption) rfl (by omega) (by omega))) rfl ?_
    refine s_q (by (first | exact y_ldON (vs := encBr x) rfl rfl rfl rfl fx | exact y_ld rfl rfl rfl (by rfl) | exact y_ldN rfl rfl rfl (by rfl) | exact y_ldK rfl rfl rfl rfl (by assumption) (by omega) | exact y_ldI rfl rfl rfl rfl (by assumption) (by omega) (by omega))) rfl ?_
    refine s_call (pre := []) (rem := _) rfl rfl tk (fun w N ho hl => Apart_spec w N x ho ((lbF rfl hl (by repeat (first | exact List.mem_cons_self | refine List.mem_cons_of_mem _ ?_)) x hmx).kr) hxk) rfl ?_
    rintro e L' ⟨G, g, cs, rfl, rfl, hcs⟩
    try simp only [List.nil_append, List.cons_append, List.append_nil]
    rw [e2] at hcs
    refine s_q (y_assign rfl) rfl ?_
    refine s_done ?_
    refine s_seq ?_
    refine s_seq ?_
    refine s_joinV (σ := Unit) (fun s => [(74, .bool false)]) [Sl 22 1 G cs.length g (cs.map Row.val), star (cs.map Row.hp)] (fun s => [Sl 22 1 G cs.length g (cs.map Row.val), star (cs.map Row.hp)]) (fun s => True) [(0, _), (3, _), (4, _), (7, _), (8, _), (9, _)] ⟨rfl, rfl, rfl, rfl, rfl, rfl, trivial⟩ tk (fun k' hr => ?_) ?_
    · refine d_start ?_
      refine d_take 0 rfl (by kernel_rfl) (by exact y_move rfl) rfl ?_
      refine d_take 1 rfl (by kernel_rfl) (by exact y_move rfl) rfl ?_
      refine d_take 2 rfl (by kernel_rfl) (by (first | exact y_ixO rfl rfl rfl rfl rfl (by omega) (by omega) (by omega) | exact y_ixI rfl rfl rfl rfl rfl (by assumption) rfl (by omega) (by omega))) rfl ?_
      refine d_take 3 rfl (by kernel_rfl) (by (first | exact y_ldON (vs := encBr x) rfl rfl rfl rfl fx | exact y_ldON (vs := encBr b) rfl rfl rfl rfl fl | exact y_ld rfl rfl rfl (by rfl) | exact y_ldN rfl rfl rfl (by rfl) | exact y_ldK rfl rfl rfl rfl (by assumption) (by omega) | exact y_ldI rfl rfl rfl rfl (by assumption) (by omega) (by omega))) rfl ?_
      refine d_take 5 rfl (by kernel_rfl) (by exact y_move rfl) rfl ?_
      refine d_take 6 rfl (by kernel_rfl) (by exact y_move rfl) rfl ?_
      refine d_take 7 rfl (by kernel_rfl) (by (first | exact y_ixO rfl rfl rfl rfl rfl (by omega) (by omega) (by omega) | exact y_ixI rfl rfl rfl rfl rfl (by assumption) rfl (by omega) (by omega))) rfl ?_
      refine d_take 8 rfl (by kernel_rfl) (by (first | exact y_ldON (vs := encBr x) rfl rfl rfl rfl fx | exact y_ldON (vs := encBr b) rfl rfl rfl rfl fl | exact y_ld rfl rfl rfl (by rfl) | exact y_ldN rfl rfl rfl (by rfl) | exact y_ldK rfl rfl rfl rfl (by assumption) (by omega) | exact y_ldI rfl rfl rfl rfl (by assumption) (by omega) (by omega))) rfl ?_
      refine d_effM 4 [8, 7, 6, 5, 3, 2, 1, 0] [true, true, true, true, false, true, true, true] rfl (by kernel_rfl) rfl (by kernel_rfl) (fun K hK => ?_)
      refine s_call (pre := []) (rem := _) rfl rfl tk (fun w N ho hl => Right_spec w N x ho ((lbF rfl hl (by repeat (first | exact List.mem_cons_self | refine List.mem_cons_of_mem _ ?_)) x hmx).kr) hxk) rfl ?_
      rintro e L' ⟨rfl, rfl⟩
      try simp only [List.nil_append, List.cons_append, List.append_nil]
      refine s_done ?_
      refine hK _ _ (by refine rm_yd rfl (by (first | exact y_ldON (vs := encBr x) rfl rfl rfl rfl fx | exact y_ldON (vs := encBr b) rfl rfl rfl rfl fl | exact y_ld rfl rfl rfl (by rfl) | exact y_ldN rfl rfl rfl (by rfl) | exact y_ldK rfl rfl rfl rfl (by assumption) (by omega) | exact y_ldI rfl rfl rfl rfl (by assumption) (by omega) (by omega))) ?_; refine rm_yd rfl (by (first | exact y_ixO rfl rfl rfl rfl rfl (by omega) (by omega) (by omega) | exact y_ixI rfl rfl rfl rfl rfl (by assumption) rfl (by omega) (by omega))) ?_; refine rm_yd rfl (by exact y_move rfl) ?_; refine rm_yd rfl (by exact y_move rfl) ?_; refine rm_skip ?_; refine rm_yd rfl (by (first | exact y_ixO rfl rfl rfl rfl rfl (by omega) (by omega) (by omega) | exact y_ixI rfl rfl rfl rfl rfl (by assumption) rfl (by omega) (by omega))) ?_; refine rm_yd rfl (by exact y_move rfl) ?_; refine rm_yd rfl (by exact y_move rfl) ?_; exact rm_nil) ?_
      clear hK K
      refine d_effM 9 [8, 7, 6, 5, 2, 1, 0] [false, true, true, true, true, true, true] rfl (by kernel_rfl) rfl (by kernel_rfl) (fun K hK => ?_)
      refine s_call (pre := []) (rem := _) rfl rfl tk (fun w N ho hl => rRight_spec w N b ho (hrow.of hl) hbk) rfl ?_
      rintro e L' ⟨rfl, rfl⟩
      try simp only [List.nil_append, List.cons_append, List.append_nil]
      refine s_done ?_
      refine hK _ _ (by refine rm_skip ?_; refine rm_yd rfl (by (first | exact y_ixO rfl rfl rfl rfl rfl (by omega) (by omega) (by omega) | exact y_ixI rfl rfl rfl rfl rfl (by assumption) rfl (by omega) (by omega))) ?_; refine rm_yd rfl (by exact y_move rfl) ?_; refine rm_yd rfl (by exact y_move rfl) ?_; refine rm_yd rfl (by (first | exact y_ixO rfl rfl rfl rfl rfl (by omega) (by omega) (by omega) | exact y_ixI rfl rfl rfl rfl rfl (by assumption) rfl (by omega) (by omega))) ?_; refine rm_yd rfl (by exact y_move rfl) ?_; refine rm_yd rfl (by exact y_move rfl) ?_; exact rm_nil) ?_
      clear hK K
      refine d_take 10 rfl (by kernel_rfl) (by (first | exact y_as (y_neqB rfl rfl rfl) (congrArg Value.bool (show (rightB x != rightB b) = false by rw [e1]; simp)) | exact y_as (y_neq rfl rfl) (congrArg Value.bool (decide_eq_false (by rw [e2]; simp))) | exact y_neq rfl rfl | exact y_neqB rfl rfl rfl)) rfl ?_
      refine d_take 11 rfl (by kernel_rfl) (by exact y_move rfl) rfl ?_
      refine d_takeG 12 rfl (by kernel_rfl) rfl rfl (by exact y_move rfl) rfl ?_
      refine d_takeG 13 rfl (by kernel_rfl) rfl rfl (by exact y_move rfl) rfl ?_
      refine d_takeG 14 rfl (by kernel_rfl) rfl rfl (by (first | exact y_ixO rfl rfl rfl rfl rfl (by omega) (by omega) (by omega) | exact y_ixI rfl rfl rfl rfl rfl (by assumption) rfl (by omega) (by omega))) rfl ?_
      refine d_takeG 15 rfl (by kernel_rfl) rfl rfl (by (first | exact y_ldON (vs := encBr x) rfl rfl rfl rfl fx | exact y_ldON (vs := encBr b) rfl rfl rfl rfl fl | exact y_ld rfl rfl rfl (by rfl) | exact y_ldN rfl rfl rfl (by rfl) | exact y_ldK rfl rfl rfl rfl (by assumption) (by omega) | exact y_ldI rfl rfl rfl rfl (by assumption) (by omega) (by omega))) rfl ?_
      refine d_takeG 17 rfl (by kernel_rfl) rfl rfl (by exact y_move rfl) rfl ?_
      refine d_takeG 18 rfl (by kernel_rfl) rfl rfl (by exact y_move rfl) rfl ?_
      refine d_takeG 19 rfl (by kernel_rfl) rfl rfl (by (first | exact y_ixO rfl rfl rfl rfl rfl (by omega) (by omega) (by omega) | exact y_ixI rfl rfl rfl rfl rfl (by assumption) rfl (by omega) (by omega))) rfl ?_
      refine d_takeG 20 rfl (by kernel_rfl) rfl rfl (by (first | exact y_ldON (vs := encBr x) rfl rfl rfl rfl fx | exact y_ldON (vs := encBr b) rfl rfl rfl rfl fl | exact y_ld rfl rfl rfl (by rfl) | exact y_ldN rfl rfl rfl (by rfl) | exact y_ldK rfl rfl rfl rfl (by assumption) (by omega) | exact y_ldI rfl rfl rfl rfl (by assumption) (by omega) (by omega))) rfl ?_
      refine d_effM 16 [20, 19, 18, 17, 15, 14, 13, 12, 11, 10, 7, 6, 5, 2, 1, 0] [true, true, true, true, false, true, true, true, false, true, true, true, true, true, true, true] rfl (by kernel_rfl) rfl (by kernel_rfl) (fun K hK => ?_)
      refine s_guard rfl rfl ?_
      refine s_call (pre := []) (rem := _) rfl rfl tk (fun w N ho hl => Used_spec w N x ho ((lbF rfl hl (by repeat (first | exact List.mem_cons_self | refine List.mem_cons_of_mem _ ?_)) x hmx).kr) hxk) rfl ?_
      rintro e L' ⟨rfl, rfl⟩
      try simp only [List.nil_append, List.cons_append, List.append_nil]
      refine s_done ?_
      refine hK _ _ (by refine rm_yd rfl (by (first | exact y_ldON (vs := encBr x) rfl rfl rfl rfl fx | exact y_ldON (vs := encBr b) rfl rfl rfl rfl fl | exact y_ld rfl rfl rfl (by rfl) | exact y_ldN rfl rfl rfl (by rfl) | exact y_ldK rfl rfl rfl rfl (by assumption) (by omega) | exact y_ldI rfl rfl rfl rfl (by assumption) (by omega) (by omega))) ?_; refine rm_yd rfl (by (first | exact y_ixO rfl rfl rfl rfl rfl (by omega) (by omega) (by omega) | exact y_ixI rfl rfl rfl rfl rfl (by assumption) rfl (by omega) (by omega))) ?_; refine rm_yd rfl (by exact y_move rfl) ?_; refine rm_yd rfl (by exact y_move rfl) ?_; refine rm_skip ?_; refine rm_yd rfl (by (first | exact y_ixO rfl rfl rfl rfl rfl (by omega) (by omega) (by omega) | exact y_ixI rfl rfl rfl rfl rfl (by assumption) rfl (by omega) (by omega))) ?_; refine rm_yd rfl (by exact y_move rfl) ?_; refine rm_yd rfl (by exact y_move rfl) ?_; refine rm_skip ?_; refine rm_yd rfl (by (first | exact y_as (y_neqB rfl rfl rfl) (congrArg Value.bool (show (rightB x != rightB b) = false by rw [e1]; simp)) | exact y_as (y_neq rfl rfl) (congrArg Value.bool (decide_eq_false (by rw [e2]; simp))) | exact y_neq rfl rfl | exact y_neqB rfl rfl rfl)) ?_; refine rm_yd rfl (by (first | exact y_ixO rfl rfl rfl rfl rfl (by omega) (by omega) (by omega) | exact y_ixI rfl rfl rfl rfl rfl (by assumption) rfl (by omega) (by omega))) ?_; refine rm_yd rfl (by exact y_move rfl) ?_; refine rm_yd rfl (by exact y_move rfl) ?_; refine rm_yd rfl (by (first | exact y_ixO rfl rfl rfl rfl rfl (by omega) (by omega) (by omega) | exact y_ixI rfl rfl rfl rfl rfl (by assumption) rfl (by omega) (by omega))) ?_; refine rm_yd rfl (by exact y_move rfl) ?_; refine rm_yd rfl (by exact y_move rfl) ?_; exact rm_nil) ?_
      clear hK K
      refine d_effM 21 [20, 19, 18, 17, 14, 13, 12, 10, 7, 6, 5, 2, 1, 0] [false, true, true, true, true, true, true, true, true, true, true, true, true, true] rfl (by kernel_rfl) rfl (by kernel_rfl) (fun K hK => ?_)
      refine s_guard rfl rfl ?_
      refine s_call (pre := []) (rem := _) rfl rfl tk (fun w N ho hl => rUsed_spec w N b ho (hrow.of hl) hbk) rfl ?_
      rintro e L' ⟨rfl, rfl⟩
      try simp only [List.nil_append, List.cons_append, List.append_nil]
      refine s_done ?_
      refine hK _ _ (by refine rm_skip ?_; refine rm_yd rfl (by (first | exact y_ixO rfl rfl rfl rfl rfl (by omega) (by omega) (by omega) | exact y_ixI rfl rfl rfl rfl rfl (by assumption) rfl (by omega) (by omega))) ?_; refine rm_yd rfl (by exact y_move rfl) ?_; refine rm_yd rfl (by exact y_move rfl) ?_; refine rm_yd rfl (by (first | exact y_ixO rfl rfl rfl rfl rfl (by omega) (by omega) (by omega) | exact y_ixI rfl rfl rfl rfl rfl (by assumption) rfl (by omega) (by omega))) ?_; refine rm_yd rfl (by exact y_move rfl) ?_; refine rm_yd rfl (by exact y_move rfl) ?_; refine rm_yd rfl (by (first | exact y_as (y_neqB rfl rfl rfl) (congrArg Value.bool (show (rightB x != rightB b) = false by rw [e1]; simp)) | exact y_as (y_neq rfl rfl) (congrArg Value.bool (decide_eq_false (by rw [e2]; simp))) | exact y_neq rfl rfl | exact y_neqB rfl rfl rfl)) ?_; refine rm_yd rfl (by (first | exact y_ixO rfl rfl rfl rfl rfl (by omega) (by omega) (by omega) | exact y_ixI rfl rfl rfl rfl rfl (by assumption) rfl (by omega) (by omega))) ?_; refine rm_yd rfl (by exact y_move rfl) ?_; refine rm_yd rfl (by exact y_move rfl) ?_; refine rm_yd rfl (by (first | exact y_ixO rfl rfl rfl rfl rfl (by omega) (by omega) (by omega) | exact y_ixI rfl rfl rfl rfl rfl (by assumption) rfl (by omega) (by omega))) ?_; refine rm_yd rfl (by exact y_move rfl) ?_; refine rm_yd rfl (by exact y_move rfl) ?_; exact rm_nil) ?_
      clear hK K
      refine d_takeG 22 rfl (by kernel_rfl) rfl rfl (by (first | exact y_as (y_neqB rfl rfl rfl) (congrArg Value.bool (show (rightB x != rightB b) = false by rw [e1]; simp)) | exact y_as (y_neq rfl rfl) (congrArg Value.bool (decide_eq_false (by rw [e2]; simp))) | exact y_neq rfl rfl | exact y_neqB rfl rfl rfl)) rfl ?_
      refine d_take 23 rfl (by kernel_rfl) (by (first | exact y_pickT rfl rfl | exact y_pickF rfl rfl)) rfl ?_
      refine d_take 24 rfl (by kernel_rfl) (by exact y_move rfl) rfl ?_
      refine d_takeG 25 rfl (by kernel_rfl) rfl rfl (by exact y_move rfl) rfl ?_
      refine d_takeG 26 rfl (by kernel_rfl) rfl rfl (by exact y_move rfl) rfl ?_
      refine d_takeG 27 rfl (by kernel_rfl) rfl rfl (by exact y_move rfl) rfl ?_
      refine d_takeG 28 rfl (by kernel_rfl) rfl rfl (by (first | exact y_ixO rfl rfl rfl rfl rfl (by omega) (by omega) (by omega) | exact y_ixI rfl rfl rfl rfl rfl (by assumption) rfl (by omega) (by omega))) rfl ?_
      refine d_takeG 29 rfl (by kernel_rfl) rfl rfl (by (first | exact y_ldON (vs := encBr x) rfl rfl rfl rfl fx | exact y_ldON (vs := encBr b) rfl rfl rfl rfl fl | exact y_ld rfl rfl rfl (by rfl) | exact y_ldN rfl rfl rfl (by rfl) | exact y_ldK rfl rfl rfl rfl (by assumption) (by omega) | exact y_ldI rfl rfl rfl rfl (by assumption) (by omega) (by omega))) rfl ?_
      refine d_effM 30 [29, 28, 27, 26, 25, 24, 23, 22, 19, 18, 17, 14, 13, 12, 10, 7, 6, 5, 2, 1, 0] [false, true, true, true, true, false, true, true, true, true, true, true, true, true, true, true, true, true, true, true, true] rfl (by kernel_rfl) rfl (by kernel_rfl) (fun K hK => ?_)
      refine s_guard rfl rfl ?_
      refine s_call (pre := []) (rem := _) rfl rfl tk (fun w N ho hl => rApart_spec w N b ho (hrow.of hl) hbk) rfl ?_
      rintro e L' ⟨G2, g2, cs2, rfl, rfl, hcs2⟩
      try simp only [List.nil_append, List.cons_append, List.append_nil]
      refine s_done ?_
      refine hK _ _ (by refine rm_skip ?_; refine rm_yd rfl (by (first | exact y_ixO rfl rfl rfl rfl rfl (by omega) (by omega) (by omega) | exact y_ixI rfl rfl rfl rfl rfl (by assumption) rfl (by omega) (by omega))) ?_; refine rm_yd rfl (by exact y_move rfl) ?_; refine rm_yd rfl (by exact y_move rfl) ?_; refine rm_yd rfl (by exact y_move rfl) ?_; refine rm_skip ?_; refine rm_yd rfl (by (first | exact y_pickT rfl rfl | exact y_pickF rfl rfl)) ?_; refine rm_yd rfl (by (first | exact y_as (y_neqB rfl rfl rfl) (congrArg Value.bool (show (rightB x != rightB b) = false by rw [e1]; simp)) | exact y_as (y_neq rfl rfl) (congrArg Value.bool (decide_eq_false (by rw [e2]; simp))) | exact y_neq rfl rfl | exact y_neqB rfl rfl rfl)) ?_; refine rm_yd rfl (by (first | exact y_ixO rfl rfl rfl rfl rfl (by omega) (by omega) (by omega) | exact y_ixI rfl rfl rfl rfl rfl (by assumption) rfl (by omega) (by omega))) ?_; refine rm_yd rfl (by exact y_move rfl) ?_; refine rm_yd rfl (by exact y_move rfl) ?_; refine rm_yd rfl (by (first | exact y_ixO rfl rfl rfl rfl rfl (by omega) (by omega) (by omega) | exact y_ixI rfl rfl rfl rfl rfl (by assumption) rfl (by omega) (by omega))) ?_; refine rm_yd rfl (by exact y_move rfl) ?_; refine rm_yd rfl (by exact y_move rfl) ?_; refine rm_yd rfl (by (first | exact y_as (y_neqB rfl rfl rfl) (congrArg Value.bool (show (rightB x != rightB b) = false by rw [e1]; simp)) | exact y_as (y_neq rfl rfl) (congrArg Value.bool (decide_eq_false (by rw [e2]; simp))) | exact y_neq rfl rfl | exact y_neqB rfl rfl rfl)) ?_; refine rm_yd rfl (by (first | exact y_ixO rfl rfl rfl rfl rfl (by omega) (by omega) (by omega) | exact y_ixI rfl rfl rfl rfl rfl (by assumption) rfl (by omega) (by omega))) ?_; refine rm_yd rfl (by exact y_move rfl) ?_; refine rm_yd rfl (by exact y_move rfl) ?_; refine rm_yd rfl (by (first | exact y_ixO rfl rfl rfl rfl rfl (by omega) (by omega) (by omega) | exact y_ixI rfl rfl rfl rfl rfl (by assumption) rfl (by omega) (by omega))) ?_; refine rm_yd rfl (by exact y_move rfl) ?_; refine rm_yd rfl (by exact y_move rfl) ?_; exact rm_nil) ?_
      clear hK K
      refine d_effM 31 [28, 27, 26, 25, 23, 22, 19, 18, 17, 14, 13, 12, 10, 7, 6, 5, 2, 1, 0] [true, true, true, false, true, true, true, true, true, true, true, true, true, true, true, true, true, true, true] rfl (by kernel_rfl) rfl (by kernel_rfl) (fun K hK => ?_)
      refine s_guard rfl rfl ?_
      refine s_call (pre := [Sl 22 1 G cs.length g (cs.map Row.val), Sl 22 1 G2 cs2.length g2 (cs2.map Row.val)]) (rem := _) rfl rfl tk (fun w N ho hl => SameIntRows_spec w N G G2 g g2 _ _ cs cs2 (by rw [hcs, hcs2]) rfl (by simpa using congrArg List.length (hcs2.trans hcs.symm)) ho (fun k hk => rowKI hl (by repeat (first | exact List.mem_cons_self | refine List.mem_cons_of_mem _ ?_)) hk) (fun k hk => rowKI hl (by repeat (first | exact List.mem_cons_self | refine List.mem_cons_of_mem _ ?_)) hk) (by have := congrArg List.length hcs; simp at this; omega) (fun r hr => by have := a2 r.xs (by rw [← hcs]; exact List.mem_map_of_mem hr); omega)) rfl ?_
      rintro e L' ⟨rfl, rfl⟩
      try simp only [List.nil_append, List.cons_append, List.append_nil]
      refine s_done ?_
      refine hK _ _ (by refine rm_yd rfl (by (first | exact y_ixO rfl rfl rfl rfl rfl (by omega) (by omega) (by omega) | exact y_ixI rfl rfl rfl rfl rfl (by assumption) rfl (by omega) (by omega))) ?_; refine rm_yd rfl (by exact y_move rfl) ?_; refine rm_yd rfl (by exact y_move rfl) ?_; refine rm_skip ?_; refine rm_yd rfl (by (first | exact y_pickT rfl rfl | exact y_pickF rfl rfl)) ?_; refine rm_yd rfl (by (first | exact y_as (y_neqB rfl rfl rfl) (congrArg Value.bool (show (rightB x != rightB b) = false by rw [e1]; simp)) | exact y_as (y_neq rfl rfl) (congrArg Value.bool (decide_eq_false (by rw [e2]; simp))) | exact y_neq rfl rfl | exact y_neqB rfl rfl rfl)) ?_; refine rm_yd rfl (by (first | exact y_ixO rfl rfl rfl rfl rfl (by omega) (by omega) (by omega) | exact y_ixI rfl rfl rfl rfl rfl (by assumption) rfl (by omega) (by omega))) ?_; refine rm_yd rfl (by exact y_move rfl) ?_; refine rm_yd rfl (by exact y_move rfl) ?_; refine rm_yd rfl (by (first | exact y_ixO rfl rfl rfl rfl rfl (by omega) (by omega) (by omega) | exact y_ixI rfl rfl rfl rfl rfl (by assumption) rfl (by omega) (by omega))) ?_; refine rm_yd rfl (by exact y_move rfl) ?_; refine rm_yd rfl (by exact y_move rfl) ?_; refine rm_yd rfl (by (first | exact y_as (y_neqB rfl rfl rfl) (congrArg Value.bool (show (rightB x != rightB b) = false by rw [e1]; simp)) | exact y_as (y_neq rfl rfl) (congrArg Value.bool (decide_eq_false (by rw [e2]; simp))) | exact y_neq rfl rfl | exact y_neqB rfl rfl rfl)) ?_; refine rm_yd rfl (by (first | exact y_ixO rfl rfl rfl rfl rfl (by omega) (by omega) (by omega) | exact y_ixI rfl rfl rfl rfl rfl (by assumption) rfl (by omega) (by omega))) ?_; refine rm_yd rfl (by exact y_move rfl) ?_; refine rm_yd rfl (by exact y_move rfl) ?_; refine rm_yd rfl (by (first | exact y_ixO rfl rfl rfl rfl rfl (by omega) (by omega) (by omega) | exact y_ixI rfl rfl rfl rfl rfl (by assumption) rfl (by omega) (by omega))) ?_; refine rm_yd rfl (by exact y_move rfl) ?_; refine rm_yd rfl (by exact y_move rfl) ?_; exact rm_nil) ?_
      clear hK K
      refine d_takeG 32 rfl (by kernel_rfl) rfl rfl (by (first | exact y_notT rfl | exact y_notF rfl | exact y_notp rfl | exact y_notb rfl)) rfl ?_
      refine d_take 33 rfl (by kernel_rfl) (by (first | exact y_pickT rfl rfl | exact y_pickF rfl rfl)) rfl ?_
      refine d_done (by kernel_rfl) ?_
      have hr' := hr () trivial
      try dsimp only [List.cons_append, List.nil_append, List.append_nil] at hr'
      exact J.to hr' ⟨rfl, rfl, rfl, rfl, rfl, rfl, rfl, trivial⟩ tk
    rintro - -
    dsimp only [List.cons_append, List.nil_append]
    refine s_condF2 rfl (by with_reducible rfl) ?_
    refine s_skip ?_
    refine s_region ?_
    refine s_q (y_move rfl) rfl ?_
    refine s_q (y_move rfl) rfl ?_
    have hcl : cs.length ≤ 64 := by have := congrArg List.length hcs; simp at this; omega
    have hcr : ∀ r ∈ cs, r.xs.length ≤ 400 := fun r hr => by have := a2 r.xs (by rw [← hcs]; exact List.mem_map_of_mem hr); have := hbf.1; omega
    refine s_appendV (news := cs.map Row.val) rfl rfl rfl rfl rfl rfl rfl (fun w hw => ?_) (by rw [List.length_map, Nat.mul_one]) (fun u hu => ?_) (by omega) rfl (fun P' p' => ?_)
    · by_cases hc0 : cs.length = 0
      · exact .inl hc0
      · exact .inr (newsS (n := cs.length) (by repeat (first | exact List.mem_cons_self | refine List.mem_cons_of_mem _ ?_)) (by omega) w hw)
    · obtain ⟨r, _, rfl⟩ := List.mem_map.1 hu; rfl
    rw [← toRw_val cs, ← List.map_append]
    subst hm
    refine J.perm (Tk.perm (K := [star (cs.map Row.hp), Go.E.bs (fl0 rs) rs.length])) ?_
    dsimp only [List.cons_append, List.nil_append]
    rw [← toRw_hp cs]
    refine J.bsApp ?_
    have hln : (rs ++ cs.map toRw).length = rs.length + cs.length := by simp
    rw [hln]
    refine s_q (y_assign rfl) rfl ?_
    refine s_done ?_
    refine s_endb ?_
    refine s_region ?_
    refine s_q (y_move rfl) rfl ?_
    refine s_q (y_add rfl rfl (by omega)) rfl ?_
    refine s_q (y_assign rfl) rfl ?_
    refine s_done ?_
    refine s_inv (i + 1, rs ++ cs.map toRw, rs.length + cs.length, P', p') ⟨(by (try dsimp only); omega), hln.symm, (by (try dsimp only); omega), fun r hr2 => ?_⟩ (by (try dsimp only); omega) ⟨rfl, rfl, rfl, rfl, rfl, trivial⟩ tk
    rcases List.mem_append.1 hr2 with h5 | h5
    · exact hr r h5
    · obtain ⟨r0, h6, rfl⟩ := List.mem_map.1 h5
      exact hcr r0 h6
  · subst hm
    refine s_exit rfl ?_
    refine s_seq ?_
    refine s_region ?_
    refine s_q (y_move rfl) rfl ?_
    refine s_call (pre := [Go.E.bs (fl0 rs) rs.length, Sl 22 1 P rs.length p (rs.map Rw.val)]) (rem := _) rfl rfl tk (fun w N ho hl => ApartInts_spec w N P p rs (by omega) (fun j hj => by have := hr _ (getD_mem Rw.no hj); exact Nat.lt_of_le_of_lt this (by decide)) ho) rfl ?_
    rintro e L' ⟨rfl, rfl⟩
    try simp only [List.nil_append, List.cons_append, List.append_nil]
    refine s_q (y_move rfl) rfl ?_
    refine s_guard2 rfl rfl (by with_reducible rfl) ?_
    refine s_q (y_move rfl) rfl ?_
    refine s_guard2 rfl rfl (by with_reducible rfl) ?_
    refine s_q (y_move rfl) rfl ?_
    refine s_guard2 rfl rfl (by with_reducible rfl) ?_
    refine s_call (pre := []) (rem := _) rfl rfl tk (fun w N ho hl => kept_spec w N X T y t _ _ xs l rfl rfl ho (keOfS (fun _ => rfl) (by omega) hl (by repeat (first | exact List.mem_cons_self | refine List.mem_cons_of_mem _ ?_))) (lbF rfl hl (by repeat (first | exact List.mem_cons_self | refine List.mem_cons_of_mem _ ?_))) (hl0.of hl) hal hf1 (by omega)) rfl ?_
    rintro e L' ⟨rfl, rfl⟩
    try simp only [List.nil_append, List.cons_append, List.append_nil]
    refine s_q (by (first | exact y_pickT rfl rfl | exact y_pickF rfl rfl)) rfl ?_
    refine s_q (y_move rfl) rfl ?_
    refine s_guard2 rfl rfl (by with_reducible rfl) ?_
    refine s_call (pre := []) (rem := _) rfl rfl tk (fun w N ho hl => awake_spec w N ho) rfl ?_
    rintro e L' ⟨rfl, rfl⟩
    try simp only [List.nil_append, List.cons_append, List.append_nil]
    refine s_q (by (first | exact y_pickT rfl rfl | exact y_pickF rfl rfl)) rfl ?_
    refine s_q (y_assign rfl) rfl ?_
    refine s_done ?_
    exact s_return ⟨rfl, rfl⟩ (res_tmp Tryz.results4 rfl)
end Go.Proofs.YtdbnlgknalencaaGreat
