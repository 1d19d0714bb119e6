/- Layer 23 (brief): the variables of each color; how many colors. -/
import Derived.Test.YtdbnlgknalencaaGreatBrgBC
import Derived.Test.YtdbnlgknalencaaGreatEEb
set_option linter.unusedVariables false
set_option linter.unusedSimpArgs false
namespace Go.Proofs.YtdbnlgknalencaaGreat
open Go Go.E
set_option maxRecDepth 4000
set_option maxHeartbeats 1000000
def rowOf : List Int → List Int → Int → List Int
  | v :: vs, c :: cs, x => (if c = x then [v] else []) ++ rowOf vs cs x
  | _, _, _ => []
theorem rowOf_snoc (v c x : Int) : ∀ (vs cs : List Int), vs.length = cs.length → rowOf (vs ++ [v]) (cs ++ [c]) x = rowOf vs cs x ++ (if c = x then [v] else [])
  | [], [], _ => by simp [rowOf]
  | [], _ :: _, h => by simp at h
  | _ :: _, [], h => by simp at h
  | a :: vs, b :: cs, h => by simp only [List.cons_append, rowOf, rowOf_snoc v c x vs cs (by simpa using h), List.append_assoc]
def apartL (b : BrD) : List (List Int) := if rightB b = true then ((List.range 64).map fun c : Nat => rowOf b.vars b.cols c).filter (fun r => !r.isEmpty) else []
structure ApInv (b : BrD) (k : Nat) (g : Rows) : Prop where
  row : ∀ c, rowsAt g c = rowOf (b.vars.take k) (b.cols.take k) c
  ne : ∀ p ∈ g, p.2.xs ≠ [] ∧ p.2.xs.length ≤ k
  key : ∀ p ∈ g, -1 ≤ p.1 ∧ p.1 ≤ 63
  len : g.length ≤ k
theorem mset_length (a : Int) (r : Row) : ∀ g : Rows, (mset a r g).length ≤ g.length + 1
  | [] => by simp [mset]
  | (x, y) :: g => by
    simp only [mset]
    split
    · simp
    · have := mset_length a r g; simp; omega
theorem ApInv.step {b : BrD} {k : Nat} {g : Rows} (h : ApInv b k g) (hk : k < b.vars.length) (hl : b.cols.length = b.vars.length) (hc : -1 ≤ b.cols.getD k 0 ∧ b.cols.getD k 0 ≤ 63) {A : Option Addr} {c : Nat} {xs : List Int} (hx : rowsAt g (b.cols.getD k 0) = xs) (hxl : xs.length ≤ k) :
    ApInv b (k + 1) (mset (b.cols.getD k 0) ⟨A, c, xs ++ [b.vars.getD k 0]⟩ g) := by
  refine ⟨fun x => ?_, fun p hp => ?_, fun p hp => ?_, ?_⟩
  · rw [rowsAt_mset, take_D 0 hk, take_D 0 (l := b.cols) (by omega), rowOf_snoc _ _ _ _ _ (by simp; omega), ← h.row x]
    by_cases e : b.cols.getD k 0 = x
    · subst e; rw [if_pos rfl, if_pos rfl, hx]
    · rw [if_neg e, if_neg e, List.append_nil]
  · rcases mem_mset hp with rfl | hp
    · exact ⟨by simp, by simp; omega⟩
    · exact ⟨(h.ne p hp).1, by have := (h.ne p hp).2; omega⟩
  · rcases mem_mset hp with rfl | hp
    · exact hc
    · exact h.key p hp
  · have := mset_length (b.cols.getD k 0) ⟨A, c, xs ++ [b.vars.getD k 0]⟩ g
    have := h.len; omega
def apLI (b : BrD) (b3 mb : Nat) (k : Nat) : HP := exHP fun g : Rows => star [pu (ApInv b k g), cb b3 92 [.map (some mb)], Mp ki mb (Rows.vals g), Rows.hp g]
def ApartPost (b : BrD) (v : Value) (L : List HP) : Prop := ∃ (G : Option Addr) (g : Nat) (rs : List Row), v = .slice G rs.length g ∧ L = [Sl 22 1 G rs.length g (rs.map Row.val), star (rs.map Row.hp)] ∧ rs.map (·.xs) = apartL b
/-- The row at a key; none: a nil one. -/
def rowR (g : Rows) (c : Int) : Row := (mget c g).getD ⟨none, 0, []⟩
theorem rowR_xs (g : Rows) (c : Int) : (rowR g c).xs = rowsAt g c := by unfold rowR rowsAt; cases mget c g <;> rfl
theorem rowR_val (g : Rows) (c : Int) : (mget c (Rows.vals g)).getD (.slice none 0 0) = (rowR g c).val := by
  rw [Rows.vals, mget_map]; unfold rowR; cases mget c g <;> rfl
theorem mget_of_nodup {β : Type} : ∀ {m : List (Int × β)}, (m.map (·.1)).Nodup → ∀ p ∈ m, mget p.1 m = some p.2
  | [], _, p, h => absurd h List.not_mem_nil
  | (a, b) :: r, h, p, hp => by
    simp only [List.map_cons, List.nodup_cons] at h
    simp only [mget]
    rcases List.mem_cons.1 hp with rfl | hp
    · simp
    · rw [if_neg (fun e => h.1 (by rw [e]; exact List.mem_map_of_mem hp))]; exact mget_of_nodup h.2 p hp
theorem rows_perm {g : Rows} {ys : List Int} (hn : (g.map (·.1)).Nodup) (hp : ys.Perm (g.map (·.1))) : (ys.map (rowR g)).Perm (g.map (·.2)) := by
  refine (hp.map (rowR g)).trans ?_
  rw [List.map_map]
  have : g.map (rowR g ∘ fun p => p.1) = g.map (·.2) := List.map_congr_left fun p hp => by simp only [Function.comp, rowR, mget_of_nodup hn p hp]; rfl
  rw [this]
theorem vals_keys (g : Rows) : ksOf (Rows.vals g) = g.map (·.1) := by simp [ksOf, Rows.vals, List.map_map, Function.comp_def]
theorem mdel_mem {β : Type} (a : Int) (m : List (Int × β)) {p : Int × β} (h : p ∈ mdel a m) : p ∈ m := (mdel_sub a m).subset h
/-- What stands in the rows, by the colors in order. -/
theorem apart_xs {b : BrD} {g : Rows} {ys : List Int} (hr : rightB b = true) (hg : ApInv b b.vars.length g) (hl : b.cols.length = b.vars.length) (hn : (g.map (·.1)).Nodup) (hp : ys.Perm ((mdel (-1) g).map (·.1))) (hs : ys.Pairwise (· ≤ ·)) :
    ys.map (fun c => (rowR (mdel (-1) g) c).xs) = apartL b := by
  have hat : ∀ c, rowsAt (mdel (-1) g) c = if (-1 : Int) = c then [] else rowOf b.vars b.cols c := fun c => by
    have h1 := hg.row c
    rw [List.take_length, List.take_of_length_le (by omega)] at h1
    unfold rowsAt at h1 ⊢
    rw [mget_mdel _ _ _ hn]
    split
    · rfl
    · exact h1
  have hnd : ys.Nodup := hp.nodup_iff.2 (mdel_nodup (-1) g hn)
  have hmem : ∀ c, c ∈ ys ↔ (0 ≤ c ∧ c ≤ 63) ∧ rowOf b.vars b.cols c ≠ [] := fun c => by
    rw [hp.mem_iff]
    constructor
    · intro h
      obtain ⟨p, hpm, rfl⟩ := List.mem_map.1 h
      have h1 := mget_of_nodup (mdel_nodup (-1) g hn) p hpm
      have h2 := hat p.1
      rw [rowsAt, h1] at h2
      have h3 := hg.ne p (mdel_mem _ _ hpm)
      have h4 := hg.key p (mdel_mem _ _ hpm)
      simp only [Option.map_some, Option.getD_some] at h2
      by_cases e : (-1 : Int) = p.1
      · rw [if_pos e] at h2; exact absurd h2 h3.1
      · rw [if_neg e] at h2; exact ⟨by omega, by rw [← h2]; exact h3.1⟩
    · rintro ⟨h1, h2⟩
      have h3 := hat c
      rw [if_neg (by omega)] at h3
      cases hm : mget c (mdel (-1) g) with
      | none => rw [rowsAt, hm] at h3; exact absurd h3.symm h2
      | some r => exact List.mem_map.2 ⟨(c, r), mget_mem hm, rfl⟩
  have hys : ys = ((List.range 64).map fun c : Nat => (c : Int)).filter (fun c => !(rowOf b.vars b.cols c).isEmpty) := by
    have hrn : ((List.range 64).map fun c : Nat => (c : Int)).Nodup := by
      rw [List.nodup_iff_pairwise_ne, List.pairwise_map]
      exact List.nodup_range.imp (fun h e => h (by omega))
    have hrs : ((List.range 64).map fun c : Nat => (c : Int)).Pairwise (· ≤ ·) := by
      rw [List.pairwise_map]; exact List.pairwise_lt_range.imp (fun h => by omega)
    refine sorted_eq ((List.perm_ext_iff_of_nodup hnd (hrn.filter _)).2 fun c => ?_) hs (hrs.filter _)
    rw [hmem, List.mem_filter, List.mem_map]
    constructor
    · rintro ⟨h1, h2⟩; exact ⟨⟨c.toNat, by simp; omega, by omega⟩, by simpa using h2⟩
    · rintro ⟨⟨n, hn, rfl⟩, h2⟩; simp at hn; exact ⟨by omega, by simpa using h2⟩
  have hxs : ys.map (fun c => (rowR (mdel (-1) g) c).xs) = ys.map (rowOf b.vars b.cols) := List.map_congr_left fun c hc => by
    rw [rowR_xs, hat, if_neg (by have := (hmem c).1 hc; omega)]
  rw [hxs, hys, apartL, if_pos hr, List.filter_map, List.map_map, List.filter_map]
  rfl
theorem Apart_spec (w : World) (N : Nat → Prop) (b : BrD) (ho : Owns w [] N) (hk : KR w N b) (hok : b.ok) : Ret Tryz.prog 19 [.agg (encBr b).toArray] w N (ApartPost b) := by
  refine ret_of_J cx Tryz.func19 rfl (Nat.le_of_ble_eq_true rfl) ho ?_
  refine s_seq ?_
  refine s_region ?_
  first | (refine s_box1 rfl rfl rfl (fun b1 => ?_)) | (refine s_boxA rfl rfl (fun b1 => ?_))
  change J _ _ _ (cb b1 43 (encBr b) :: _) _
  refine s_q (y_assign rfl) rfl ?_
  refine s_done ?_
  refine s_seq ?_
  refine s_seq ?_
  refine s_region ?_
  refine s_q (by (first | exact y_ldN rfl rfl rfl (by rfl) | exact y_ld rfl rfl rfl (by rfl) | exact y_ldN rfl rfl rfl (by rfl) | exact y_ldK rfl rfl rfl rfl (by assumption) (by omega) | exact y_ldI rfl rfl rfl rfl (by assumption) (by omega) (by omega))) rfl ?_
  refine s_call (pre := []) (rem := _) rfl rfl tk (fun w N ho hl => Right_spec w N b ho (hk.of hl) hok) rfl ?_
  rintro e L' ⟨rfl, rfl⟩
  try simp only [List.nil_append, List.cons_append, List.append_nil]
  cases hr : rightB b with
  | false =>
    refine s_q (by (first | exact y_notT rfl | exact y_notF rfl | exact y_notp rfl | exact y_notb rfl)) rfl ?_
    refine s_done ?_
    refine s_condT2 rfl (by with_reducible rfl) ?_
    refine s_seq ?_
    refine s_region ?_
    refine s_q (y_assign rfl) rfl ?_
    refine s_done ?_
    have e0 : apartL b = [] := by rw [apartL, hr]; simp
    refine J.emp (B := star (([] : List Row).map Row.hp)) rfl ?_
    refine J.emp (B := Sl 22 1 none 0 0 (([] : List Row).map Row.val)) (Sl.ofNil _ _) ?_
    exact s_return (R := ApartPost b) ⟨none, 0, [], rfl, rfl, e0.symm⟩ (res_tmp Tryz.results19 rfl)
  | true =>
  have hvl := right_vars hr
  have hr2 := hr
  simp only [rightB, Bool.and_eq_true, decide_eq_true_eq, List.all_eq_true, inB] at hr2
  obtain ⟨h1, h2, h3, h4, h5⟩ := hr2
  refine s_q (by (first | exact y_notT rfl | exact y_notF rfl | exact y_notp rfl | exact y_notb rfl)) rfl ?_
  refine s_done ?_
  refine s_condF2 rfl (by with_reducible rfl) ?_
  refine s_skip ?_
  refine s_seq ?_
  refine s_region ?_
  refine s_makeMap ki rfl (fun mb => ?_)
  refine s_alloc rfl rfl (fun b3 => ?_)
  first | (refine s_storeC rfl rfl rfl rfl (by rfl) ?_) | (refine s_store rfl rfl rfl rfl (by rfl) ?_)
  change J _ _ _ (cb b3 92 [.map (some mb)] :: Mp ki mb [] :: _) _
  refine s_done ?_
  refine s_seq ?_
  refine s_seq ?_
  refine s_region ?_
  refine s_q (by (first | exact y_ldN rfl rfl rfl (by rfl) | exact y_ld rfl rfl rfl (by rfl) | exact y_ldN rfl rfl rfl (by rfl) | exact y_ldK rfl rfl rfl rfl (by assumption) (by omega) | exact y_ldI rfl rfl rfl rfl (by assumption) (by omega) (by omega))) rfl ?_
  refine s_call (pre := []) (rem := _) rfl rfl tk (fun w N ho hl => each_spec w N b ho) rfl ?_
  rintro e L' ⟨p, rfl, rfl⟩
  try simp only [List.nil_append, List.cons_append, List.append_nil]
  refine s_done ?_
  refine s_block ?_
  refine J.emp (B := Rows.hp []) rfl ?_
  refine J.puI (p := ApInv b 0 []) ⟨fun c => rfl, fun p hp => absurd hp List.not_mem_nil, fun p hp => absurd hp List.not_mem_nil, Nat.le_refl _⟩ ?_
  refine J.perm (Tk.perm (K := [Go.E.pu (ApInv b 0 []), cb b3 92 [.map (some mb)], Mp ki mb [], Rows.hp []])) ?_
  refine J.group.1 ?_
  refine J.exI (f := fun g : Rows => star [Go.E.pu (ApInv b 0 g), cb b3 92 [.map (some mb)], Mp ki mb (Rows.vals g), Rows.hp g]) [] ?_
  change J _ _ _ (apLI b b3 mb 0 :: _) _
  refine s_rangeG (τ := Empty) (α := Unit) (ps := [14, 15]) (rem := _) rfl rfl rfl (fun k : Nat => [apLI b b3 mb k]) (fun e => nomatch e) (fun k _ => [.int .i64 (b.vars.getD k 0), .int .i64 (b.cols.getD k 0)]) (fun k _ => k + 1) (fun k _ => k < b.vars.length) (fun k => k = b.vars.length) 0 (List.Perm.refl _) (fun _ _ => rfl) rfl ?_ ?_ ?_ ?_
  · intro l R w0 N0 ho hl hy
    exact each1_spec w0 N0 l R _ _ p b (KC.ofCb hl (by repeat (first | exact List.mem_cons_self | refine List.mem_cons_of_mem _ ?_))) (hk.of hl) h2 (by omega) ho hy
  · intro l R w1 N1 k _ hkl hl
    clear hl
    dsimp only
    have hck := h4 _ (getD_mem 0 (l := b.cols) (k := k) (by omega))
    refine s_seq ?_
    refine s_region ?_
    refine s_q (y_assign rfl) rfl ?_
    refine s_done ?_
    refine s_region ?_
    refine s_q (y_assign rfl) rfl ?_
    refine s_done ?_
    refine s_begin (rem := _) (List.Perm.refl _) ?_
    refine J.swap ?_
    refine J.ex fun g => ?_
    refine J.group.2 ?_
    dsimp only [List.cons_append, List.nil_append]
    refine J.pu fun hg => ?_
    refine J.perm (Tk.perm (K := [Rows.hp g])) ?_
    dsimp only [List.cons_append, List.nil_append]
    refine J.rowsTake (b.cols.getD k 0) k (fun p hp => (hg.ne p hp).2) fun r0 K1 hv0 hr0 hl0 hput => ?_
    unfold Row.hp
    refine s_block ?_
    refine d_start ?_
    refine d_take 0 rfl (by kernel_rfl) (by (first | exact y_ld rfl rfl rfl (by rfl) | exact y_ldN rfl rfl rfl (by rfl) | exact y_ldK rfl rfl rfl rfl (by assumption) (by omega) | exact y_ldI rfl rfl rfl rfl (by assumption) (by omega) (by omega))) rfl ?_
    refine d_take 1 rfl (by kernel_rfl) (by exact y_move rfl) rfl ?_
    refine d_take 2 rfl (by kernel_rfl) (by (first | exact y_ld rfl rfl rfl (by rfl) | exact y_ldN rfl rfl rfl (by rfl) | exact y_ldK rfl rfl rfl rfl (by assumption) (by omega) | exact y_ldI rfl rfl rfl rfl (by assumption) (by omega) (by omega))) rfl ?_
    refine d_take 3 rfl (by kernel_rfl) (by exact y_move rfl) rfl ?_
    refine d_take 4 rfl (by kernel_rfl) (by exact y_lookupV (kk := b.cols.getD k 0) hv0 rfl rfl rfl (kt_int (by kernel_rfl)) rfl rfl (.inr ⟨rfl, rfl⟩)) rfl ?_
    refine d_take 5 rfl (by kernel_rfl) (by exact y_move rfl) rfl ?_
    refine d_effM 6 [5, 4, 3, 2, 1, 0] [false, true, true, true, true, true] rfl (by kernel_rfl) rfl (by kernel_rfl) (fun K hK => ?_)
    refine s_bslice rfl rfl rfl rfl rfl rfl rfl rfl (fun bn => ?_)
    refine s_done ?_
    refine hK _ _ (by refine rm_skip ?_; refine rm_yd rfl (by exact y_lookupV (kk := b.cols.getD k 0) hv0 rfl rfl rfl (kt_int (by kernel_rfl)) rfl rfl (.inr ⟨rfl, rfl⟩)) ?_; refine rm_yd rfl (by exact y_move rfl) ?_; refine rm_yd rfl (by (first | exact y_ld rfl rfl rfl (by rfl) | exact y_ldN rfl rfl rfl (by rfl) | exact y_ldK rfl rfl rfl rfl (by assumption) (by omega) | exact y_ldI rfl rfl rfl rfl (by assumption) (by omega) (by omega))) ?_; refine rm_yd rfl (by exact y_move rfl) ?_; refine rm_yd rfl (by (first | exact y_ld rfl rfl rfl (by rfl) | exact y_ldN rfl rfl rfl (by rfl) | exact y_ldK rfl rfl rfl rfl (by assumption) (by omega) | exact y_ldI rfl rfl rfl rfl (by assumption) (by omega) (by omega))) ?_; exact rm_nil) ?_
    clear hK K
    refine d_effM 7 [4, 3, 2, 1, 0] [false, true, true, true, true] rfl (by kernel_rfl) rfl (by kernel_rfl) (fun K hK => ?_)
    refine s_append rfl rfl rfl rfl rfl rfl rfl rfl rfl (by omega) rfl (fun A1 c1 => ?_)
    refine s_done ?_
    refine hK _ _ (by refine rm_skip ?_; refine rm_yd rfl (by exact y_move rfl) ?_; refine rm_yd rfl (by (first | exact y_ld rfl rfl rfl (by rfl) | exact y_ldN rfl rfl rfl (by rfl) | exact y_ldK rfl rfl rfl rfl (by assumption) (by omega) | exact y_ldI rfl rfl rfl rfl (by assumption) (by omega) (by omega))) ?_; refine rm_yd rfl (by exact y_move rfl) ?_; refine rm_yd rfl (by (first | exact y_ld rfl rfl rfl (by rfl) | exact y_ldN rfl rfl rfl (by rfl) | exact y_ldK rfl rfl rfl rfl (by assumption) (by omega) | exact y_ldI rfl rfl rfl rfl (by assumption) (by omega) (by omega))) ?_; exact rm_nil) ?_
    clear hK K
    refine d_effM 8 [3, 2, 1, 0] [false, false, false, false] rfl (by kernel_rfl) rfl (by kernel_rfl) (fun K hK => ?_)
    refine s_mapUpdate rfl rfl rfl rfl (kt_int (by kernel_rfl)) rfl ?_
    refine s_done ?_
    refine hK _ _ (by refine rm_skip ?_; refine rm_skip ?_; refine rm_skip ?_; refine rm_skip ?_; exact rm_nil) ?_
    clear hK K
    refine d_done (by kernel_rfl) ?_
    refine s_endb ?_
    change J _ _ _ (Mp ki mb (mset (b.cols.getD k 0) (.slice A1 (r0.xs.length + 1) c1) (Rows.vals g)) :: Sl 3 1 A1 (r0.xs.length + 1) c1 (ints r0.xs ++ [.int .i64 (b.vars.getD k 0)]) :: cb bn 3 [.int .i64 (b.vars.getD k 0)] :: K1 :: _) _
    refine rowAdd hput ?_
    have hg2 := hg.step hkl h2 hck (A := A1) (c := c1) hr0 hl0
    obtain ⟨g2, hgg⟩ : ∃ g2 : Rows, mset (b.cols.getD k 0) ⟨A1, c1, r0.xs ++ [b.vars.getD k 0]⟩ g = g2 := ⟨_, rfl⟩
    rw [hgg] at hg2 ⊢
    refine J.puI hg2 ?_
    refine J.perm (Tk.perm (K := [Go.E.pu (ApInv b (k + 1) g2), cb b3 92 [.map (some mb)], Mp ki mb (Rows.vals g2), Rows.hp g2])) ?_
    refine J.group.1 ?_
    refine J.exI (f := fun g : Rows => star [Go.E.pu (ApInv b (k + 1) g), cb b3 92 [.map (some mb)], Mp ki mb (Rows.vals g), Rows.hp g]) _ ?_
    change J _ _ _ (apLI b b3 mb (k + 1) :: _) _
    exact s_roundEndG (by first | exact tk1 | (dsimp only; exact tk1))
  · intro D k' hk'
    subst hk'
    refine J.swap ?_
    refine J.ex fun g => ?_
    refine J.group.2 ?_
    simp only [List.cons_append, List.nil_append, List.append_eq]
    refine J.pu fun hg => ?_
    refine J.swap ?_
    refine J.fact Mp.nodup fun hgn => ?_
    have hgn : (g.map (·.1)).Nodup := by rw [← vals_keys]; exact hgn
    refine s_endb ?_
    refine s_seq ?_
    refine s_region ?_
    refine s_q (by (first | exact y_ld rfl rfl rfl (by rfl) | exact y_ldN rfl rfl rfl (by rfl) | exact y_ldK rfl rfl rfl rfl (by assumption) (by omega) | exact y_ldI rfl rfl rfl rfl (by assumption) (by omega) (by omega))) rfl ?_
    refine s_mapDelete (kk := (-1 : Int)) rfl rfl rfl (kt_int (by kernel_rfl)) rfl ?_
    rw [← vals_mdel]
    refine J.perm (Tk.perm (K := [Rows.hp g])) ?_
    dsimp only [List.cons_append, List.nil_append]
    refine J.swap ?_
    refine J.openMp fun es clock he => ?_
    refine J.swap ?_
    refine hp_mdel (-1) ?_
    refine s_done ?_
    refine s_seq ?_
    refine s_seq ?_
    refine s_region ?_
    refine s_q (by (first | exact y_ld rfl rfl rfl (by rfl) | exact y_ldN rfl rfl rfl (by rfl) | exact y_ldK rfl rfl rfl rfl (by assumption) (by omega) | exact y_ldI rfl rfl rfl rfl (by assumption) (by omega) (by omega))) rfl ?_
    refine s_call (pre := []) (rem := _) rfl rfl tk (fun w N ho hl => KeysR_spec w N mb ho) rfl ?_
    rintro e L' ⟨q, rfl, rfl⟩
    try simp only [List.nil_append, List.cons_append, List.append_nil]
    have hkl : (ksOf (Rows.vals (mdel (-1) g))).length < 1000000 := by
      rw [vals_keys, List.length_map]; have := (mdel_sub (-1) g).length_le; have := hg.len; omega
    refine s_call (pre := []) (rem := _) rfl rfl tk (fun w N ho hl => Sorted_spec w N 68 _ _ _ ho (KeysR_seq w N q mb _ es clock (KC.ofCb hl (by repeat (first | exact List.mem_cons_self | refine List.mem_cons_of_mem _ ?_))) (KM.ofPt hl (by repeat (first | exact List.mem_cons_self | refine List.mem_cons_of_mem _ ?_))) he) rfl (fun d a h => by have := keysDom_len h; omega) (fun d h => by have := List.Perm.length_eq h; omega)) rfl ?_
    rintro e L' ⟨Y, yc, ys, ⟨xs, hx, hys⟩, rfl, rfl⟩
    try simp only [List.nil_append, List.cons_append, List.append_nil]
    obtain ⟨gd, hgd⟩ : ∃ gd : Rows, mdel (-1) g = gd := ⟨_, rfl⟩
    have hdn : (gd.map (·.1)).Nodup := by rw [← hgd]; exact mdel_nodup (-1) g hgn
    have hyp : ys.Perm (gd.map (·.1)) := by rw [hys, ← vals_keys, ← hgd]; exact (sortI_perm xs).trans hx
    have hys2 : ys.Pairwise (· ≤ ·) := by rw [hys]; exact sortI_le xs
    have hfin := apart_xs hr hg h2 hgn (by rw [hgd]; exact hyp) hys2
    have hylen : ys.length < 1000000 := by have := hyp.length_eq; rw [← vals_keys, ← hgd] at this; omega
    rw [hgd] at hfin he ⊢
    clear hys hx
    refine J.perm (Tk.perm (K := [pt mb (.map es clock)])) ?_
    dsimp only [List.cons_append, List.nil_append]
    refine J.shutMp he ?_
    refine J.emp (B := Sl 22 1 none 0 0 (((ys.take 0).map (rowR gd)).map Row.val)) (Sl.ofNil _ _) ?_
    refine s_q (y_lenS rfl rfl rfl) rfl ?_
    refine s_q (y_move rfl) rfl ?_
    refine s_done ?_
    refine s_block ?_
    refine s_loopV (σ := Nat × Option Addr × Nat) (fun s => [(29, .int .i64 s.1), (2, .slice s.2.1 s.1 s.2.2)]) (fun s => [Sl 22 1 s.2.1 s.1 s.2.2 (((ys.take s.1).map (rowR gd)).map Row.val)]) (fun s => (s.1 ≤ ys.length)) (fun s => ys.length - s.1) (0, none, 0) [(3, _), (27, _), (28, _)] ⟨rfl, rfl, rfl, trivial⟩ ⟨rfl, rfl, trivial⟩ tk (Nat.zero_le _) ?_
    rintro ⟨i, G, gg⟩ hi
    try dsimp only [List.cons_append, List.nil_append, List.append_nil] at hi ⊢
    refine s_seq ?_
    refine s_region ?_
    refine s_q (y_lss rfl rfl) rfl ?_
    refine s_done ?_
    refine s_seq ?_
    refine s_cond rfl (fun h => ?_) (fun h => ?_)
    · have hil : i < ys.length := by omega
      refine s_skip ?_
      refine s_seq ?_
      refine s_block ?_
      refine s_seq ?_
      refine s_region ?_
      refine s_q (by (first | exact y_ixO rfl rfl rfl rfl rfl (by omega) (by omega) (by omega) | exact y_ixI rfl rfl rfl rfl rfl (by assumption) rfl (by omega) (by omega))) rfl ?_
      refine s_q (by (first | exact y_ldOi rfl rfl rfl rfl (by omega) | exact y_ld rfl rfl rfl (by rfl) | exact y_ldN rfl rfl rfl (by rfl) | exact y_ldK rfl rfl rfl rfl (by assumption) (by omega) | exact y_ldI rfl rfl rfl rfl (by assumption) (by omega) (by omega))) rfl ?_
      refine s_q (y_assign rfl) rfl ?_
      refine s_done ?_
      refine s_region ?_
      refine s_q (y_move rfl) rfl ?_
      refine s_q (by (first | exact y_ldOi rfl rfl rfl rfl (by omega) | exact y_ld rfl rfl rfl (by rfl) | exact y_ldN rfl rfl rfl (by rfl) | exact y_ldK rfl rfl rfl rfl (by assumption) (by omega) | exact y_ldI rfl rfl rfl rfl (by assumption) (by omega) (by omega))) rfl ?_
      refine s_q (y_move rfl) rfl ?_
      refine s_q (y_lookupV (kk := ys.getD i 0) (rowR_val gd _) rfl rfl rfl (kt_int (by kernel_rfl)) rfl rfl (.inr ⟨rfl, rfl⟩)) rfl ?_
      refine s_bslice rfl rfl rfl rfl rfl rfl rfl rfl (fun bn => ?_)
      refine s_append rfl rfl rfl rfl rfl rfl rfl rfl rfl (by omega) rfl (fun G' g' => ?_)
      change J _ _ _ (Sl 22 1 G' (i + 1) g' (((ys.take i).map (rowR gd)).map Row.val ++ [(rowR gd (ys.getD i 0)).val]) :: _) _
      rw [show ((ys.take i).map (rowR gd)).map Row.val ++ [(rowR gd (ys.getD i 0)).val] = ((ys.take (i + 1)).map (rowR gd)).map Row.val by rw [take_D 0 hil]; simp]
      refine s_q (y_assign rfl) rfl ?_
      refine s_done ?_
      refine s_endb ?_
      refine s_region ?_
      refine s_q (y_add rfl rfl (by omega)) rfl ?_
      refine s_q (y_move rfl) rfl ?_
      refine s_done ?_
      refine s_inv (i + 1, G', g') (by (try dsimp only); omega) (by (try dsimp only); omega) ⟨rfl, rfl, rfl, rfl, rfl, trivial⟩ tk
    · have hil : i = ys.length := by omega
      subst hil
      rw [List.take_length]
      have e1 : (ys.map (rowR gd)).length = ys.length := List.length_map _
      refine J.perm (Tk.perm (K := [Rows.hp gd])) ?_
      dsimp only [List.cons_append, List.nil_append]
      refine J.imp (B := star ((ys.map (rowR gd)).map Row.hp)) (fun h e => star_perm ?_ h e) ?_
      · have := (rows_perm hdn hyp).symm.map Row.hp
        rw [List.map_map] at this
        exact this
      refine s_exit rfl ?_
      refine s_seq ?_
      refine s_region ?_
      refine s_q (y_move rfl) rfl ?_
      refine s_q (y_assign rfl) rfl ?_
      refine s_done ?_
      rw [← e1]
      exact s_return1 (R := ApartPost b) ⟨G, gg, ys.map (rowR gd), rfl, rfl, by rw [List.map_map]; exact hfin⟩ (res_tmp Tryz.results19 rfl)
  · intro D t; exact nomatch t
theorem Used_spec (w : World) (N : Nat → Prop) (b : BrD) (ho : Owns w [] N) (hk : KR w N b) (hok : b.ok) : Ret Tryz.prog 22 [.agg (encBr b).toArray] w N fun v L => v = .int .i64 (apartL b).length ∧ L = [] := by
  refine ret_of_J cx Tryz.func22 rfl (Nat.le_of_ble_eq_true rfl) ho ?_
  refine s_seq ?_
  refine s_region ?_
  first | (refine s_box1 rfl rfl rfl (fun b1 => ?_)) | (refine s_boxA rfl rfl (fun b1 => ?_))
  change J _ _ _ (cb b1 43 (encBr b) :: _) _
  refine s_q (y_assign rfl) rfl ?_
  refine s_done ?_
  refine s_seq ?_
  refine s_region ?_
  refine s_q (by (first | exact y_ldN rfl rfl rfl (by rfl) | exact y_ld rfl rfl rfl (by rfl) | exact y_ldN rfl rfl rfl (by rfl) | exact y_ldK rfl rfl rfl rfl (by assumption) (by omega) | exact y_ldI rfl rfl rfl rfl (by assumption) (by omega) (by omega))) rfl ?_
  refine s_call (pre := []) (rem := _) rfl rfl tk (fun w N ho hl => Apart_spec w N b ho (hk.of hl) hok) rfl ?_
  rintro e L' ⟨G, g, rs, rfl, rfl, hrs⟩
  try simp only [List.nil_append, List.cons_append, List.append_nil]
  refine s_q (y_lenS rfl rfl rfl) rfl ?_
  refine s_q (y_assign rfl) rfl ?_
  refine s_done ?_
  exact s_return ⟨by rw [← hrs, List.length_map], rfl⟩ (res_tmp Tryz.results22 rfl)
end Go.Proofs.YtdbnlgknalencaaGreat
