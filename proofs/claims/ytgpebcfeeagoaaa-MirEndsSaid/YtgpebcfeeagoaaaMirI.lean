/- Layer 6 (mir): copies of targets whose instructions have no rows of arguments. -/
import Derived.Test.YtgpebcfeeagoaaaMirH
import Derived.Test.YtgpebcfeeagoaaaEEc
import Derived.Test.YtgpebcfeeagoaaaEEb
set_option linter.unusedVariables false
set_option linter.unusedSimpArgs false
namespace Go.Proofs.Ytgpebcfeeagoaaa
open Go Go.E
set_option maxRecDepth 4000
set_option maxHeartbeats 1000000
def InsD.core (i : InsD) : InsD := { i with A := none, c := 0 }
theorem insE_core (r : Int) (n : Nat) (f : Int) (i : InsD) : insE r n f i.core = insE r n f i := rfl
def Alike (l l' : List InsD) : Prop := l.map InsD.core = l'.map InsD.core
theorem Alike.len {l l' : List InsD} (h : Alike l l') : l.length = l'.length := by simpa using congrArg List.length h
theorem Alike.insE {l l' : List InsD} (h : Alike l l') (r : Int) (n : Nat) (f : Int) : l.map (insE r n f) = l'.map (insE r n f) := by
  have := congrArg (List.map (Go.Proofs.Ytgpebcfeeagoaaa.insE r n f)) h
  simpa [List.map_map, Function.comp_def, insE_core] using this
theorem Alike.mem {l l' : List InsD} (h : Alike l l') {i : InsD} (hi : i ∈ l) : ∃ j ∈ l', i.core = j.core := by
  have : i.core ∈ l'.map InsD.core := by rw [← h]; exact List.mem_map_of_mem hi
  obtain ⟨j, hj, e⟩ := List.mem_map.1 this
  exact ⟨j, hj, e.symm⟩
theorem core_xs {i j : InsD} (h : i.core = j.core) : i.xs = j.xs ∧ (j.ok → i.ok) := by
  obtain ⟨h1, h2, h3, h4, h5, h6, h7, h8⟩ : i.op = j.op ∧ i.dst = j.dst ∧ i.a = j.a ∧ i.b = j.b ∧ i.imm = j.imm ∧ i.callee = j.callee ∧ i.xs = j.xs ∧ i.many = j.many := by
    cases i; cases j; simp [InsD.core] at h; simp [h]
  exact ⟨h7, fun hj => ⟨h5 ▸ hj.imm, h6 ▸ hj.callee, h8 ▸ hj.many⟩⟩
theorem takeS' {xs : List InsD} {k : Nat} (h : k < xs.length) : xs.take (k + 1) = xs.take k ++ [xs.getD k .no] := by
  rw [List.take_add_one, List.getElem?_eq_getElem h, List.getD_eq_getElem?_getD, List.getElem?_eq_getElem h]; rfl
theorem CopyInts_spec (w : World) (N : Nat → Prop) (A : Option Addr) (c : Nat) (xs : List Int) (ho : Owns w [] N) (hk : KI w N A xs) (hlen : xs.length < 1000000000) :
    Ret Try.prog 83 [.slice A xs.length c] w N fun v L => ∃ G g, v = .slice G xs.length g ∧ L = [Sl 3 1 G xs.length g (ints xs)] := by
  refine ret_of_J cx Try.func83 rfl (Nat.le_of_ble_eq_true rfl) ho ?_
  refine s_seq ?_
  refine s_region ?_
  refine s_q (y_assign rfl) rfl ?_
  refine s_done ?_
  refine s_seq ?_
  refine s_region ?_
  refine s_q (y_assign rfl) rfl ?_
  refine s_done ?_
  refine s_seq ?_
  refine s_region ?_
  refine s_q (y_move rfl) rfl ?_
  refine s_q (y_move rfl) rfl ?_
  refine J.emp (B := Sl 3 1 none 0 0 []) (Sl.ofNil _ _) ?_
  refine s_appendI rfl rfl hk rfl rfl rfl rfl rfl (by omega) rfl (fun G g => ?_)
  rw [Nat.zero_add, List.nil_append]
  refine s_q (y_assign rfl) rfl ?_
  refine s_done ?_
  exact s_return (R := fun v L => ∃ G g, v = .slice G xs.length g ∧ L = [Sl 3 1 G xs.length g (ints xs)]) ⟨G, g, rfl, rfl⟩ (res_tmp Try.results83 rfl)
theorem CopyIns_spec (w : World) (N : Nat → Prop) (i : InsD) (ho : Owns w [] N) (hx : i.xs = []) :
    Ret Try.prog 78 [.agg (encIns i).toArray] w N fun v L => ∃ i' : InsD, i'.core = i.core ∧ v = .agg (encIns i').toArray ∧ L = [] := by
  obtain ⟨op, dst, a, b, imm, callee, A, c, xs, many⟩ := i
  dsimp only at hx
  subst hx
  refine ret_of_J cx Try.func78 rfl (Nat.le_of_ble_eq_true rfl) ho ?_
  refine s_seq ?_
  refine s_region ?_
  first | (refine s_box1 rfl rfl rfl (fun b1 => ?_)) | (refine s_boxA rfl rfl (fun b1 => ?_))
  change J _ _ _ (cb b1 30 (encIns ⟨op, dst, a, b, imm, callee, A, c, [], many⟩) :: _) _
  unfold encIns
  refine s_alloc rfl rfl (fun b2 => ?_)
  refine s_done ?_
  refine s_seq ?_
  refine s_region ?_
  refine s_q (by (first | exact y_fieldAddrB rfl rfl rfl rfl rfl rfl | exact y_fieldAddr rfl rfl rfl rfl rfl rfl)) rfl ?_
  refine s_q (by (first | exact y_ld rfl rfl rfl (by rfl) | exact y_ldN rfl rfl rfl (by rfl) | exact y_ldK rfl rfl rfl rfl (by assumption) (by omega) | exact y_ldI rfl rfl rfl rfl (by assumption) (by omega) (by omega))) rfl ?_
  refine s_call (pre := []) (rem := _) rfl rfl tk (fun w N ho hl => CopyInts_spec w N A c [] ho (fun w hw i hi => absurd hi (Nat.not_lt_zero i)) (by simp)) rfl ?_
  rintro e L' ⟨G, g, rfl, rfl⟩
  try simp only [List.nil_append, List.cons_append, List.append_nil]
  refine s_q (by (first | exact y_fieldAddrB rfl rfl rfl rfl rfl rfl | exact y_fieldAddr rfl rfl rfl rfl rfl rfl)) rfl ?_
  first | (refine s_storeC rfl rfl rfl rfl (by rfl) ?_) | (refine s_store rfl rfl rfl rfl (by rfl) ?_)
  refine s_done ?_
  refine s_seq ?_
  refine s_region ?_
  refine s_q (by (first | exact y_ldN rfl rfl rfl (by rfl) | exact y_ld rfl rfl rfl (by rfl) | exact y_ldN rfl rfl rfl (by rfl) | exact y_ldK rfl rfl rfl rfl (by assumption) (by omega) | exact y_ldI rfl rfl rfl rfl (by assumption) (by omega) (by omega))) rfl ?_
  first | (refine s_storeW rfl rfl rfl rfl rfl (by rfl) ?_) | (refine s_storeN rfl rfl rfl rfl rfl (by rfl) ?_)
  refine s_done ?_
  exact s_return (R := fun v L => ∃ i' : InsD, i'.core = _ ∧ v = .agg (encIns i').toArray ∧ L = []) ⟨⟨op, dst, a, b, imm, callee, G, g, [], many⟩, rfl, rfl, rfl⟩ (res_cellN Try.results78 rfl rfl rfl rfl)
def RowPost (ins : List InsD) (v : Value) (L : List HP) : Prop := ∃ (G : Option Addr) (g : Nat) (l : List InsD), Alike l ins ∧ v = .slice G l.length g ∧ L = [Sl 30 8 G l.length g (l.flatMap encIns)]
theorem CopyRow_spec (w : World) (N : Nat → Prop) (A : Option Addr) (c : Nat) (ins : List InsD) (ho : Owns w [] N) (hk : KE 8 encIns .no w N A ins) (hx : ∀ i ∈ ins, i.xs = []) (hlen : ins.length < 1000000) :
    Ret Try.prog 73 [.slice A ins.length c] w N (RowPost ins) := by
  refine ret_of_J cx Try.func73 rfl (Nat.le_of_ble_eq_true rfl) ho ?_
  refine s_seq ?_
  refine s_region ?_
  refine s_q (y_assign rfl) rfl ?_
  refine s_done ?_
  refine s_seq ?_
  refine s_region ?_
  refine s_q (y_assign rfl) rfl ?_
  refine s_done ?_
  refine s_seq ?_
  refine s_seq ?_
  refine s_region ?_
  refine s_q (y_assign rfl) rfl ?_
  refine s_done ?_
  refine s_block ?_
  refine J.emp (B := Sl 30 8 none 0 0 (([] : List InsD).flatMap encIns)) (Sl.ofNil _ _) ?_
  refine s_loopV (σ := Nat × Option Addr × Nat × List InsD) (fun s => [(4, .int .i64 s.1), (3, .slice s.2.1 s.1 s.2.2.1)]) (fun s => [Sl 30 8 s.2.1 s.1 s.2.2.1 (s.2.2.2.flatMap encIns)]) (fun s => (s.1 ≤ ins.length) ∧ (s.2.2.2.length = s.1) ∧ (Alike s.2.2.2 (ins.take s.1))) (fun s => ins.length - s.1) (0, none, 0, []) [(0, _)] ⟨rfl, trivial⟩ ⟨rfl, rfl, trivial⟩ tk ⟨Nat.zero_le _, rfl, rfl⟩ ?_
  rintro ⟨k, G, g, l⟩ ⟨hk2, hl, hal⟩
  try dsimp only [List.cons_append, List.nil_append, List.append_nil] at hk2 hl hal ⊢
  refine s_seq ?_
  refine s_seq ?_
  refine s_region ?_
  refine s_q (y_move rfl) rfl ?_
  refine s_q (y_move rfl) rfl ?_
  refine s_q (y_lenS rfl rfl rfl) rfl ?_
  refine s_q (y_lss rfl rfl) rfl ?_
  refine s_done ?_
  refine s_cond rfl (fun h => ?_) (fun h => ?_)
  · have hkl : k < ins.length := by omega
    refine s_skip ?_
    refine s_seq ?_
    refine s_block ?_
    refine s_seq ?_
    refine s_region ?_
    refine s_q (y_move rfl) rfl ?_
    refine s_q (y_move rfl) rfl ?_
    refine s_q (by (first | exact y_ixE hk rfl rfl rfl rfl rfl rfl (by omega) (by omega) | exact y_ixI rfl rfl rfl rfl rfl (by assumption) rfl (by omega) (by omega))) rfl ?_
    refine s_q (by (first | exact y_ldE hk rfl rfl rfl (by omega) rfl | exact y_ld rfl rfl rfl (by rfl) | exact y_ldN rfl rfl rfl (by rfl) | exact y_ldK rfl rfl rfl rfl (by assumption) (by omega) | exact y_ldI rfl rfl rfl rfl (by assumption) (by omega) (by omega))) rfl ?_
    refine s_call (pre := []) (rem := _) rfl rfl tk (fun w N ho hl => CopyIns_spec w N _ ho (hx _ (getD_mem .no hkl))) rfl ?_
    rintro e L' ⟨i', hi', rfl, rfl⟩
    try simp only [List.nil_append, List.cons_append, List.append_nil]
    refine s_alloc rfl rfl (fun b => ?_)
    first | (refine s_storeW rfl rfl rfl rfl rfl (by rfl) ?_) | (refine s_storeN rfl rfl rfl rfl rfl (by rfl) ?_)
    change J _ _ _ (cb b 30 (encIns i') :: _) _
    unfold encIns
    refine s_done ?_
    refine s_region ?_
    refine s_q (y_move rfl) rfl ?_
    refine s_q (by (first | exact y_ldN rfl rfl rfl (by rfl) | exact y_ld rfl rfl rfl (by rfl) | exact y_ldN rfl rfl rfl (by rfl) | exact y_ldK rfl rfl rfl rfl (by assumption) (by omega) | exact y_ldI rfl rfl rfl rfl (by assumption) (by omega) (by omega))) rfl ?_
    refine s_bslice rfl rfl rfl rfl rfl rfl rfl rfl (fun nb => ?_)
    refine s_append rfl rfl rfl rfl rfl rfl rfl rfl rfl (by omega) rfl (fun G' g' => ?_)
    change J _ _ _ (Sl 30 8 G' (k + 1) g' (l.flatMap encIns ++ encIns i') :: _) _
    rw [show l.flatMap encIns ++ encIns i' = (l ++ [i']).flatMap encIns by simp]
    refine s_q (y_assign rfl) rfl ?_
    refine s_done ?_
    refine s_endb ?_
    refine s_region ?_
    refine s_q (y_move rfl) rfl ?_
    refine s_q (y_add rfl rfl (by omega)) rfl ?_
    refine s_q (y_assign rfl) rfl ?_
    refine s_done ?_
    refine s_inv (k + 1, G', g', l ++ [i']) ⟨(by (try dsimp only); omega), by simp [hl], ?_⟩ (by (try dsimp only); omega) ⟨rfl, rfl, rfl, trivial⟩ tk
    dsimp only
    rw [Alike, takeS' hkl, List.map_append, List.map_append, hal, List.map_cons, List.map_cons, hi']
  · have hkl : k = ins.length := by omega
    subst hkl
    rw [List.take_length] at hal
    refine s_exit rfl ?_
    refine s_seq ?_
    refine s_region ?_
    refine s_q (y_move rfl) rfl ?_
    refine s_q (y_assign rfl) rfl ?_
    refine s_done ?_
    exact s_return (R := RowPost ins) ⟨G, g, l, hal, by rw [hl], by rw [hl]⟩ (res_tmp Try.results73 rfl)
end Go.Proofs.Ytgpebcfeeagoaaa
