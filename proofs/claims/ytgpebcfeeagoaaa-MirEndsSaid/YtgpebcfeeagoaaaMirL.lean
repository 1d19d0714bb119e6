/- Layer 6 (mir): what an instruction reads and writes, what an end needs, how long a target is. -/
import Derived.Test.YtgpebcfeeagoaaaMirH
import Derived.Test.YtgpebcfeeagoaaaEEc
import Derived.Test.YtgpebcfeeagoaaaEEb
set_option linter.unusedVariables false
set_option linter.unusedSimpArgs false
namespace Go.Proofs.Ytgpebcfeeagoaaa
open Go Go.E
set_option maxRecDepth 4000
set_option maxHeartbeats 1000000
abbrev LocD := Bool × Int
abbrev encLoc (l : LocD) : List Value := [.bool l.1, .int .i64 l.2]
def regsL (xs : List Int) : List LocD := xs.map fun r => (false, r)
theorem regsL_snoc {xs : List Int} {k : Nat} (h : k < xs.length) : regsL (xs.take (k + 1)) = regsL (xs.take k) ++ [(false, xs.getD k 0)] := by
  rw [regsL, regsL, takeS h, List.map_append]; rfl
def readsL (args : List Int) (i : InsD) : List LocD :=
  if hasP i.op &&& 32 ≠ 0 then regsL (args.take (max (min i.many args.length) 0).toNat)
  else if hasP i.op &&& 4 ≠ 0 then regsL [i.a, i.b]
  else if hasP i.op &&& 2 ≠ 0 then regsL [i.a]
  else if hasP i.op &&& 16 ≠ 0 then [(true, i.imm)]
  else []
def writesL (ret : Int) (i : InsD) : List LocD :=
  if hasP i.op &&& 32 ≠ 0 then regsL [ret]
  else if hasP i.op &&& 1 ≠ 0 then regsL [i.dst]
  else if hasP i.op &&& 16 ≠ 0 then [(true, i.imm)]
  else []
def needsL (kind a : Int) : List LocD := if (kind = 3 ∧ a ≠ -1) ∨ kind = 2 then regsL [a] else []
def LocRow (l : List LocD) (v : Value) (L : List HP) : Prop := ∃ G g, v = .slice G l.length g ∧ L = [Sl 60 2 G l.length g (l.flatMap encLoc)]
theorem places_spec (w : World) (N : Nat → Prop) (A : Option Addr) (n c : Nat) (xs : List Int) (hn : n = xs.length) (ho : Owns w [] N) (hk : KI w N A xs) (hlen : xs.length < 1000000000) :
    Ret Try.prog 49 [.slice A n c] w N (LocRow (regsL xs)) := by
  subst hn
  refine ret_of_J cx Try.func49 rfl (Nat.le_of_ble_eq_true rfl) ho ?_
  refine s_seq ?_
  refine s_region ?_
  refine s_q (y_assign rfl) rfl ?_
  refine s_done ?_
  refine s_seq ?_
  refine s_seq ?_
  refine s_region ?_
  refine s_q (y_move rfl) rfl ?_
  refine s_q (y_lenS rfl rfl rfl) rfl ?_
  refine s_q (y_move rfl) rfl ?_
  refine s_done ?_
  refine s_block ?_
  refine J.emp (B := Sl 60 2 none 0 0 ((regsL (xs.take 0)).flatMap encLoc)) (Sl.ofNil _ _) ?_
  refine s_loopV (σ := Nat × Option Addr × Nat) (fun s => [(7, .int .i64 s.1), (2, .slice s.2.1 s.1 s.2.2)]) (fun s => [Sl 60 2 s.2.1 s.1 s.2.2 ((regsL (xs.take s.1)).flatMap encLoc)]) (fun s => (s.1 ≤ xs.length)) (fun s => xs.length - s.1) (0, none, 0) [(5, _), (6, _)] ⟨rfl, rfl, trivial⟩ ⟨rfl, rfl, trivial⟩ tk (Nat.zero_le _) ?_
  rintro ⟨k, G, g⟩ hk2
  try dsimp only [List.cons_append, List.nil_append, List.append_nil] at hk2 ⊢
  refine s_seq ?_
  refine s_region ?_
  refine s_q (y_lss rfl rfl) rfl ?_
  refine s_done ?_
  refine s_seq ?_
  refine s_cond rfl (fun h => ?_) (fun h => ?_)
  · have hkl : k < xs.length := by omega
    refine s_skip ?_
    refine s_seq ?_
    refine s_block ?_
    refine s_seq ?_
    refine s_region ?_
    refine s_q (by (first | exact y_ixI rfl rfl rfl rfl rfl hk rfl (by omega) (by omega) | exact y_ixI rfl rfl rfl rfl rfl (by assumption) rfl (by omega) (by omega))) rfl ?_
    refine s_q (by (first | exact y_ldK rfl rfl rfl rfl hk (by omega) | exact y_ld rfl rfl rfl (by rfl) | exact y_ldN rfl rfl rfl (by rfl) | exact y_ldK rfl rfl rfl rfl (by assumption) (by omega) | exact y_ldI rfl rfl rfl rfl (by assumption) (by omega) (by omega))) rfl ?_
    refine s_q (y_assign rfl) rfl ?_
    refine s_done ?_
    refine s_region ?_
    refine s_q (y_move rfl) rfl ?_
    refine s_q (y_move rfl) rfl ?_
    refine s_q (y_build rfl rfl rfl rfl) rfl ?_
    refine s_bslice rfl rfl rfl rfl rfl rfl rfl rfl (fun nb => ?_)
    refine s_append rfl rfl rfl rfl rfl rfl rfl rfl rfl (by omega) rfl (fun G' g' => ?_)
    change J _ _ _ (Sl 60 2 G' (k + 1) g' ((regsL (xs.take k)).flatMap encLoc ++ encLoc (false, xs.getD k 0)) :: _) _
    rw [show (regsL (xs.take k)).flatMap encLoc ++ encLoc (false, xs.getD k 0) = (regsL (xs.take (k + 1))).flatMap encLoc by rw [regsL_snoc hkl]; simp]
    refine s_q (y_assign rfl) rfl ?_
    refine s_done ?_
    refine s_endb ?_
    refine s_region ?_
    refine s_q (y_add rfl rfl (by omega)) rfl ?_
    refine s_q (y_move rfl) rfl ?_
    refine s_done ?_
    refine s_inv (k + 1, G', g') (by (try dsimp only); omega) (by (try dsimp only); omega) ⟨rfl, rfl, rfl, rfl, trivial⟩ tk
  · have hkl : k = xs.length := by omega
    subst hkl
    rw [List.take_length]
    refine s_exit rfl ?_
    refine s_seq ?_
    refine s_region ?_
    refine s_q (y_move rfl) rfl ?_
    refine s_q (y_assign rfl) rfl ?_
    refine s_done ?_
    exact s_return (R := LocRow (regsL xs)) ⟨G, g, by rw [regsL, List.length_map], by rw [show (regsL xs).length = xs.length from List.length_map _]⟩ (res_tmp Try.results49 rfl)
theorem Reads_spec (w : World) (N : Nat → Prop) (m : MV) (A B : Option Addr) (c d : Nat) (i : InsD) (ho : Owns w [] N) (ha : KI w N A m.args) (hla : m.args.length < 1000000000) (hc : m.args.length ≤ c) :
    Ret Try.prog 22 [.agg (mval m A c B d).toArray, .agg (encIns i).toArray] w N (LocRow (readsL m.args i)) := by
  refine ret_of_J cx Try.func22 rfl (Nat.le_of_ble_eq_true rfl) ho ?_
  refine s_seq ?_
  refine s_region ?_
  first | (refine s_box1 rfl rfl rfl (fun b1 => ?_)) | (refine s_boxA rfl rfl (fun b1 => ?_))
  change J _ _ _ (cb b1 24 (mval m A c B d) :: _) _
  first | (refine s_box1 rfl rfl rfl (fun b2 => ?_)) | (refine s_boxA rfl rfl (fun b2 => ?_))
  change J _ _ _ (cb b2 30 (encIns i) :: _) _
  refine s_q (y_assign rfl) rfl ?_
  refine s_done ?_
  refine s_seq ?_
  refine s_seq ?_
  refine s_region ?_
  refine s_q (by (first | exact y_fieldAddrB rfl rfl rfl rfl rfl rfl | exact y_fieldAddr rfl rfl rfl rfl rfl rfl)) rfl ?_
  refine s_q (by (first | exact y_ld rfl rfl rfl (by rfl) | exact y_ldN rfl rfl rfl (by rfl) | exact y_ldK rfl rfl rfl rfl (by assumption) (by omega) | exact y_ldI rfl rfl rfl rfl (by assumption) (by omega) (by omega))) rfl ?_
  refine s_call (pre := []) (rem := _) rfl rfl tk (fun w N ho hl => has_spec w N i.op ho) rfl ?_
  rintro e L' ⟨rfl, rfl⟩
  try simp only [List.nil_append, List.cons_append, List.append_nil]
  refine s_q (y_assign rfl) rfl ?_
  refine s_done ?_
  refine s_block ?_
  refine s_seq ?_
  refine s_region ?_
  refine s_q (y_move rfl) rfl ?_
  refine s_call (pre := []) (rem := _) rfl rfl tk (fun w N ho hl => with_spec w N (hasP i.op) 32 (hasP_lt _) (by decide) ho) rfl ?_
  rintro e L' ⟨rfl, rfl⟩
  try simp only [List.nil_append, List.cons_append, List.append_nil]
  refine s_q (y_assign rfl) rfl ?_
  refine s_done ?_
  unfold readsL
  refine s_cond rfl (fun h1 => ?_) (fun h1 => ?_)
  · rw [if_pos h1]
    refine s_seq ?_
    refine s_region ?_
    refine s_q (by (first | exact y_fieldAddrB rfl rfl rfl rfl rfl rfl | exact y_fieldAddr rfl rfl rfl rfl rfl rfl)) rfl ?_
    refine s_q (by (first | exact y_ld rfl rfl rfl (by rfl) | exact y_ldN rfl rfl rfl (by rfl) | exact y_ldK rfl rfl rfl rfl (by assumption) (by omega) | exact y_ldI rfl rfl rfl rfl (by assumption) (by omega) (by omega))) rfl ?_
    refine s_q (by (first | exact y_fieldAddrB rfl rfl rfl rfl rfl rfl | exact y_fieldAddr rfl rfl rfl rfl rfl rfl)) rfl ?_
    refine s_q (by (first | exact y_ld rfl rfl rfl (by rfl) | exact y_ldN rfl rfl rfl (by rfl) | exact y_ldK rfl rfl rfl rfl (by assumption) (by omega) | exact y_ldI rfl rfl rfl rfl (by assumption) (by omega) (by omega))) rfl ?_
    refine s_q (by (first | exact y_fieldAddrB rfl rfl rfl rfl rfl rfl | exact y_fieldAddr rfl rfl rfl rfl rfl rfl)) rfl ?_
    refine s_q (by (first | exact y_ld rfl rfl rfl (by rfl) | exact y_ldN rfl rfl rfl (by rfl) | exact y_ldK rfl rfl rfl rfl (by assumption) (by omega) | exact y_ldI rfl rfl rfl rfl (by assumption) (by omega) (by omega))) rfl ?_
    refine s_q (y_lenS rfl rfl rfl) rfl ?_
    refine s_q (y_min rfl rfl) rfl ?_
    refine s_q (y_max rfl rfl) rfl ?_
    refine s_q (by (first | exact y_sliceHi (m := (max (min i.many m.args.length) 0).toNat) rfl rfl (by omega) (by omega) rfl rfl | exact y_sliceHi rfl rfl rfl (by omega) rfl rfl)) rfl ?_
    refine s_call (pre := []) (rem := _) rfl rfl tk (fun w N ho hl => places_spec w N A _ c (m.args.take (max (min i.many m.args.length) 0).toNat) (by rw [List.length_take]; omega) ho ((ha.take _).of hl) (by rw [List.length_take]; omega)) rfl ?_
    rintro e L' ⟨G, g, rfl, rfl⟩
    try simp only [List.nil_append, List.cons_append, List.append_nil]
    refine s_q (y_assign rfl) rfl ?_
    refine s_done ?_
    exact s_return (R := LocRow _) ⟨G, g, rfl, rfl⟩ (res_tmp Try.results22 rfl)
  rw [if_neg h1]
  refine s_seq ?_
  refine s_region ?_
  refine s_q (y_move rfl) rfl ?_
  refine s_call (pre := []) (rem := _) rfl rfl tk (fun w N ho hl => with_spec w N (hasP i.op) 4 (hasP_lt _) (by decide) ho) rfl ?_
  rintro e L' ⟨rfl, rfl⟩
  try simp only [List.nil_append, List.cons_append, List.append_nil]
  refine s_q (y_assign rfl) rfl ?_
  refine s_done ?_
  refine s_cond rfl (fun h2 => ?_) (fun h2 => ?_)
  · rw [if_pos h2]
    refine s_seq ?_
    refine s_region ?_
    refine s_q (by (first | exact y_fieldAddrB rfl rfl rfl rfl rfl rfl | exact y_fieldAddr rfl rfl rfl rfl rfl rfl)) rfl ?_
    refine s_q (by (first | exact y_ld rfl rfl rfl (by rfl) | exact y_ldN rfl rfl rfl (by rfl) | exact y_ldK rfl rfl rfl rfl (by assumption) (by omega) | exact y_ldI rfl rfl rfl rfl (by assumption) (by omega) (by omega))) rfl ?_
    refine s_q (by (first | exact y_fieldAddrB rfl rfl rfl rfl rfl rfl | exact y_fieldAddr rfl rfl rfl rfl rfl rfl)) rfl ?_
    refine s_q (by (first | exact y_ld rfl rfl rfl (by rfl) | exact y_ldN rfl rfl rfl (by rfl) | exact y_ldK rfl rfl rfl rfl (by assumption) (by omega) | exact y_ldI rfl rfl rfl rfl (by assumption) (by omega) (by omega))) rfl ?_
    refine s_bslice rfl rfl rfl rfl rfl rfl rfl rfl (fun b => ?_)
    change J _ _ _ (cb b 3 (ints [i.a, i.b]) :: _) _
    refine s_call (pre := []) (rem := _) rfl rfl tk (fun w N ho hl => places_spec w N (some ⟨b, 0, none⟩) 2 2 [i.a, i.b] rfl ho (kiOfC hl (by repeat (first | exact List.mem_cons_self | refine List.mem_cons_of_mem _ ?_))) (by simp)) rfl ?_
    rintro e L' ⟨G, g, rfl, rfl⟩
    try simp only [List.nil_append, List.cons_append, List.append_nil]
    refine s_q (y_assign rfl) rfl ?_
    refine s_done ?_
    exact s_return (R := LocRow _) ⟨G, g, rfl, rfl⟩ (res_tmp Try.results22 rfl)
  rw [if_neg h2]
  refine s_seq ?_
  refine s_region ?_
  refine s_q (y_move rfl) rfl ?_
  refine s_call (pre := []) (rem := _) rfl rfl tk (fun w N ho hl => with_spec w N (hasP i.op) 2 (hasP_lt _) (by decide) ho) rfl ?_
  rintro e L' ⟨rfl, rfl⟩
  try simp only [List.nil_append, List.cons_append, List.append_nil]
  refine s_q (y_assign rfl) rfl ?_
  refine s_done ?_
  refine s_cond rfl (fun h3 => ?_) (fun h3 => ?_)
  · rw [if_pos h3]
    refine s_seq ?_
    refine s_region ?_
    refine s_q (by (first | exact y_fieldAddrB rfl rfl rfl rfl rfl rfl | exact y_fieldAddr rfl rfl rfl rfl rfl rfl)) rfl ?_
    refine s_q (by (first | exact y_ld rfl rfl rfl (by rfl) | exact y_ldN rfl rfl rfl (by rfl) | exact y_ldK rfl rfl rfl rfl (by assumption) (by omega) | exact y_ldI rfl rfl rfl rfl (by assumption) (by omega) (by omega))) rfl ?_
    refine s_bslice rfl rfl rfl rfl rfl rfl rfl rfl (fun b => ?_)
    change J _ _ _ (cb b 3 (ints [i.a]) :: _) _
    refine s_call (pre := []) (rem := _) rfl rfl tk (fun w N ho hl => places_spec w N (some ⟨b, 0, none⟩) 1 1 [i.a] rfl ho (kiOfC hl (by repeat (first | exact List.mem_cons_self | refine List.mem_cons_of_mem _ ?_))) (by simp)) rfl ?_
    rintro e L' ⟨G, g, rfl, rfl⟩
    try simp only [List.nil_append, List.cons_append, List.append_nil]
    refine s_q (y_assign rfl) rfl ?_
    refine s_done ?_
    exact s_return (R := LocRow _) ⟨G, g, rfl, rfl⟩ (res_tmp Try.results22 rfl)
  rw [if_neg h3]
  refine s_seq ?_
  refine s_region ?_
  refine s_q (y_move rfl) rfl ?_
  refine s_call (pre := []) (rem := _) rfl rfl tk (fun w N ho hl => with_spec w N (hasP i.op) 16 (hasP_lt _) (by decide) ho) rfl ?_
  rintro e L' ⟨rfl, rfl⟩
  try simp only [List.nil_append, List.cons_append, List.append_nil]
  refine s_q (y_assign rfl) rfl ?_
  refine s_done ?_
  refine s_cond rfl (fun h4 => ?_) (fun h4 => ?_)
  · rw [if_pos h4]
    refine s_seq ?_
    refine s_region ?_
    refine s_q (by (first | exact y_fieldAddrB rfl rfl rfl rfl rfl rfl | exact y_fieldAddr rfl rfl rfl rfl rfl rfl)) rfl ?_
    refine s_q (by (first | exact y_ld rfl rfl rfl (by rfl) | exact y_ldN rfl rfl rfl (by rfl) | exact y_ldK rfl rfl rfl rfl (by assumption) (by omega) | exact y_ldI rfl rfl rfl rfl (by assumption) (by omega) (by omega))) rfl ?_
    refine s_q (y_build rfl rfl rfl rfl) rfl ?_
    refine s_bslice rfl rfl rfl rfl rfl rfl rfl rfl (fun b => ?_)
    change J _ _ _ (cb b 60 ([((true, i.imm) : LocD)].flatMap encLoc) :: _) _
    refine J.imp (B := Sl 60 2 (some ⟨b, 0, none⟩) 1 1 ([((true, i.imm) : LocD)].flatMap encLoc)) (fun h hh => Sl.ofCb rfl (by decide) hh) ?_
    refine s_q (y_assign rfl) rfl ?_
    refine s_done ?_
    exact s_return (R := LocRow _) ⟨_, _, rfl, rfl⟩ (res_tmp Try.results22 rfl)
  rw [if_neg h4]
  refine s_skip ?_
  refine s_endb ?_
  refine s_seq ?_
  refine s_region ?_
  refine s_q (y_assign rfl) rfl ?_
  refine s_done ?_
  refine J.emp (B := Sl 60 2 none 0 0 (([] : List LocD).flatMap encLoc)) (Sl.ofNil _ _) ?_
  exact s_return (R := LocRow _) ⟨_, _, rfl, rfl⟩ (res_tmp Try.results22 rfl)
theorem Writes_spec (w : World) (N : Nat → Prop) (m : MV) (A B : Option Addr) (c d : Nat) (i : InsD) (ho : Owns w [] N) :
    Ret Try.prog 24 [.agg (mval m A c B d).toArray, .agg (encIns i).toArray] w N (LocRow (writesL m.ret i)) := by
  refine ret_of_J cx Try.func24 rfl (Nat.le_of_ble_eq_true rfl) ho ?_
  refine s_seq ?_
  refine s_region ?_
  first | (refine s_box1 rfl rfl rfl (fun b1 => ?_)) | (refine s_boxA rfl rfl (fun b1 => ?_))
  change J _ _ _ (cb b1 24 (mval m A c B d) :: _) _
  first | (refine s_box1 rfl rfl rfl (fun b2 => ?_)) | (refine s_boxA rfl rfl (fun b2 => ?_))
  change J _ _ _ (cb b2 30 (encIns i) :: _) _
  refine s_q (y_assign rfl) rfl ?_
  refine s_done ?_
  refine s_seq ?_
  refine s_seq ?_
  refine s_region ?_
  refine s_q (by (first | exact y_fieldAddrB rfl rfl rfl rfl rfl rfl | exact y_fieldAddr rfl rfl rfl rfl rfl rfl)) rfl ?_
  refine s_q (by (first | exact y_ld rfl rfl rfl (by rfl) | exact y_ldN rfl rfl rfl (by rfl) | exact y_ldK rfl rfl rfl rfl (by assumption) (by omega) | exact y_ldI rfl rfl rfl rfl (by assumption) (by omega) (by omega))) rfl ?_
  refine s_call (pre := []) (rem := _) rfl rfl tk (fun w N ho hl => has_spec w N i.op ho) rfl ?_
  rintro e L' ⟨rfl, rfl⟩
  try simp only [List.nil_append, List.cons_append, List.append_nil]
  refine s_q (y_assign rfl) rfl ?_
  refine s_done ?_
  refine s_block ?_
  refine s_seq ?_
  refine s_region ?_
  refine s_q (y_move rfl) rfl ?_
  refine s_call (pre := []) (rem := _) rfl rfl tk (fun w N ho hl => with_spec w N (hasP i.op) 32 (hasP_lt _) (by decide) ho) rfl ?_
  rintro e L' ⟨rfl, rfl⟩
  try simp only [List.nil_append, List.cons_append, List.append_nil]
  refine s_q (y_assign rfl) rfl ?_
  refine s_done ?_
  unfold writesL
  refine s_cond rfl (fun h1 => ?_) (fun h1 => ?_)
  · rw [if_pos h1]
    refine s_seq ?_
    refine s_region ?_
    refine s_q (by (first | exact y_fieldAddrB rfl rfl rfl rfl rfl rfl | exact y_fieldAddr rfl rfl rfl rfl rfl rfl)) rfl ?_
    refine s_q (by (first | exact y_ld rfl rfl rfl (by rfl) | exact y_ldN rfl rfl rfl (by rfl) | exact y_ldK rfl rfl rfl rfl (by assumption) (by omega) | exact y_ldI rfl rfl rfl rfl (by assumption) (by omega) (by omega))) rfl ?_
    refine s_bslice rfl rfl rfl rfl rfl rfl rfl rfl (fun b => ?_)
    change J _ _ _ (cb b 3 (ints [m.ret]) :: _) _
    refine s_call (pre := []) (rem := _) rfl rfl tk (fun w N ho hl => places_spec w N (some ⟨b, 0, none⟩) 1 1 [m.ret] rfl ho (kiOfC hl (by repeat (first | exact List.mem_cons_self | refine List.mem_cons_of_mem _ ?_))) (by simp)) rfl ?_
    rintro e L' ⟨G, g, rfl, rfl⟩
    try simp only [List.nil_append, List.cons_append, List.append_nil]
    refine s_q (y_assign rfl) rfl ?_
    refine s_done ?_
    exact s_return (R := LocRow _) ⟨G, g, rfl, rfl⟩ (res_tmp Try.results24 rfl)
  rw [if_neg h1]
  refine s_seq ?_
  refine s_region ?_
  refine s_q (y_move rfl) rfl ?_
  refine s_call (pre := []) (rem := _) rfl rfl tk (fun w N ho hl => with_spec w N (hasP i.op) 1 (hasP_lt _) (by decide) ho) rfl ?_
  rintro e L' ⟨rfl, rfl⟩
  try simp only [List.nil_append, List.cons_append, List.append_nil]
  refine s_q (y_assign rfl) rfl ?_
  refine s_done ?_
  refine s_cond rfl (fun h2 => ?_) (fun h2 => ?_)
  · rw [if_pos h2]
    refine s_seq ?_
    refine s_region ?_
    refine s_q (by (first | exact y_fieldAddrB rfl rfl rfl rfl rfl rfl | exact y_fieldAddr rfl rfl rfl rfl rfl rfl)) rfl ?_
    refine s_q (by (first | exact y_ld rfl rfl rfl (by rfl) | exact y_ldN rfl rfl rfl (by rfl) | exact y_ldK rfl rfl rfl rfl (by assumption) (by omega) | exact y_ldI rfl rfl rfl rfl (by assumption) (by omega) (by omega))) rfl ?_
    refine s_bslice rfl rfl rfl rfl rfl rfl rfl rfl (fun b => ?_)
    change J _ _ _ (cb b 3 (ints [i.dst]) :: _) _
    refine s_call (pre := []) (rem := _) rfl rfl tk (fun w N ho hl => places_spec w N (some ⟨b, 0, none⟩) 1 1 [i.dst] rfl ho (kiOfC hl (by repeat (first | exact List.mem_cons_self | refine List.mem_cons_of_mem _ ?_))) (by simp)) rfl ?_
    rintro e L' ⟨G, g, rfl, rfl⟩
    try simp only [List.nil_append, List.cons_append, List.append_nil]
    refine s_q (y_assign rfl) rfl ?_
    refine s_done ?_
    exact s_return (R := LocRow _) ⟨G, g, rfl, rfl⟩ (res_tmp Try.results24 rfl)
  rw [if_neg h2]
  refine s_seq ?_
  refine s_region ?_
  refine s_q (y_move rfl) rfl ?_
  refine s_call (pre := []) (rem := _) rfl rfl tk (fun w N ho hl => with_spec w N (hasP i.op) 16 (hasP_lt _) (by decide) ho) rfl ?_
  rintro e L' ⟨rfl, rfl⟩
  try simp only [List.nil_append, List.cons_append, List.append_nil]
  refine s_q (y_assign rfl) rfl ?_
  refine s_done ?_
  refine s_cond rfl (fun h4 => ?_) (fun h4 => ?_)
  · rw [if_pos h4]
    refine s_seq ?_
    refine s_region ?_
    refine s_q (by (first | exact y_fieldAddrB rfl rfl rfl rfl rfl rfl | exact y_fieldAddr rfl rfl rfl rfl rfl rfl)) rfl ?_
    refine s_q (by (first | exact y_ld rfl rfl rfl (by rfl) | exact y_ldN rfl rfl rfl (by rfl) | exact y_ldK rfl rfl rfl rfl (by assumption) (by omega) | exact y_ldI rfl rfl rfl rfl (by assumption) (by omega) (by omega))) rfl ?_
    refine s_q (y_build rfl rfl rfl rfl) rfl ?_
    refine s_bslice rfl rfl rfl rfl rfl rfl rfl rfl (fun b => ?_)
    change J _ _ _ (cb b 60 ([((true, i.imm) : LocD)].flatMap encLoc) :: _) _
    refine J.imp (B := Sl 60 2 (some ⟨b, 0, none⟩) 1 1 ([((true, i.imm) : LocD)].flatMap encLoc)) (fun h hh => Sl.ofCb rfl (by decide) hh) ?_
    refine s_q (y_assign rfl) rfl ?_
    refine s_done ?_
    exact s_return (R := LocRow _) ⟨_, _, rfl, rfl⟩ (res_tmp Try.results24 rfl)
  rw [if_neg h4]
  refine s_skip ?_
  refine s_endb ?_
  refine s_seq ?_
  refine s_region ?_
  refine s_q (y_assign rfl) rfl ?_
  refine s_done ?_
  refine J.emp (B := Sl 60 2 none 0 0 (([] : List LocD).flatMap encLoc)) (Sl.ofNil _ _) ?_
  exact s_return (R := LocRow _) ⟨_, _, rfl, rfl⟩ (res_tmp Try.results24 rfl)
theorem Needs_spec (w : World) (N : Nat → Prop) (kind a t0 t1 : Int) (ho : Owns w [] N) :
    Ret Try.prog 26 [.agg #[.int .i64 kind, .int .i64 a, .int .i64 t0, .int .i64 t1]] w N (LocRow (needsL kind a)) := by
  refine ret_of_J cx Try.func26 rfl (Nat.le_of_ble_eq_true rfl) ho ?_
  refine s_seq ?_
  refine s_region ?_
  first | (refine s_box1 rfl rfl rfl (fun b1 => ?_)) | (refine s_boxA rfl rfl (fun b1 => ?_))
  change J _ _ _ (cb b1 40 [.int .i64 kind, .int .i64 a, .int .i64 t0, .int .i64 t1] :: _) _
  refine s_q (y_assign rfl) rfl ?_
  refine s_done ?_
  refine s_seq ?_
  refine s_block ?_
  refine s_seq ?_
  refine s_block ?_
  refine s_block ?_
  refine s_seq ?_
  refine s_seq ?_
  refine s_seq ?_
  unfold needsL
  by_cases h1 : kind = 3
  · subst h1
    by_cases h2 : a = -1
    · subst h2
      rw [if_neg (by simp)]
      refine s_region ?_
      refine s_q (by (first | exact y_fieldAddrB rfl rfl rfl rfl rfl rfl | exact y_fieldAddr rfl rfl rfl rfl rfl rfl)) rfl ?_
      refine s_q (by (first | exact y_ld rfl rfl rfl (by rfl) | exact y_ldN rfl rfl rfl (by rfl) | exact y_ldK rfl rfl rfl rfl (by assumption) (by omega) | exact y_ldI rfl rfl rfl rfl (by assumption) (by omega) (by omega))) rfl ?_
      refine s_q (by (first | exact y_eql rfl rfl | exact y_eqlB rfl rfl rfl)) rfl ?_
      refine s_q (y_move rfl) rfl ?_
      refine s_guard2 rfl rfl (congrArg Value.bool (by decide)) ?_
      refine s_q (by (first | exact y_fieldAddrB rfl rfl rfl rfl rfl rfl | exact y_fieldAddr rfl rfl rfl rfl rfl rfl)) rfl ?_
      refine s_guard2 rfl rfl (congrArg Value.bool (by decide)) ?_
      refine s_q (by (first | exact y_ld rfl rfl rfl (by rfl) | exact y_ldN rfl rfl rfl (by rfl) | exact y_ldK rfl rfl rfl rfl (by assumption) (by omega) | exact y_ldI rfl rfl rfl rfl (by assumption) (by omega) (by omega))) rfl ?_
      refine s_guard2 rfl rfl (congrArg Value.bool (by decide)) ?_
      refine s_q (by (first | exact y_neq rfl rfl | exact y_neqB rfl rfl rfl)) rfl ?_
      refine s_q (by (first | exact y_pickT rfl rfl | exact y_pickF rfl rfl)) rfl ?_
      refine s_q (y_assign rfl) rfl ?_
      refine s_done ?_
      refine s_condF2 rfl (congrArg Value.bool (by decide)) ?_
      refine s_skip ?_
      refine s_seq ?_
      refine s_region ?_
      refine s_q (by (first | exact y_fieldAddrB rfl rfl rfl rfl rfl rfl | exact y_fieldAddr rfl rfl rfl rfl rfl rfl)) rfl ?_
      refine s_q (by (first | exact y_ld rfl rfl rfl (by rfl) | exact y_ldN rfl rfl rfl (by rfl) | exact y_ldK rfl rfl rfl rfl (by assumption) (by omega) | exact y_ldI rfl rfl rfl rfl (by assumption) (by omega) (by omega))) rfl ?_
      refine s_q (by (first | exact y_eql rfl rfl | exact y_eqlB rfl rfl rfl)) rfl ?_
      refine s_q (y_assign rfl) rfl ?_
      refine s_done ?_
      refine s_condF2 rfl (congrArg Value.bool (by decide)) ?_
      refine s_skip ?_
      refine s_exit rfl ?_
      refine s_seq ?_
      refine s_region ?_
      refine s_q (y_assign rfl) rfl ?_
      refine s_done ?_
      refine J.emp (B := Sl 60 2 none 0 0 (([] : List LocD).flatMap encLoc)) (Sl.ofNil _ _) ?_
      exact s_return (R := LocRow _) ⟨_, _, rfl, rfl⟩ (res_tmp Try.results26 rfl)
    · rw [if_pos (.inl ⟨rfl, h2⟩)]
      refine s_region ?_
      refine s_q (by (first | exact y_fieldAddrB rfl rfl rfl rfl rfl rfl | exact y_fieldAddr rfl rfl rfl rfl rfl rfl)) rfl ?_
      refine s_q (by (first | exact y_ld rfl rfl rfl (by rfl) | exact y_ldN rfl rfl rfl (by rfl) | exact y_ldK rfl rfl rfl rfl (by assumption) (by omega) | exact y_ldI rfl rfl rfl rfl (by assumption) (by omega) (by omega))) rfl ?_
      refine s_q (by (first | exact y_eql rfl rfl | exact y_eqlB rfl rfl rfl)) rfl ?_
      refine s_q (y_move rfl) rfl ?_
      refine s_guard2 rfl rfl (congrArg Value.bool (by decide)) ?_
      refine s_q (by (first | exact y_fieldAddrB rfl rfl rfl rfl rfl rfl | exact y_fieldAddr rfl rfl rfl rfl rfl rfl)) rfl ?_
      refine s_guard2 rfl rfl (congrArg Value.bool (by decide)) ?_
      refine s_q (by (first | exact y_ld rfl rfl rfl (by rfl) | exact y_ldN rfl rfl rfl (by rfl) | exact y_ldK rfl rfl rfl rfl (by assumption) (by omega) | exact y_ldI rfl rfl rfl rfl (by assumption) (by omega) (by omega))) rfl ?_
      refine s_guard2 rfl rfl (congrArg Value.bool (by decide)) ?_
      refine s_q (by (first | exact y_as (y_neq rfl rfl) (congrArg Value.bool (decide_eq_true h2)) | exact y_neq rfl rfl | exact y_neqB rfl rfl rfl)) rfl ?_
      refine s_q (by (first | exact y_pickT rfl rfl | exact y_pickF rfl rfl)) rfl ?_
      refine s_q (y_assign rfl) rfl ?_
      refine s_done ?_
      refine s_condT2 rfl (by with_reducible rfl) ?_
      refine s_exit rfl ?_
      refine s_endb ?_
      refine s_seq ?_
      refine s_seq ?_
      refine s_region ?_
      refine s_q (by (first | exact y_fieldAddrB rfl rfl rfl rfl rfl rfl | exact y_fieldAddr rfl rfl rfl rfl rfl rfl)) rfl ?_
      refine s_q (by (first | exact y_ld rfl rfl rfl (by rfl) | exact y_ldN rfl rfl rfl (by rfl) | exact y_ldK rfl rfl rfl rfl (by assumption) (by omega) | exact y_ldI rfl rfl rfl rfl (by assumption) (by omega) (by omega))) rfl ?_
      refine s_bslice rfl rfl rfl rfl rfl rfl rfl rfl (fun b => ?_)
      change J _ _ _ (cb b 3 (ints [a]) :: _) _
      refine s_call (pre := []) (rem := _) rfl rfl tk (fun w N ho hl => places_spec w N (some ⟨b, 0, none⟩) 1 1 [a] rfl ho (kiOfC hl (by repeat (first | exact List.mem_cons_self | refine List.mem_cons_of_mem _ ?_))) (by simp)) rfl ?_
      rintro e L' ⟨G, g, rfl, rfl⟩
      try simp only [List.nil_append, List.cons_append, List.append_nil]
      refine s_q (y_assign rfl) rfl ?_
      refine s_done ?_
      exact s_return (R := LocRow _) ⟨G, g, rfl, rfl⟩ (res_tmp Try.results26 rfl)
  · by_cases h2 : kind = 2
    · rw [if_pos (.inr h2)]
      refine s_region ?_
      refine s_q (by (first | exact y_fieldAddrB rfl rfl rfl rfl rfl rfl | exact y_fieldAddr rfl rfl rfl rfl rfl rfl)) rfl ?_
      refine s_q (by (first | exact y_ld rfl rfl rfl (by rfl) | exact y_ldN rfl rfl rfl (by rfl) | exact y_ldK rfl rfl rfl rfl (by assumption) (by omega) | exact y_ldI rfl rfl rfl rfl (by assumption) (by omega) (by omega))) rfl ?_
      refine s_q (by (first | exact y_as (y_eql (n := 3) rfl rfl) (congrArg Value.bool (decide_eq_false h1)) | exact y_as (y_eql (n := 2) rfl rfl) (congrArg Value.bool (decide_eq_true h2)) | exact y_eql rfl rfl | exact y_eqlB rfl rfl rfl)) rfl ?_
      refine s_q (y_move rfl) rfl ?_
      refine s_unguard2 (b := false) rfl rfl (by with_reducible rfl) rfl rfl ?_
      refine s_unguard2 (b := false) rfl rfl (by with_reducible rfl) rfl rfl ?_
      refine s_unguard2 (b := false) rfl rfl (by with_reducible rfl) rfl rfl ?_
      refine s_q (by (first | exact y_pickT rfl rfl | exact y_pickF rfl rfl)) rfl ?_
      refine s_q (y_assign rfl) rfl ?_
      refine s_done ?_
      refine s_condF2 rfl (by with_reducible rfl) ?_
      refine s_skip ?_
      refine s_seq ?_
      refine s_region ?_
      refine s_q (by (first | exact y_fieldAddrB rfl rfl rfl rfl rfl rfl | exact y_fieldAddr rfl rfl rfl rfl rfl rfl)) rfl ?_
      refine s_q (by (first | exact y_ld rfl rfl rfl (by rfl) | exact y_ldN rfl rfl rfl (by rfl) | exact y_ldK rfl rfl rfl rfl (by assumption) (by omega) | exact y_ldI rfl rfl rfl rfl (by assumption) (by omega) (by omega))) rfl ?_
      refine s_q (by (first | exact y_as (y_eql (n := 3) rfl rfl) (congrArg Value.bool (decide_eq_false h1)) | exact y_as (y_eql (n := 2) rfl rfl) (congrArg Value.bool (decide_eq_true h2)) | exact y_eql rfl rfl | exact y_eqlB rfl rfl rfl)) rfl ?_
      refine s_q (y_assign rfl) rfl ?_
      refine s_done ?_
      refine s_condT2 rfl (by with_reducible rfl) ?_
      refine s_exit rfl ?_
      refine s_seq ?_
      refine s_seq ?_
      refine s_region ?_
      refine s_q (by (first | exact y_fieldAddrB rfl rfl rfl rfl rfl rfl | exact y_fieldAddr rfl rfl rfl rfl rfl rfl)) rfl ?_
      refine s_q (by (first | exact y_ld rfl rfl rfl (by rfl) | exact y_ldN rfl rfl rfl (by rfl) | exact y_ldK rfl rfl rfl rfl (by assumption) (by omega) | exact y_ldI rfl rfl rfl rfl (by assumption) (by omega) (by omega))) rfl ?_
      refine s_bslice rfl rfl rfl rfl rfl rfl rfl rfl (fun b => ?_)
      change J _ _ _ (cb b 3 (ints [a]) :: _) _
      refine s_call (pre := []) (rem := _) rfl rfl tk (fun w N ho hl => places_spec w N (some ⟨b, 0, none⟩) 1 1 [a] rfl ho (kiOfC hl (by repeat (first | exact List.mem_cons_self | refine List.mem_cons_of_mem _ ?_))) (by simp)) rfl ?_
      rintro e L' ⟨G, g, rfl, rfl⟩
      try simp only [List.nil_append, List.cons_append, List.append_nil]
      refine s_q (y_assign rfl) rfl ?_
      refine s_done ?_
      exact s_return (R := LocRow _) ⟨G, g, rfl, rfl⟩ (res_tmp Try.results26 rfl)
    · rw [if_neg (fun x => x.elim (fun y => h1 y.1) h2)]
      refine s_region ?_
      refine s_q (by (first | exact y_fieldAddrB rfl rfl rfl rfl rfl rfl | exact y_fieldAddr rfl rfl rfl rfl rfl rfl)) rfl ?_
      refine s_q (by (first | exact y_ld rfl rfl rfl (by rfl) | exact y_ldN rfl rfl rfl (by rfl) | exact y_ldK rfl rfl rfl rfl (by assumption) (by omega) | exact y_ldI rfl rfl rfl rfl (by assumption) (by omega) (by omega))) rfl ?_
      refine s_q (by (first | exact y_as (y_eql (n := 3) rfl rfl) (congrArg Value.bool (decide_eq_false h1)) | exact y_as (y_eql (n := 2) rfl rfl) (congrArg Value.bool (decide_eq_false h2)) | exact y_eql rfl rfl | exact y_eqlB rfl rfl rfl)) rfl ?_
      refine s_q (y_move rfl) rfl ?_
      refine s_unguard2 (b := false) rfl rfl (by with_reducible rfl) rfl rfl ?_
      refine s_unguard2 (b := false) rfl rfl (by with_reducible rfl) rfl rfl ?_
      refine s_unguard2 (b := false) rfl rfl (by with_reducible rfl) rfl rfl ?_
      refine s_q (by (first | exact y_pickT rfl rfl | exact y_pickF rfl rfl)) rfl ?_
      refine s_q (y_assign rfl) rfl ?_
      refine s_done ?_
      refine s_condF2 rfl (by with_reducible rfl) ?_
      refine s_skip ?_
      refine s_seq ?_
      refine s_region ?_
      refine s_q (by (first | exact y_fieldAddrB rfl rfl rfl rfl rfl rfl | exact y_fieldAddr rfl rfl rfl rfl rfl rfl)) rfl ?_
      refine s_q (by (first | exact y_ld rfl rfl rfl (by rfl) | exact y_ldN rfl rfl rfl (by rfl) | exact y_ldK rfl rfl rfl rfl (by assumption) (by omega) | exact y_ldI rfl rfl rfl rfl (by assumption) (by omega) (by omega))) rfl ?_
      refine s_q (by (first | exact y_as (y_eql (n := 3) rfl rfl) (congrArg Value.bool (decide_eq_false h1)) | exact y_as (y_eql (n := 2) rfl rfl) (congrArg Value.bool (decide_eq_false h2)) | exact y_eql rfl rfl | exact y_eqlB rfl rfl rfl)) rfl ?_
      refine s_q (y_assign rfl) rfl ?_
      refine s_done ?_
      refine s_condF2 rfl (by with_reducible rfl) ?_
      refine s_skip ?_
      refine s_exit rfl ?_
      refine s_seq ?_
      refine s_region ?_
      refine s_q (y_assign rfl) rfl ?_
      refine s_done ?_
      refine J.emp (B := Sl 60 2 none 0 0 (([] : List LocD).flatMap encLoc)) (Sl.ofNil _ _) ?_
      exact s_return (R := LocRow _) ⟨_, _, rfl, rfl⟩ (res_tmp Try.results26 rfl)
def sumI : List BlkD → Nat
  | [] => 0
  | b :: r => b.ins.length + sumI r
def sizeT (bs : List BlkD) : Nat := bs.length + sumI bs
theorem Size_spec (w : World) (N : Nat → Prop) (T : Option Addr) (q : Nat) (f : Int) (bs : List BlkD) (ho : Owns w [] N) (hb : KB w N T bs) (hlen : bs.length < 1000000) (hil : ∀ b ∈ bs, b.ins.length < 1000000) :
    Ret Try.prog 17 [.agg #[.int .i64 f, .slice T bs.length q]] w N fun v L => v = .int .i64 (sizeT bs) ∧ L = [] := by
  refine ret_of_J cx Try.func17 rfl (Nat.le_of_ble_eq_true rfl) ho ?_
  refine s_seq ?_
  refine s_region ?_
  first | (refine s_box1 rfl rfl rfl (fun b1 => ?_)) | (refine s_boxA rfl rfl (fun b1 => ?_))
  change J _ _ _ (cb b1 27 [.int .i64 f, .slice T bs.length q] :: _) _
  refine s_q (y_assign rfl) rfl ?_
  refine s_done ?_
  refine s_seq ?_
  refine s_region ?_
  refine s_q (by (first | exact y_fieldAddrB rfl rfl rfl rfl rfl rfl | exact y_fieldAddr rfl rfl rfl rfl rfl rfl)) rfl ?_
  refine s_q (by (first | exact y_ld rfl rfl rfl (by rfl) | exact y_ldN rfl rfl rfl (by rfl) | exact y_ldK rfl rfl rfl rfl (by assumption) (by omega) | exact y_ldI rfl rfl rfl rfl (by assumption) (by omega) (by omega))) rfl ?_
  refine s_q (y_lenS rfl rfl rfl) rfl ?_
  refine s_q (y_assign rfl) rfl ?_
  refine s_done ?_
  refine s_seq ?_
  refine s_seq ?_
  refine s_region ?_
  refine s_q (by (first | exact y_fieldAddrB rfl rfl rfl rfl rfl rfl | exact y_fieldAddr rfl rfl rfl rfl rfl rfl)) rfl ?_
  refine s_q (by (first | exact y_ld rfl rfl rfl (by rfl) | exact y_ldN rfl rfl rfl (by rfl) | exact y_ldK rfl rfl rfl rfl (by assumption) (by omega) | exact y_ldI rfl rfl rfl rfl (by assumption) (by omega) (by omega))) rfl ?_
  refine s_q (y_lenS rfl rfl rfl) rfl ?_
  refine s_q (y_move rfl) rfl ?_
  refine s_done ?_
  refine s_block ?_
  refine s_loopV (σ := Nat × Nat) (fun s => [(12, .int .i64 s.1), (3, .int .i64 s.2)]) (fun s => []) (fun s => (s.1 ≤ bs.length) ∧ (s.2 ≤ bs.length + 1000000 * s.1) ∧ (s.2 + sumI (bs.drop s.1) = sizeT bs)) (fun s => bs.length - s.1) (0, bs.length) [(10, _), (11, _)] ⟨rfl, rfl, trivial⟩ ⟨rfl, rfl, trivial⟩ tk ⟨Nat.zero_le _, (by (try dsimp only); omega), rfl⟩ ?_
  rintro ⟨k, n⟩ ⟨hk, hn, hf⟩
  try dsimp only [List.cons_append, List.nil_append, List.append_nil] at hk hn hf ⊢
  refine s_seq ?_
  refine s_region ?_
  refine s_q (y_lss rfl rfl) rfl ?_
  refine s_done ?_
  refine s_seq ?_
  refine s_cond rfl (fun h => ?_) (fun h => ?_)
  · have hkl : k < bs.length := by omega
    have hmem := getD_mem BlkD.no hkl
    have hmi := hil _ hmem
    rw [drop_D .no bs k hkl, sumI] at hf
    refine s_skip ?_
    refine s_seq ?_
    refine s_block ?_
    refine s_seq ?_
    refine s_region ?_
    refine s_q (by (first | exact y_ixE hb.blk rfl rfl rfl rfl rfl rfl (by omega) (by omega) | exact y_ixI rfl rfl rfl rfl rfl (by assumption) rfl (by omega) (by omega))) rfl ?_
    refine s_q (by (first | exact y_ldE hb.blk rfl rfl rfl (by omega) rfl | exact y_ld rfl rfl rfl (by rfl) | exact y_ldN rfl rfl rfl (by rfl) | exact y_ldK rfl rfl rfl rfl (by assumption) (by omega) | exact y_ldI rfl rfl rfl rfl (by assumption) (by omega) (by omega))) rfl ?_
    refine s_alloc rfl rfl (fun b2 => ?_)
    first | (refine s_storeW rfl rfl rfl rfl rfl (by rfl) ?_) | (refine s_storeN rfl rfl rfl rfl rfl (by rfl) ?_)
    change J _ _ _ (cb b2 42 (encBlk (bs.getD k .no)) :: _) _
    unfold encBlk
    refine s_done ?_
    refine s_region ?_
    refine s_q (y_move rfl) rfl ?_
    refine s_q (by (first | exact y_fieldAddrB rfl rfl rfl rfl rfl rfl | exact y_fieldAddr rfl rfl rfl rfl rfl rfl)) rfl ?_
    refine s_q (by (first | exact y_ld rfl rfl rfl (by rfl) | exact y_ldN rfl rfl rfl (by rfl) | exact y_ldK rfl rfl rfl rfl (by assumption) (by omega) | exact y_ldI rfl rfl rfl rfl (by assumption) (by omega) (by omega))) rfl ?_
    refine s_q (y_lenS rfl rfl rfl) rfl ?_
    refine s_q (y_add rfl rfl (by omega)) rfl ?_
    refine s_q (y_assign rfl) rfl ?_
    refine s_done ?_
    refine s_endb ?_
    refine s_region ?_
    refine s_q (y_add rfl rfl (by omega)) rfl ?_
    refine s_q (y_move rfl) rfl ?_
    refine s_done ?_
    refine s_inv (k + 1, n + (bs.getD k .no).ins.length) ⟨(by (try dsimp only); omega), by dsimp only; omega, by dsimp only; omega⟩ (by (try dsimp only); omega) ⟨rfl, rfl, rfl, rfl, trivial⟩ tk
  · have hkl : k = bs.length := by omega
    subst hkl
    rw [List.drop_length, sumI] at hf
    refine s_exit rfl ?_
    refine s_seq ?_
    refine s_region ?_
    refine s_q (y_move rfl) rfl ?_
    refine s_q (y_assign rfl) rfl ?_
    refine s_done ?_
    exact s_return ⟨by rw [← hf]; rfl, rfl⟩ (res_tmp Try.results17 rfl)
def placeB (regs frame : Int) (l : LocD) : Bool := decide (0 ≤ l.2) && (l.1 && decide (l.2 < frame) || !l.1 && decide (l.2 < regs))
theorem place_spec (w : World) (N : Nat → Prop) (m : MV) (A B : Option Addr) (c d : Nat) (f : Int) (l : LocD) (ho : Owns w [] N) :
    Ret Try.prog 53 [.agg (mval m A c B d).toArray, .int .i64 f, .agg (encLoc l).toArray] w N fun v L => v = .bool (placeB m.regs f l) ∧ L = [] := by
  obtain ⟨s, n⟩ := l
  refine ret_of_J cx Try.func53 rfl (Nat.le_of_ble_eq_true rfl) ho ?_
  refine s_seq ?_
  refine s_region ?_
  first | (refine s_box1 rfl rfl rfl (fun b1 => ?_)) | (refine s_boxA rfl rfl (fun b1 => ?_))
  change J _ _ _ (cb b1 24 (mval m A c B d) :: _) _
  first | (refine s_box1 rfl rfl rfl (fun b2 => ?_)) | (refine s_boxA rfl rfl (fun b2 => ?_))
  change J _ _ _ (cb b2 60 [.bool s, .int .i64 n] :: _) _
  refine s_q (y_assign rfl) rfl ?_
  refine s_done ?_
  refine s_seq ?_
  unfold placeB
  by_cases h1 : 0 ≤ n
  · cases s with
    | true =>
      by_cases h2 : n < f
      · refine s_region ?_
        refine s_q (by (first | exact y_fieldAddrB rfl rfl rfl rfl rfl rfl | exact y_fieldAddr rfl rfl rfl rfl rfl rfl)) rfl ?_
        refine s_q (by (first | exact y_ld rfl rfl rfl (by rfl) | exact y_ldN rfl rfl rfl (by rfl) | exact y_ldK rfl rfl rfl rfl (by assumption) (by omega) | exact y_ldI rfl rfl rfl rfl (by assumption) (by omega) (by omega))) rfl ?_
        refine s_q (by (first | exact y_as (y_geq rfl rfl) (congrArg Value.bool (decide_eq_true h1)) | exact y_geq rfl rfl)) rfl ?_
        refine s_q (y_move rfl) rfl ?_
        refine s_guard2 rfl rfl (by with_reducible rfl) ?_
        refine s_q (by (first | exact y_fieldAddrB rfl rfl rfl rfl rfl rfl | exact y_fieldAddr rfl rfl rfl rfl rfl rfl)) rfl ?_
        refine s_guard2 rfl rfl (by with_reducible rfl) ?_
        refine s_q (by (first | exact y_ld rfl rfl rfl (by rfl) | exact y_ldN rfl rfl rfl (by rfl) | exact y_ldK rfl rfl rfl rfl (by assumption) (by omega) | exact y_ldI rfl rfl rfl rfl (by assumption) (by omega) (by omega))) rfl ?_
        refine s_guard2 rfl rfl (by with_reducible rfl) ?_
        refine s_q (y_move rfl) rfl ?_
        refine s_guard2 rfl rfl (by with_reducible rfl) ?_
        refine s_q (by (first | exact y_fieldAddrB rfl rfl rfl rfl rfl rfl | exact y_fieldAddr rfl rfl rfl rfl rfl rfl)) rfl ?_
        refine s_guard2 rfl rfl (by with_reducible rfl) ?_
        refine s_q (by (first | exact y_ld rfl rfl rfl (by rfl) | exact y_ldN rfl rfl rfl (by rfl) | exact y_ldK rfl rfl rfl rfl (by assumption) (by omega) | exact y_ldI rfl rfl rfl rfl (by assumption) (by omega) (by omega))) rfl ?_
        refine s_guard2 rfl rfl (by with_reducible rfl) ?_
        refine s_q (y_move rfl) rfl ?_
        refine s_guard2 rfl rfl (by with_reducible rfl) ?_
        refine s_q (by (first | exact y_as (y_lss rfl rfl) (congrArg Value.bool (decide_eq_true h2)) | exact y_lss rfl rfl)) rfl ?_
        refine s_guard2 rfl rfl (by with_reducible rfl) ?_
        refine s_q (by (first | exact y_pickT rfl rfl | exact y_pickF rfl rfl)) rfl ?_
        refine s_guard2 rfl rfl (by with_reducible rfl) ?_
        refine s_q (y_move rfl) rfl ?_
        refine s_unguard2 (b := true) rfl rfl (by with_reducible rfl) rfl rfl ?_
        refine s_unguard2 (b := true) rfl rfl (by with_reducible rfl) rfl rfl ?_
        refine s_unguard2 (b := true) rfl rfl (by with_reducible rfl) rfl rfl ?_
        refine s_unguard2 (b := true) rfl rfl (by with_reducible rfl) rfl rfl ?_
        refine s_unguardU rfl rfl rfl ?_
        refine s_unguardU rfl rfl rfl ?_
        refine s_unguardU rfl rfl rfl ?_
        refine s_unguardU rfl rfl rfl ?_
        refine s_unguardU rfl rfl rfl ?_
        refine s_unguard2 (b := true) rfl rfl (by with_reducible rfl) rfl rfl ?_
        refine s_guard2 rfl rfl (by with_reducible rfl) ?_
        refine s_q (by (first | exact y_pickT rfl rfl | exact y_pickF rfl rfl)) rfl ?_
        refine s_q (by (first | exact y_pickT rfl rfl | exact y_pickF rfl rfl)) rfl ?_
        refine s_q (y_assign rfl) rfl ?_
        refine s_done ?_
        exact s_return ⟨by rw [decide_eq_true h1, decide_eq_true h2]; rfl, rfl⟩ (res_tmp Try.results53 rfl)
      · refine s_region ?_
        refine s_q (by (first | exact y_fieldAddrB rfl rfl rfl rfl rfl rfl | exact y_fieldAddr rfl rfl rfl rfl rfl rfl)) rfl ?_
        refine s_q (by (first | exact y_ld rfl rfl rfl (by rfl) | exact y_ldN rfl rfl rfl (by rfl) | exact y_ldK rfl rfl rfl rfl (by assumption) (by omega) | exact y_ldI rfl rfl rfl rfl (by assumption) (by omega) (by omega))) rfl ?_
        refine s_q (by (first | exact y_as (y_geq rfl rfl) (congrArg Value.bool (decide_eq_true h1)) | exact y_geq rfl rfl)) rfl ?_
        refine s_q (y_move rfl) rfl ?_
        refine s_guard2 rfl rfl (by with_reducible rfl) ?_
        refine s_q (by (first | exact y_fieldAddrB rfl rfl rfl rfl rfl rfl | exact y_fieldAddr rfl rfl rfl rfl rfl rfl)) rfl ?_
        refine s_guard2 rfl rfl (by with_reducible rfl) ?_
        refine s_q (by (first | exact y_ld rfl rfl rfl (by rfl) | exact y_ldN rfl rfl rfl (by rfl) | exact y_ldK rfl rfl rfl rfl (by assumption) (by omega) | exact y_ldI rfl rfl rfl rfl (by assumption) (by omega) (by omega))) rfl ?_
        refine s_guard2 rfl rfl (by with_reducible rfl) ?_
        refine s_q (y_move rfl) rfl ?_
        refine s_guard2 rfl rfl (by with_reducible rfl) ?_
        refine s_q (by (first | exact y_fieldAddrB rfl rfl rfl rfl rfl rfl | exact y_fieldAddr rfl rfl rfl rfl rfl rfl)) rfl ?_
        refine s_guard2 rfl rfl (by with_reducible rfl) ?_
        refine s_q (by (first | exact y_ld rfl rfl rfl (by rfl) | exact y_ldN rfl rfl rfl (by rfl) | exact y_ldK rfl rfl rfl rfl (by assumption) (by omega) | exact y_ldI rfl rfl rfl rfl (by assumption) (by omega) (by omega))) rfl ?_
        refine s_guard2 rfl rfl (by with_reducible rfl) ?_
        refine s_q (y_move rfl) rfl ?_
        refine s_guard2 rfl rfl (by with_reducible rfl) ?_
        refine s_q (by (first | exact y_as (y_lss rfl rfl) (congrArg Value.bool (decide_eq_false h2)) | exact y_lss rfl rfl)) rfl ?_
        refine s_guard2 rfl rfl (by with_reducible rfl) ?_
        refine s_q (by (first | exact y_pickT rfl rfl | exact y_pickF rfl rfl)) rfl ?_
        refine s_guard2 rfl rfl (by with_reducible rfl) ?_
        refine s_q (y_move rfl) rfl ?_
        refine s_guard2 rfl rfl (by with_reducible rfl) ?_
        refine s_q (by (first | exact y_fieldAddrB rfl rfl rfl rfl rfl rfl | exact y_fieldAddr rfl rfl rfl rfl rfl rfl)) rfl ?_
        refine s_guard2 rfl rfl (by with_reducible rfl) ?_
        refine s_q (by (first | exact y_ld rfl rfl rfl (by rfl) | exact y_ldN rfl rfl rfl (by rfl) | exact y_ldK rfl rfl rfl rfl (by assumption) (by omega) | exact y_ldI rfl rfl rfl rfl (by assumption) (by omega) (by omega))) rfl ?_
        refine s_guard2 rfl rfl (by with_reducible rfl) ?_
        refine s_q (by (first | exact y_notT rfl | exact y_notF rfl | exact y_notp rfl | exact y_notb rfl)) rfl ?_
        refine s_guard2 rfl rfl (by with_reducible rfl) ?_
        refine s_q (y_move rfl) rfl ?_
        refine s_unguard2 (b := false) rfl rfl (by with_reducible rfl) rfl rfl ?_
        refine s_unguard2 (b := false) rfl rfl (by with_reducible rfl) rfl rfl ?_
        refine s_unguard2 (b := false) rfl rfl (by with_reducible rfl) rfl rfl ?_
        refine s_unguard2 (b := false) rfl rfl (by with_reducible rfl) rfl rfl ?_
        refine s_unguard2 (b := false) rfl rfl (by with_reducible rfl) rfl rfl ?_
        refine s_guard2 rfl rfl (by with_reducible rfl) ?_
        refine s_q (by (first | exact y_pickT rfl rfl | exact y_pickF rfl rfl)) rfl ?_
        refine s_guard2 rfl rfl (by with_reducible rfl) ?_
        refine s_q (by (first | exact y_pickT rfl rfl | exact y_pickF rfl rfl)) rfl ?_
        refine s_q (by (first | exact y_pickT rfl rfl | exact y_pickF rfl rfl)) rfl ?_
        refine s_q (y_assign rfl) rfl ?_
        refine s_done ?_
        exact s_return ⟨by rw [decide_eq_true h1, decide_eq_false h2]; rfl, rfl⟩ (res_tmp Try.results53 rfl)
    | false =>
      refine s_region ?_
      refine s_q (by (first | exact y_fieldAddrB rfl rfl rfl rfl rfl rfl | exact y_fieldAddr rfl rfl rfl rfl rfl rfl)) rfl ?_
      refine s_q (by (first | exact y_ld rfl rfl rfl (by rfl) | exact y_ldN rfl rfl rfl (by rfl) | exact y_ldK rfl rfl rfl rfl (by assumption) (by omega) | exact y_ldI rfl rfl rfl rfl (by assumption) (by omega) (by omega))) rfl ?_
      refine s_q (by (first | exact y_as (y_geq rfl rfl) (congrArg Value.bool (decide_eq_true h1)) | exact y_geq rfl rfl)) rfl ?_
      refine s_q (y_move rfl) rfl ?_
      refine s_guard2 rfl rfl (by with_reducible rfl) ?_
      refine s_q (by (first | exact y_fieldAddrB rfl rfl rfl rfl rfl rfl | exact y_fieldAddr rfl rfl rfl rfl rfl rfl)) rfl ?_
      refine s_guard2 rfl rfl (by with_reducible rfl) ?_
      refine s_q (by (first | exact y_ld rfl rfl rfl (by rfl) | exact y_ldN rfl rfl rfl (by rfl) | exact y_ldK rfl rfl rfl rfl (by assumption) (by omega) | exact y_ldI rfl rfl rfl rfl (by assumption) (by omega) (by omega))) rfl ?_
      refine s_guard2 rfl rfl (by with_reducible rfl) ?_
      refine s_q (y_move rfl) rfl ?_
      refine s_unguard2 (b := false) rfl rfl (by with_reducible rfl) rfl rfl ?_
      refine s_unguard2 (b := false) rfl rfl (by with_reducible rfl) rfl rfl ?_
      refine s_unguard2 (b := false) rfl rfl (by with_reducible rfl) rfl rfl ?_
      refine s_unguard2 (b := false) rfl rfl (by with_reducible rfl) rfl rfl ?_
      refine s_guard2 rfl rfl (by with_reducible rfl) ?_
      refine s_q (by (first | exact y_pickT rfl rfl | exact y_pickF rfl rfl)) rfl ?_
      refine s_guard2 rfl rfl (by with_reducible rfl) ?_
      refine s_q (y_move rfl) rfl ?_
      refine s_guard2 rfl rfl (by with_reducible rfl) ?_
      refine s_q (by (first | exact y_fieldAddrB rfl rfl rfl rfl rfl rfl | exact y_fieldAddr rfl rfl rfl rfl rfl rfl)) rfl ?_
      refine s_guard2 rfl rfl (by with_reducible rfl) ?_
      refine s_q (by (first | exact y_ld rfl rfl rfl (by rfl) | exact y_ldN rfl rfl rfl (by rfl) | exact y_ldK rfl rfl rfl rfl (by assumption) (by omega) | exact y_ldI rfl rfl rfl rfl (by assumption) (by omega) (by omega))) rfl ?_
      refine s_guard2 rfl rfl (by with_reducible rfl) ?_
      refine s_q (by (first | exact y_notT rfl | exact y_notF rfl | exact y_notp rfl | exact y_notb rfl)) rfl ?_
      refine s_guard2 rfl rfl (by with_reducible rfl) ?_
      refine s_q (y_move rfl) rfl ?_
      refine s_guard2 rfl rfl (congrArg Value.bool (by decide)) ?_
      refine s_q (by (first | exact y_fieldAddrB rfl rfl rfl rfl rfl rfl | exact y_fieldAddr rfl rfl rfl rfl rfl rfl)) rfl ?_
      refine s_guard2 rfl rfl (congrArg Value.bool (by decide)) ?_
      refine s_q (by (first | exact y_ld rfl rfl rfl (by rfl) | exact y_ldN rfl rfl rfl (by rfl) | exact y_ldK rfl rfl rfl rfl (by assumption) (by omega) | exact y_ldI rfl rfl rfl rfl (by assumption) (by omega) (by omega))) rfl ?_
      refine s_guard2 rfl rfl (congrArg Value.bool (by decide)) ?_
      refine s_q (by (first | exact y_fieldAddrB rfl rfl rfl rfl rfl rfl | exact y_fieldAddr rfl rfl rfl rfl rfl rfl)) rfl ?_
      refine s_guard2 rfl rfl (congrArg Value.bool (by decide)) ?_
      refine s_q (by (first | exact y_ld rfl rfl rfl (by rfl) | exact y_ldN rfl rfl rfl (by rfl) | exact y_ldK rfl rfl rfl rfl (by assumption) (by omega) | exact y_ldI rfl rfl rfl rfl (by assumption) (by omega) (by omega))) rfl ?_
      refine s_guard2 rfl rfl (congrArg Value.bool (by decide)) ?_
      refine s_q (y_lss rfl rfl) rfl ?_
      refine s_guard2 rfl rfl (by with_reducible rfl) ?_
      refine s_q (by (first | exact y_pickT rfl rfl | exact y_pickF rfl rfl)) rfl ?_
      refine s_guard2 rfl rfl (by with_reducible rfl) ?_
      refine s_q (by (first | exact y_pickT rfl rfl | exact y_pickF rfl rfl)) rfl ?_
      refine s_q (by (first | exact y_pickT rfl rfl | exact y_pickF rfl rfl)) rfl ?_
      refine s_q (y_assign rfl) rfl ?_
      refine s_done ?_
      exact s_return ⟨by rw [decide_eq_true h1]; simp, rfl⟩ (res_tmp Try.results53 rfl)
  · refine s_region ?_
    refine s_q (by (first | exact y_fieldAddrB rfl rfl rfl rfl rfl rfl | exact y_fieldAddr rfl rfl rfl rfl rfl rfl)) rfl ?_
    refine s_q (by (first | exact y_ld rfl rfl rfl (by rfl) | exact y_ldN rfl rfl rfl (by rfl) | exact y_ldK rfl rfl rfl rfl (by assumption) (by omega) | exact y_ldI rfl rfl rfl rfl (by assumption) (by omega) (by omega))) rfl ?_
    refine s_q (by (first | exact y_as (y_geq rfl rfl) (congrArg Value.bool (decide_eq_false h1)) | exact y_geq rfl rfl)) rfl ?_
    refine s_q (y_move rfl) rfl ?_
    refine s_unguard2 (b := false) rfl rfl (by with_reducible rfl) rfl rfl ?_
    refine s_unguard2 (b := false) rfl rfl (by with_reducible rfl) rfl rfl ?_
    refine s_unguard2 (b := false) rfl rfl (by with_reducible rfl) rfl rfl ?_
    refine s_unguardU rfl rfl rfl ?_
    refine s_unguardU rfl rfl rfl ?_
    refine s_unguardU rfl rfl rfl ?_
    refine s_unguardU rfl rfl rfl ?_
    refine s_unguard2 (b := false) rfl rfl (by with_reducible rfl) rfl rfl ?_
    refine s_unguard2 (b := false) rfl rfl (by with_reducible rfl) rfl rfl ?_
    refine s_unguardU rfl rfl rfl ?_
    refine s_unguardU rfl rfl rfl ?_
    refine s_unguardU rfl rfl rfl ?_
    refine s_unguardU rfl rfl rfl ?_
    refine s_unguardU rfl rfl rfl ?_
    refine s_unguardU rfl rfl rfl ?_
    refine s_unguardU rfl rfl rfl ?_
    refine s_unguardU rfl rfl rfl ?_
    refine s_unguardU rfl rfl rfl ?_
    refine s_unguardU rfl rfl rfl ?_
    refine s_unguard2 (b := false) rfl rfl (by with_reducible rfl) rfl rfl ?_
    refine s_q (by (first | exact y_pickT rfl rfl | exact y_pickF rfl rfl)) rfl ?_
    refine s_q (y_assign rfl) rfl ?_
    refine s_done ?_
    exact s_return ⟨by rw [decide_eq_false h1]; rfl, rfl⟩ (res_tmp Try.results53 rfl)
theorem all_spec (w : World) (N : Nat → Prop) (m : MV) (A B G : Option Addr) (c d n g : Nat) (f : Int) (l : List LocD) (hn : n = l.length) (ho : Owns w [] N) (hk : KE 2 encLoc (false, 0) w N G l) (hlen : l.length < 100000000000000) :
    Ret Try.prog 31 [.agg (mval m A c B d).toArray, .int .i64 f, .slice G n g] w N fun v L => v = .bool (l.all (placeB m.regs f)) ∧ L = [] := by
  subst hn
  refine ret_of_J cx Try.func31 rfl (Nat.le_of_ble_eq_true rfl) ho ?_
  refine s_seq ?_
  refine s_region ?_
  first | (refine s_box1 rfl rfl rfl (fun b1 => ?_)) | (refine s_boxA rfl rfl (fun b1 => ?_))
  change J _ _ _ (cb b1 24 (mval m A c B d) :: _) _
  refine s_q (y_assign rfl) rfl ?_
  refine s_done ?_
  refine s_seq ?_
  refine s_seq ?_
  refine s_region ?_
  refine s_q (y_assign rfl) rfl ?_
  refine s_done ?_
  refine s_block ?_
  refine s_loopV (σ := Nat) (fun s => [(7, .int .i64 s)]) (fun s => []) (fun s => (s ≤ l.length) ∧ ((l.drop s).all (placeB m.regs f) = l.all (placeB m.regs f))) (fun s => l.length - s) (0) [(1, _), (2, _), (3, _)] ⟨rfl, rfl, rfl, trivial⟩ ⟨rfl, trivial⟩ tk ⟨Nat.zero_le _, rfl⟩ ?_
  rintro k ⟨hk2, hf⟩
  try dsimp only [List.cons_append, List.nil_append, List.append_nil] at hk2 hf ⊢
  refine s_seq ?_
  refine s_seq ?_
  refine s_region ?_
  refine s_q (y_move rfl) rfl ?_
  refine s_q (y_move rfl) rfl ?_
  refine s_q (y_lenS rfl rfl rfl) rfl ?_
  refine s_q (y_lss rfl rfl) rfl ?_
  refine s_done ?_
  refine s_cond rfl (fun h => ?_) (fun h => ?_)
  · have hkl : k < l.length := by omega
    rw [drop_D (false, 0) l k hkl, List.all_cons] at hf
    refine s_skip ?_
    refine s_seq ?_
    refine s_block ?_
    refine s_seq ?_
    refine d_start ?_
    refine d_take 0 rfl (by kernel_rfl) (by (first | exact y_ldN rfl rfl rfl (by rfl) | exact y_ldE hk rfl rfl rfl (by omega) rfl | exact y_ld rfl rfl rfl (by rfl) | exact y_ldN rfl rfl rfl (by rfl) | exact y_ldK rfl rfl rfl rfl (by assumption) (by omega) | exact y_ldI rfl rfl rfl rfl (by assumption) (by omega) (by omega))) rfl ?_
    refine d_take 1 rfl (by kernel_rfl) (by exact y_move rfl) rfl ?_
    refine d_take 2 rfl (by kernel_rfl) (by exact y_move rfl) rfl ?_
    refine d_take 3 rfl (by kernel_rfl) (by exact y_move rfl) rfl ?_
    refine d_take 4 rfl (by kernel_rfl) (by (first | exact y_ixE hk rfl rfl rfl rfl rfl rfl (by omega) (by omega) | exact y_ixI rfl rfl rfl rfl rfl (by assumption) rfl (by omega) (by omega))) rfl ?_
    refine d_take 5 rfl (by kernel_rfl) (by (first | exact y_ldN rfl rfl rfl (by rfl) | exact y_ldE hk rfl rfl rfl (by omega) rfl | exact y_ld rfl rfl rfl (by rfl) | exact y_ldN rfl rfl rfl (by rfl) | exact y_ldK rfl rfl rfl rfl (by assumption) (by omega) | exact y_ldI rfl rfl rfl rfl (by assumption) (by omega) (by omega))) rfl ?_
    refine d_effM 6 [5, 4, 3, 2, 1, 0] [false, true, true, true, false, false] rfl (by kernel_rfl) rfl (by kernel_rfl) (fun K hK => ?_)
    refine s_call (pre := []) (rem := _) rfl rfl tk (fun w N ho hl => place_spec w N m A B c d f _ ho) rfl ?_
    rintro e L' ⟨rfl, rfl⟩
    try simp only [List.nil_append, List.cons_append, List.append_nil]
    refine s_done ?_
    refine hK _ _ (by refine rm_skip ?_; refine rm_yd rfl (by (first | exact y_ixE hk rfl rfl rfl rfl rfl rfl (by omega) (by omega) | exact y_ixI rfl rfl rfl rfl rfl (by assumption) rfl (by omega) (by omega))) ?_; refine rm_yd rfl (by exact y_move rfl) ?_; refine rm_yd rfl (by exact y_move rfl) ?_; refine rm_skip ?_; refine rm_skip ?_; exact rm_nil) ?_
    clear hK K
    refine d_take 7 rfl (by kernel_rfl) (by (first | exact y_notT rfl | exact y_notF rfl | exact y_notp rfl | exact y_notb rfl)) rfl ?_
    refine d_done (by kernel_rfl) ?_
    cases hp : placeB m.regs f (l.getD k (false, 0)) with
    | false =>
      rw [hp] at hf
      refine s_condT2 rfl (congrArg Value.bool (by decide)) ?_
      refine s_seq ?_
      refine s_region ?_
      refine s_q (y_assign rfl) rfl ?_
      refine s_done ?_
      exact s_return ⟨by rw [← hf]; rfl, rfl⟩ (res_tmp Try.results31 rfl)
    | true =>
      rw [hp, Bool.true_and] at hf
      refine s_condF2 rfl (congrArg Value.bool (by decide)) ?_
      refine s_skip ?_
      refine s_endb ?_
      refine s_region ?_
      refine s_q (y_move rfl) rfl ?_
      refine s_q (y_add rfl rfl (by omega)) rfl ?_
      refine s_q (y_assign rfl) rfl ?_
      refine s_done ?_
      refine s_inv (k + 1) ⟨(by (try dsimp only); omega), hf⟩ (by (try dsimp only); omega) ⟨rfl, rfl, rfl, rfl, trivial⟩ tk
  · rw [List.drop_of_length_le (by omega)] at hf
    refine s_exit rfl ?_
    refine s_seq ?_
    refine s_region ?_
    refine s_q (y_assign rfl) rfl ?_
    refine s_done ?_
    exact s_return ⟨by rw [← hf]; rfl, rfl⟩ (res_tmp Try.results31 rfl)
theorem all_ok (w : World) (N : Nat → Prop) (m : MV) (A B G : Option Addr) (c d n g : Nat) (f : Int) (l : List LocD) (hn : n = l.length) (ho : Owns w [] N) (hk : KE 2 encLoc (false, 0) w N G l) (hlen : l.length < 100000000000000) (hal : l.all (placeB m.regs f) = true) :
    Ret Try.prog 31 [.agg (mval m A c B d).toArray, .int .i64 f, .slice G n g] w N fun v L => v = .bool true ∧ L = [] := by
  have := all_spec w N m A B G c d n g f l hn ho hk hlen
  rwa [hal] at this
end Go.Proofs.Ytgpebcfeeagoaaa
