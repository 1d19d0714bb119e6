/- Layer 23 (brief): briefs as data; when they are right; the walks through rising, outside, Right, and the library's ContainsFunc. -/
import Derived.Test.YtdbnlgknalencaaGreatBrgCx
import Derived.Test.YtdbnlgknalencaaGreatEEb
set_option linter.unusedVariables false
set_option linter.unusedSimpArgs false
namespace Go.Proofs.YtdbnlgknalencaaGreat
open Go Go.E
set_option maxRecDepth 4000
set_option maxHeartbeats 1000000
structure BrD where
  A : Option Addr
  c : Nat
  vars : List Int
  B : Option Addr
  d : Nat
  cols : List Int
  C : Option Addr
  e : Nat
  edge : List Int
abbrev encBr (b : BrD) : List Value := [.slice b.A b.vars.length b.c, .slice b.B b.cols.length b.d, .slice b.C b.edge.length b.e]
def BrD.no : BrD := ⟨none, 0, [], none, 0, [], none, 0, []⟩
/-- Where a brief's rows lie. -/
structure KR (w : World) (N : Nat → Prop) (b : BrD) : Prop where
  v : KI w N b.A b.vars
  c : KI w N b.B b.cols
  e : KI w N b.C b.edge
theorem KR.of {base w : World} {M N : Nat → Prop} {L : List HP} {b : BrD} (h : KR base M b) (hl : ∀ w', Since w N w' → Sat base M L w') : KR w N b := ⟨h.v.of hl, h.c.of hl, h.e.of hl⟩
/-- Their lengths are ones of this machine. -/
structure BrD.ok (b : BrD) : Prop where
  v : b.vars.length < 100000000000000
  c : b.cols.length < 100000000000000
  e : b.edge.length < 100000000000000
def risB : Int → List Int → Bool
  | _, [] => true
  | p, v :: r => decide (p < v ∧ v ≤ 200) && risB v r
def inB (lo hi : Int) (n : Int) : Bool := decide (lo ≤ n ∧ n ≤ hi)
def rightB (b : BrD) : Bool := risB 0 b.vars && (decide (b.cols.length = b.vars.length) && (decide (b.edge.length = b.vars.length) && (b.cols.all (inB (-1) 63) && b.edge.all (inB 0 1099511627776))))
theorem rising_spec (w : World) (N : Nat → Prop) (A : Option Addr) (c n : Nat) (xs : List Int) (hn : n = xs.length) (ho : Owns w [] N) (hk : KI w N A xs) (hlen : xs.length < 100000000000000) :
    Ret Tryz.prog 28 [.slice A n c] w N fun v L => v = .bool (risB 0 xs) ∧ L = [] := by
  subst hn
  refine ret_of_J cx Tryz.func28 rfl (Nat.le_of_ble_eq_true rfl) ho ?_
  refine s_seq ?_
  refine s_region ?_
  refine s_q (y_assign rfl) rfl ?_
  refine s_done ?_
  refine s_seq ?_
  refine s_region ?_
  refine s_q (y_assign rfl) rfl ?_
  refine s_done ?_
  refine s_seq ?_
  refine s_seq ?_
  refine s_region ?_
  refine s_q (y_move rfl) rfl ?_
  refine s_q (y_lenS rfl rfl rfl) rfl ?_
  refine s_q (y_move rfl) rfl ?_
  refine s_done ?_
  refine s_block ?_
  refine s_loopV (σ := Nat × Int) (fun s => [(8, .int .i64 s.1), (3, .int .i64 s.2)]) (fun s => []) (fun s => (s.1 ≤ xs.length) ∧ (risB s.2 (xs.drop s.1) = risB 0 xs)) (fun s => xs.length - s.1) (0, 0) [(6, _), (7, _)] ⟨rfl, rfl, trivial⟩ ⟨rfl, rfl, trivial⟩ tk ⟨Nat.zero_le _, rfl⟩ ?_
  rintro ⟨k, p⟩ ⟨hk2, hf⟩
  try dsimp only [List.cons_append, List.nil_append, List.append_nil] at hk2 hf ⊢
  refine s_seq ?_
  refine s_region ?_
  refine s_q (y_lss rfl rfl) rfl ?_
  refine s_done ?_
  refine s_seq ?_
  refine s_cond rfl (fun h => ?_) (fun h => ?_)
  · have hkl : k < xs.length := by omega
    rw [drop_D 0 xs k hkl, risB] at hf
    refine s_skip ?_
    refine s_seq ?_
    refine s_block ?_
    refine s_seq ?_
    refine s_region ?_
    refine s_q (by (first | exact y_ixI rfl rfl rfl rfl rfl hk rfl (by omega) (by omega) | exact y_ixI rfl rfl rfl rfl rfl (by assumption) rfl (by omega) (by omega))) rfl ?_
    refine s_q (by (first | exact y_ldK rfl rfl rfl rfl hk (by omega) | exact y_ld rfl rfl rfl (by rfl) | exact y_ldN rfl rfl rfl (by rfl) | exact y_ldK rfl rfl rfl rfl (by assumption) (by omega) | exact y_ldI rfl rfl rfl rfl (by assumption) (by omega) (by omega))) rfl ?_
    refine s_q (y_assign rfl) rfl ?_
    refine s_done ?_
    refine s_seq ?_
    refine s_seq ?_
    refine s_region ?_
    refine s_q (y_move rfl) rfl ?_
    refine s_q (y_move rfl) rfl ?_
    refine s_q (y_leq rfl rfl) rfl ?_
    refine s_q (y_move rfl) rfl ?_
    generalize xs.getD k 0 = v at hf ⊢
    first | refine J.split (t := 15) rfl (fun c1 => ?_) (fun c1 => ?_) | refine J.splitb (t := 15) rfl (fun c1 => ?_) (fun c1 => ?_)
    · skip
      refine s_unguard2 (b := true) rfl rfl rfl rfl rfl ?_
      refine s_unguard2 (b := true) rfl rfl rfl rfl rfl ?_
      refine s_q (y_pickT rfl rfl) rfl ?_
      refine s_done ?_
      refine s_condT rfl ?_
      refine s_seq ?_
      refine s_region ?_
      refine s_q (y_assign rfl) rfl ?_
      refine s_done ?_
      exact s_return ⟨(by rw [← hf, decide_eq_false (by omega)]; rfl), rfl⟩ (res_tmp Tryz.results28 rfl)
    refine s_guard rfl rfl ?_
    refine s_q (y_move rfl) rfl ?_
    refine s_guard rfl rfl ?_
    refine s_q (y_gtr rfl rfl) rfl ?_
    refine s_q (y_pickF rfl rfl) rfl ?_
    refine s_done ?_
    first | refine J.split (t := 17) rfl (fun c2 => ?_) (fun c2 => ?_) | refine J.splitb (t := 17) rfl (fun c2 => ?_) (fun c2 => ?_)
    · skip
      first | refine J.known (t := 18) (b := true) rfl (decide_eq_true c2) ?_ | refine J.known (t := 18) (b := true) rfl c2 ?_
      refine s_condT rfl ?_
      refine s_seq ?_
      refine s_region ?_
      refine s_q (y_assign rfl) rfl ?_
      refine s_done ?_
      exact s_return ⟨(by rw [← hf, decide_eq_false (by omega)]; rfl), rfl⟩ (res_tmp Tryz.results28 rfl)
    first | refine J.known (t := 18) (b := false) rfl (decide_eq_false c2) ?_ | refine J.known (t := 18) (b := false) rfl c2 ?_
    refine s_condF rfl ?_
    refine s_skip ?_
    refine s_region ?_
    refine s_q (y_move rfl) rfl ?_
    refine s_q (y_assign rfl) rfl ?_
    refine s_done ?_
    refine s_endb ?_
    refine s_region ?_
    refine s_q (y_add rfl rfl (by omega)) rfl ?_
    refine s_q (y_move rfl) rfl ?_
    refine s_done ?_
    refine s_inv (k + 1, v) ⟨(by (try dsimp only); omega), (by (try dsimp only); rw [← hf, decide_eq_true (by omega)]; rfl)⟩ (by (try dsimp only); omega) ⟨rfl, rfl, rfl, rfl, trivial⟩ tk
  · rw [List.drop_of_length_le (by omega), risB] at hf
    refine s_exit rfl ?_
    refine s_seq ?_
    refine s_region ?_
    refine s_q (y_assign rfl) rfl ?_
    refine s_done ?_
    exact s_return ⟨by rw [← hf], rfl⟩ (res_tmp Tryz.results28 rfl)
theorem outside_spec (w : World) (N : Nat → Prop) (a b : Int) (ho : Owns w [] N) : Ret Tryz.prog 30 [.int .i64 a, .int .i64 b] w N fun v L => ∃ p q, v = .func (.func 45) #[] [.pointer (some ⟨p, 0, none⟩), .pointer (some ⟨q, 0, none⟩)].toArray ∧ L = [cb q 3 [.int .i64 b], cb p 3 [.int .i64 a]] := by
  refine ret_of_J cx Tryz.func30 rfl (Nat.le_of_ble_eq_true rfl) ho ?_
  refine s_seq ?_
  refine s_region ?_
  first | (refine s_box1 rfl rfl rfl (fun p => ?_)) | (refine s_boxA rfl rfl (fun p => ?_))
  first | (refine s_box1 rfl rfl rfl (fun q => ?_)) | (refine s_boxA rfl rfl (fun q => ?_))
  refine s_q (y_assign rfl) rfl ?_
  refine s_done ?_
  refine s_seq ?_
  refine s_region ?_
  refine s_q (by (first | exact y_makeFunc rfl | exact y_move rfl | exact y_assign rfl | exact y_add rfl rfl (by omega) | exact y_sub rfl rfl (by omega) | exact y_lss rfl rfl | exact y_leq rfl rfl | exact y_gtr rfl rfl | exact y_geq rfl rfl | exact y_eql rfl rfl | exact y_neq rfl rfl | exact y_notT rfl | exact y_notF rfl | exact y_notp rfl | exact y_notb rfl | exact y_pickT rfl rfl | exact y_pickF rfl rfl | exact y_nilCheck rfl | exact y_fieldAddrB rfl rfl rfl rfl rfl rfl | exact y_fieldAddr rfl rfl rfl rfl rfl rfl | exact y_lenS rfl rfl rfl | exact y_ixI rfl rfl rfl rfl rfl (by assumption) rfl (by omega) (by omega) | exact y_ld rfl rfl rfl (by rfl) | exact y_ldN rfl rfl rfl (by rfl) | exact y_ldK rfl rfl rfl rfl (by assumption) (by omega) | exact y_ldI rfl rfl rfl rfl (by assumption) (by omega) (by omega) | exact y_extract rfl rfl | exact y_max rfl rfl | exact y_min rfl rfl | exact y_build rfl rfl rfl rfl | exact y_mul rfl rfl (by omega) | exact y_eqlB rfl rfl rfl | exact y_neqB rfl rfl rfl | exact y_sliceHi rfl rfl rfl (by omega) rfl rfl)) rfl ?_
  refine s_q (y_assign rfl) rfl ?_
  refine s_done ?_
  exact s_return ⟨p, q, rfl, rfl⟩ (res_tmp Tryz.results30 rfl)
theorem outside1_spec (w : World) (N : Nat → Prop) (a b n : Int) (p q : Nat) (ho : Owns w [star [cb q 3 [.int .i64 b], cb p 3 [.int .i64 a]]] N) :
    Ret Tryz.prog 45 ([.int .i64 n] ++ [.pointer (some ⟨p, 0, none⟩), .pointer (some ⟨q, 0, none⟩)]) w N fun v L => v = .bool (!inB a b n) ∧ L = [star [cb q 3 [.int .i64 b], cb p 3 [.int .i64 a]]] := by
  refine ret_of_J cx Tryz.func45 rfl (Nat.le_of_ble_eq_true rfl) ho ?_
  refine J.group.2 ?_
  dsimp only [List.cons_append, List.nil_append]
  refine s_seq ?_
  refine s_region ?_
  refine s_q (y_assign rfl) rfl ?_
  refine s_done ?_
  refine s_seq ?_
  refine s_region ?_
  refine s_q (y_move rfl) rfl ?_
  refine s_q (by (first | exact y_ld rfl rfl rfl (by rfl) | exact y_ldN rfl rfl rfl (by rfl) | exact y_ldK rfl rfl rfl rfl (by assumption) (by omega) | exact y_ldI rfl rfl rfl rfl (by assumption) (by omega) (by omega))) rfl ?_
  refine s_q (y_lss rfl rfl) rfl ?_
  refine s_q (y_move rfl) rfl ?_
  first | refine J.split (t := 7) rfl (fun c1 => ?_) (fun c1 => ?_) | refine J.splitb (t := 7) rfl (fun c1 => ?_) (fun c1 => ?_)
  · skip
    first | refine J.known (t := 8) (b := true) rfl (decide_eq_true c1) ?_ | refine J.known (t := 8) (b := true) rfl c1 ?_
    refine s_unguard2 (b := true) rfl rfl rfl rfl rfl ?_
    refine s_unguard2 (b := true) rfl rfl rfl rfl rfl ?_
    refine s_unguard2 (b := true) rfl rfl rfl rfl rfl ?_
    refine s_q (y_pickT rfl rfl) rfl ?_
    refine s_q (y_assign rfl) rfl ?_
    refine s_done ?_
    refine (J.group (K := [cb q 3 [.int .i64 b], cb p 3 [.int .i64 a]])).1 ?_
    exact s_return ⟨by simp [inB]; omega, rfl⟩ (res_tmp Tryz.results45 rfl)
  first | refine J.known (t := 8) (b := false) rfl (decide_eq_false c1) ?_ | refine J.known (t := 8) (b := false) rfl c1 ?_
  refine s_guard rfl rfl ?_
  refine s_q (y_move rfl) rfl ?_
  refine s_guard rfl rfl ?_
  refine s_q (by (first | exact y_ld rfl rfl rfl (by rfl) | exact y_ldN rfl rfl rfl (by rfl) | exact y_ldK rfl rfl rfl rfl (by assumption) (by omega) | exact y_ldI rfl rfl rfl rfl (by assumption) (by omega) (by omega))) rfl ?_
  refine s_guard rfl rfl ?_
  refine s_q (y_gtr rfl rfl) rfl ?_
  refine s_q (y_pickF rfl rfl) rfl ?_
  refine s_q (y_assign rfl) rfl ?_
  refine s_done ?_
  first | refine J.split (t := 11) rfl (fun c2 => ?_) (fun c2 => ?_) | refine J.splitb (t := 11) rfl (fun c2 => ?_) (fun c2 => ?_)
  · skip
    first | refine J.known (t := 4) (b := true) rfl (decide_eq_true c2) ?_ | refine J.known (t := 4) (b := true) rfl c2 ?_
    refine (J.group (K := [cb q 3 [.int .i64 b], cb p 3 [.int .i64 a]])).1 ?_
    exact s_return ⟨by simp [inB]; omega, rfl⟩ (res_tmp Tryz.results45 rfl)
  first | refine J.known (t := 4) (b := false) rfl (decide_eq_false c2) ?_ | refine J.known (t := 4) (b := false) rfl c2 ?_
  refine (J.group (K := [cb q 3 [.int .i64 b], cb p 3 [.int .i64 a]])).1 ?_
  exact s_return ⟨by simp [inB]; omega, rfl⟩ (res_tmp Tryz.results45 rfl)
def idxI (p : Int → Bool) : List Int → Int → Int
  | [], _ => -1
  | x :: xs, k => if p x = true then k else idxI p xs (k + 1)
theorem idxI_any (p : Int → Bool) : ∀ (xs : List Int) (k : Int), 0 ≤ k → (0 ≤ idxI p xs k ↔ xs.any p = true)
  | [], k, h => by simp [idxI]
  | x :: xs, k, h => by
    simp only [idxI, List.any_cons, Bool.or_eq_true]
    by_cases e : p x = true
    · simp [e, h]
    · rw [if_neg e, idxI_any p xs (k + 1) (by omega)]; simp [e]
theorem IndexFuncI_spec (w : World) (N : Nat → Prop) (A : Option Addr) (c n : Nat) (xs : List Int) (g : FuncId) (caps : List Value) (B : HP) (p : Int → Bool) (hn : n = xs.length) (hg : cx.has g = true) (hk : KI w N A xs) (ho : Owns w [B] N) (hlen : xs.length < 100000000000000)
    (hp : ∀ w' N' x, Owns w' [B] N' → Ret Tryz.prog g ([.int .i64 x] ++ caps) w' N' fun v L => v = .bool (p x) ∧ L = [B]) :
    Ret Tryz.prog 44 [.slice A n c, .func (.func g) #[] caps.toArray] w N fun v L => v = .int .i64 (idxI p xs 0) ∧ L = [B] := by
  subst hn
  refine ret_of_J cx Tryz.func44 rfl (Nat.le_of_ble_eq_true rfl) ho ?_
  refine s_seq ?_
  refine s_region ?_
  refine s_q (y_assign rfl) rfl ?_
  refine s_done ?_
  refine s_seq ?_
  refine s_seq ?_
  refine s_region ?_
  refine s_q (y_move rfl) rfl ?_
  refine s_q (y_lenS rfl rfl rfl) rfl ?_
  refine s_q (y_move rfl) rfl ?_
  refine s_done ?_
  refine s_block ?_
  refine s_loopV (σ := Nat) (fun s => [(8, .int .i64 s)]) (fun s => []) (fun s => (s ≤ xs.length) ∧ (idxI p (xs.drop s) s = idxI p xs 0)) (fun s => xs.length - s) (0) [(0, _), (1, _), (7, _)] ⟨rfl, rfl, rfl, trivial⟩ ⟨rfl, trivial⟩ tk ⟨Nat.zero_le _, rfl⟩ ?_
  rintro i ⟨hi, h1⟩
  try dsimp only [List.cons_append, List.nil_append, List.append_nil] at hi h1 ⊢
  refine s_seq ?_
  refine s_region ?_
  refine s_q (y_lss rfl rfl) rfl ?_
  refine s_done ?_
  refine s_seq ?_
  refine s_cond rfl (fun h => ?_) (fun h => ?_)
  · have hil : i < xs.length := by omega
    rw [drop_D 0 xs i hil] at h1
    simp only [idxI] at h1
    refine s_skip ?_
    refine s_seq ?_
    refine s_block ?_
    refine s_seq ?_
    refine s_region ?_
    refine s_q (y_move rfl) rfl ?_
    refine s_q (y_assign rfl) rfl ?_
    refine s_done ?_
    refine s_seq ?_
    refine s_region ?_
    refine s_q (y_move rfl) rfl ?_
    refine s_q (y_move rfl) rfl ?_
    refine s_q (y_move rfl) rfl ?_
    refine s_q (by (first | exact y_ixI rfl rfl rfl rfl rfl hk rfl (by omega) (by omega) | exact y_ixI rfl rfl rfl rfl rfl (by assumption) rfl (by omega) (by omega))) rfl ?_
    refine s_q (by (first | exact y_ldK rfl rfl rfl rfl hk (by omega) | exact y_ld rfl rfl rfl (by rfl) | exact y_ldN rfl rfl rfl (by rfl) | exact y_ldK rfl rfl rfl rfl (by assumption) (by omega) | exact y_ldI rfl rfl rfl rfl (by assumption) (by omega) (by omega))) rfl ?_
    refine s_callV (pre := [B]) (rem := []) rfl rfl hg (List.Perm.refl _) (fun w N ho hl => hp w N _ ho) rfl ?_
    rintro e L' ⟨rfl, rfl⟩
    simp only [List.append_nil]
    refine s_done ?_
    refine s_condb rfl (fun h2 => ?_) (fun h2 => ?_)
    · rw [if_pos h2] at h1
      refine s_seq ?_
      refine s_region ?_
      refine s_q (y_move rfl) rfl ?_
      refine s_q (y_assign rfl) rfl ?_
      refine s_done ?_
      exact s_return ⟨by rw [← h1], rfl⟩ (res_tmp Tryz.results44 rfl)
    · rw [if_neg (by rw [h2]; simp)] at h1
      refine s_skip ?_
      refine s_endb ?_
      refine s_region ?_
      refine s_q (y_add rfl rfl (by omega)) rfl ?_
      refine s_q (y_move rfl) rfl ?_
      refine s_done ?_
      refine s_inv (i + 1) ⟨(by (try dsimp only); omega), h1⟩ (by (try dsimp only); omega) ⟨rfl, rfl, rfl, rfl, trivial⟩ tk
  · have hil : i = xs.length := by omega
    subst hil
    refine s_exit rfl ?_
    refine s_seq ?_
    refine s_region ?_
    refine s_q (y_assign rfl) rfl ?_
    refine s_done ?_
    exact s_return ⟨by rw [← h1]; simp [idxI], rfl⟩ (res_tmp Tryz.results44 rfl)
theorem ContainsFuncI_spec (w : World) (N : Nat → Prop) (A : Option Addr) (c n : Nat) (xs : List Int) (g : FuncId) (caps : List Value) (B : HP) (p : Int → Bool) (hn : n = xs.length) (hg : cx.has g = true) (hk : KI w N A xs) (ho : Owns w [B] N) (hlen : xs.length < 100000000000000)
    (hp : ∀ w' N' x, Owns w' [B] N' → Ret Tryz.prog g ([.int .i64 x] ++ caps) w' N' fun v L => v = .bool (p x) ∧ L = [B]) :
    Ret Tryz.prog 29 [.slice A n c, .func (.func g) #[] caps.toArray] w N fun v L => v = .bool (xs.any p) ∧ L = [B] := by
  subst hn
  refine ret_of_J cx Tryz.func29 rfl (Nat.le_of_ble_eq_true rfl) ho ?_
  refine s_seq ?_
  refine s_region ?_
  refine s_q (y_assign rfl) rfl ?_
  refine s_done ?_
  refine s_seq ?_
  refine s_region ?_
  refine s_q (y_move rfl) rfl ?_
  refine s_q (y_move rfl) rfl ?_
  refine s_call (pre := [B]) (rem := _) rfl rfl tk (fun w N ho hl => IndexFuncI_spec w N A c xs.length xs g caps B p rfl hg (hk.of hl) ho hlen hp) rfl ?_
  rintro e L' ⟨rfl, rfl⟩
  try simp only [List.nil_append, List.cons_append, List.append_nil]
  refine s_q (y_geq rfl rfl) rfl ?_
  refine s_q (y_assign rfl) rfl ?_
  refine s_done ?_
  exact s_return ⟨by congr 1; rw [Bool.eq_iff_iff, decide_eq_true_iff]; exact idxI_any p xs 0 (Int.le_refl 0), rfl⟩ (res_tmp Tryz.results29 rfl)
/-- Are there numbers outside of .. to ..? -/
theorem outside_any (lo hi : Int) (xs : List Int) : xs.any (fun n => !inB lo hi n) = !xs.all (inB lo hi) := by
  rw [Bool.eq_iff_iff]; simp
theorem Right_spec (w : World) (N : Nat → Prop) (b : BrD) (ho : Owns w [] N) (hk : KR w N b) (hok : b.ok) : Ret Tryz.prog 20 [.agg (encBr b).toArray] w N fun v L => v = .bool (rightB b) ∧ L = [] := by
  have hv := hok.v
  have hc := hok.c
  have he := hok.e
  refine ret_of_J cx Tryz.func20 rfl (Nat.le_of_ble_eq_true rfl) ho ?_
  refine s_seq ?_
  refine s_region ?_
  first | (refine s_box1 rfl rfl rfl (fun b1 => ?_)) | (refine s_boxA rfl rfl (fun b1 => ?_))
  change J _ _ _ (cb b1 43 (encBr b) :: _) _
  unfold rightB
  refine s_q (y_assign rfl) rfl ?_
  refine s_done ?_
  refine s_seq ?_
  refine s_block ?_
  refine s_seq ?_
  refine s_seq ?_
  refine s_region ?_
  refine s_q (by (first | exact y_fieldAddrB rfl rfl rfl rfl rfl rfl | exact y_fieldAddr rfl rfl rfl rfl rfl rfl)) rfl ?_
  refine s_q (by (first | exact y_ld rfl rfl rfl (by rfl) | exact y_ldN rfl rfl rfl (by rfl) | exact y_ldK rfl rfl rfl rfl (by assumption) (by omega) | exact y_ldI rfl rfl rfl rfl (by assumption) (by omega) (by omega))) rfl ?_
  refine s_call (pre := []) (rem := _) rfl rfl tk (fun w N ho hl => rising_spec w N b.A b.c b.vars.length b.vars rfl ho (hk.v.of hl) hv) rfl ?_
  rintro e L' ⟨rfl, rfl⟩
  try simp only [List.nil_append, List.cons_append, List.append_nil]
  cases h1 : risB 0 b.vars with
  | false =>
    refine s_q (by (first | exact y_notT rfl | exact y_notF rfl | exact y_notp rfl | exact y_notb rfl)) rfl ?_
    refine s_q (y_assign rfl) rfl ?_
    refine s_done ?_
    refine s_condT2 rfl (by with_reducible rfl) ?_
    refine s_skip ?_
    refine s_condT2 rfl (by with_reducible rfl) ?_
    refine s_seq ?_
    refine s_region ?_
    refine s_q (y_assign rfl) rfl ?_
    refine s_done ?_
    exact s_return ⟨rfl, rfl⟩ (res_tmp Tryz.results20 rfl)
  | true =>
  refine s_q (by (first | exact y_notT rfl | exact y_notF rfl | exact y_notp rfl | exact y_notb rfl)) rfl ?_
  refine s_q (y_assign rfl) rfl ?_
  refine s_done ?_
  refine s_condF2 rfl (by with_reducible rfl) ?_
  refine s_seq ?_
  refine s_region ?_
  refine s_q (by (first | exact y_fieldAddrB rfl rfl rfl rfl rfl rfl | exact y_fieldAddr rfl rfl rfl rfl rfl rfl)) rfl ?_
  refine s_q (by (first | exact y_ld rfl rfl rfl (by rfl) | exact y_ldN rfl rfl rfl (by rfl) | exact y_ldK rfl rfl rfl rfl (by assumption) (by omega) | exact y_ldI rfl rfl rfl rfl (by assumption) (by omega) (by omega))) rfl ?_
  refine s_q (y_lenS rfl rfl rfl) rfl ?_
  refine s_q (by (first | exact y_fieldAddrB rfl rfl rfl rfl rfl rfl | exact y_fieldAddr rfl rfl rfl rfl rfl rfl)) rfl ?_
  refine s_q (by (first | exact y_ld rfl rfl rfl (by rfl) | exact y_ldN rfl rfl rfl (by rfl) | exact y_ldK rfl rfl rfl rfl (by assumption) (by omega) | exact y_ldI rfl rfl rfl rfl (by assumption) (by omega) (by omega))) rfl ?_
  refine s_q (y_lenS rfl rfl rfl) rfl ?_
  refine s_q (by (first | exact y_neq rfl rfl | exact y_neqB rfl rfl rfl)) rfl ?_
  refine s_q (y_assign rfl) rfl ?_
  refine s_done ?_
  first | refine J.split (t := 3) rfl (fun c1 => ?_) (fun c1 => ?_) | refine J.splitb (t := 3) rfl (fun c1 => ?_) (fun c1 => ?_)
  · skip
    refine s_condT rfl ?_
    refine s_skip ?_
    refine s_condT rfl ?_
    refine s_seq ?_
    refine s_region ?_
    refine s_q (y_assign rfl) rfl ?_
    refine s_done ?_
    exact s_return ⟨(by first | (rw [decide_eq_false (show ¬ b.cols.length = b.vars.length by omega)]; rfl) | (rw [decide_eq_false (show ¬ b.edge.length = b.vars.length by omega)]; simp)), rfl⟩ (res_tmp Tryz.results20 rfl)
  refine s_condF rfl ?_
  refine s_region ?_
  refine s_q (by (first | exact y_fieldAddrB rfl rfl rfl rfl rfl rfl | exact y_fieldAddr rfl rfl rfl rfl rfl rfl)) rfl ?_
  refine s_q (by (first | exact y_ld rfl rfl rfl (by rfl) | exact y_ldN rfl rfl rfl (by rfl) | exact y_ldK rfl rfl rfl rfl (by assumption) (by omega) | exact y_ldI rfl rfl rfl rfl (by assumption) (by omega) (by omega))) rfl ?_
  refine s_q (y_lenS rfl rfl rfl) rfl ?_
  refine s_q (by (first | exact y_fieldAddrB rfl rfl rfl rfl rfl rfl | exact y_fieldAddr rfl rfl rfl rfl rfl rfl)) rfl ?_
  refine s_q (by (first | exact y_ld rfl rfl rfl (by rfl) | exact y_ldN rfl rfl rfl (by rfl) | exact y_ldK rfl rfl rfl rfl (by assumption) (by omega) | exact y_ldI rfl rfl rfl rfl (by assumption) (by omega) (by omega))) rfl ?_
  refine s_q (y_lenS rfl rfl rfl) rfl ?_
  refine s_q (by (first | exact y_neq rfl rfl | exact y_neqB rfl rfl rfl)) rfl ?_
  refine s_q (y_assign rfl) rfl ?_
  refine s_done ?_
  first | refine J.split (t := 21) rfl (fun c2 => ?_) (fun c2 => ?_) | refine J.splitb (t := 21) rfl (fun c2 => ?_) (fun c2 => ?_)
  · skip
    first | refine J.known (t := 3) (b := true) rfl (decide_eq_true c2) ?_ | refine J.known (t := 3) (b := true) rfl c2 ?_
    refine s_condT rfl ?_
    refine s_seq ?_
    refine s_region ?_
    refine s_q (y_assign rfl) rfl ?_
    refine s_done ?_
    exact s_return ⟨(by first | (rw [decide_eq_false (show ¬ b.cols.length = b.vars.length by omega)]; rfl) | (rw [decide_eq_false (show ¬ b.edge.length = b.vars.length by omega)]; simp)), rfl⟩ (res_tmp Tryz.results20 rfl)
  first | refine J.known (t := 3) (b := false) rfl (decide_eq_false c2) ?_ | refine J.known (t := 3) (b := false) rfl c2 ?_
  refine s_condF rfl ?_
  refine s_skip ?_
  refine s_endb ?_
  refine s_seq ?_
  rw [decide_eq_true (show b.cols.length = b.vars.length by omega), decide_eq_true (show b.edge.length = b.vars.length by omega)]
  cases e1 : b.cols.all (inB (-1) 63) with
  | false =>
    refine d_start ?_
    refine d_take 0 rfl (by kernel_rfl) (by (first | exact y_fieldAddrB rfl rfl rfl rfl rfl rfl | exact y_fieldAddr rfl rfl rfl rfl rfl rfl)) rfl ?_
    refine d_take 1 rfl (by kernel_rfl) (by (first | exact y_ld rfl rfl rfl (by rfl) | exact y_ldN rfl rfl rfl (by rfl) | exact y_ldK rfl rfl rfl rfl (by assumption) (by omega) | exact y_ldI rfl rfl rfl rfl (by assumption) (by omega) (by omega))) rfl ?_
    refine d_effM 2 [1, 0] [true, true] rfl (by kernel_rfl) rfl (by kernel_rfl) (fun K hK => ?_)
    refine s_call (pre := []) (rem := _) rfl rfl tk (fun w N ho hl => outside_spec w N (-1) 63 ho) rfl ?_
    rintro e L' ⟨p, q, rfl, rfl⟩
    try simp only [List.nil_append, List.cons_append, List.append_nil]
    refine s_done ?_
    refine hK _ _ (by refine rm_yd rfl (by (first | exact y_ld rfl rfl rfl (by rfl) | exact y_ldN rfl rfl rfl (by rfl) | exact y_ldK rfl rfl rfl rfl (by assumption) (by omega) | exact y_ldI rfl rfl rfl rfl (by assumption) (by omega) (by omega))) ?_; refine rm_yd rfl (by (first | exact y_fieldAddrB rfl rfl rfl rfl rfl rfl | exact y_fieldAddr rfl rfl rfl rfl rfl rfl)) ?_; exact rm_nil) ?_
    clear hK K
    refine d_effM 3 [1, 0] [false, true] rfl (by kernel_rfl) rfl (by kernel_rfl) (fun K hK => ?_)
    refine (J.group (K := [cb q 3 [.int .i64 63], cb p 3 [.int .i64 (-1)]])).1 ?_
    refine s_call (pre := [star [cb q 3 [.int .i64 63], cb p 3 [.int .i64 (-1)]]]) (rem := _) rfl rfl tk (fun w N ho hl => ContainsFuncI_spec w N b.B b.d b.cols.length b.cols 45 _ _ _ rfl rfl (hk.c.of hl) ho hc (fun w' N' x ho' => outside1_spec w' N' (-1) 63 x p q ho')) rfl ?_
    rintro e L' ⟨rfl, rfl⟩
    try simp only [List.nil_append, List.cons_append, List.append_nil]
    rw [outside_any, e1]
    refine s_done ?_
    refine hK _ _ (by refine rm_skip ?_; refine rm_yd rfl (by (first | exact y_fieldAddrB rfl rfl rfl rfl rfl rfl | exact y_fieldAddr rfl rfl rfl rfl rfl rfl)) ?_; exact rm_nil) ?_
    clear hK K
    refine d_take 4 rfl (by kernel_rfl) (by (first | exact y_notT rfl | exact y_notF rfl | exact y_notp rfl | exact y_notb rfl)) rfl ?_
    refine d_take 5 rfl (by kernel_rfl) (by exact y_move rfl) rfl ?_
    refine d_skip 6 rfl (by kernel_rfl) (fun c e => by cases e) rfl rfl rfl rfl ?_
    refine d_skip 7 rfl (by kernel_rfl) (fun c e => by cases e) rfl rfl rfl rfl ?_
    refine d_skip 8 rfl (by kernel_rfl) (fun c e => by cases e) rfl rfl rfl rfl ?_
    refine d_skip 9 rfl (by kernel_rfl) (fun c e => by cases e) rfl rfl rfl rfl ?_
    refine d_skip 10 rfl (by kernel_rfl) (fun c e => by cases e) rfl rfl rfl rfl ?_
    refine d_take 11 rfl (by kernel_rfl) (by (first | exact y_pickT rfl rfl | exact y_pickF rfl rfl)) rfl ?_
    refine d_take 12 rfl (by kernel_rfl) (by exact y_assign rfl) rfl ?_
    refine d_done (by kernel_rfl) ?_
    exact s_return ⟨rfl, rfl⟩ (res_tmp Tryz.results20 rfl)
  | true =>
    refine d_start ?_
    refine d_take 0 rfl (by kernel_rfl) (by (first | exact y_fieldAddrB rfl rfl rfl rfl rfl rfl | exact y_fieldAddr rfl rfl rfl rfl rfl rfl)) rfl ?_
    refine d_take 1 rfl (by kernel_rfl) (by (first | exact y_ld rfl rfl rfl (by rfl) | exact y_ldN rfl rfl rfl (by rfl) | exact y_ldK rfl rfl rfl rfl (by assumption) (by omega) | exact y_ldI rfl rfl rfl rfl (by assumption) (by omega) (by omega))) rfl ?_
    refine d_effM 2 [1, 0] [true, true] rfl (by kernel_rfl) rfl (by kernel_rfl) (fun K hK => ?_)
    refine s_call (pre := []) (rem := _) rfl rfl tk (fun w N ho hl => outside_spec w N (-1) 63 ho) rfl ?_
    rintro e L' ⟨p, q, rfl, rfl⟩
    try simp only [List.nil_append, List.cons_append, List.append_nil]
    refine s_done ?_
    refine hK _ _ (by refine rm_yd rfl (by (first | exact y_ld rfl rfl rfl (by rfl) | exact y_ldN rfl rfl rfl (by rfl) | exact y_ldK rfl rfl rfl rfl (by assumption) (by omega) | exact y_ldI rfl rfl rfl rfl (by assumption) (by omega) (by omega))) ?_; refine rm_yd rfl (by (first | exact y_fieldAddrB rfl rfl rfl rfl rfl rfl | exact y_fieldAddr rfl rfl rfl rfl rfl rfl)) ?_; exact rm_nil) ?_
    clear hK K
    refine d_effM 3 [1, 0] [false, true] rfl (by kernel_rfl) rfl (by kernel_rfl) (fun K hK => ?_)
    refine (J.group (K := [cb q 3 [.int .i64 63], cb p 3 [.int .i64 (-1)]])).1 ?_
    refine s_call (pre := [star [cb q 3 [.int .i64 63], cb p 3 [.int .i64 (-1)]]]) (rem := _) rfl rfl tk (fun w N ho hl => ContainsFuncI_spec w N b.B b.d b.cols.length b.cols 45 _ _ _ rfl rfl (hk.c.of hl) ho hc (fun w' N' x ho' => outside1_spec w' N' (-1) 63 x p q ho')) rfl ?_
    rintro e L' ⟨rfl, rfl⟩
    try simp only [List.nil_append, List.cons_append, List.append_nil]
    rw [outside_any, e1]
    refine s_done ?_
    refine hK _ _ (by refine rm_skip ?_; refine rm_yd rfl (by (first | exact y_fieldAddrB rfl rfl rfl rfl rfl rfl | exact y_fieldAddr rfl rfl rfl rfl rfl rfl)) ?_; exact rm_nil) ?_
    clear hK K
    refine d_take 4 rfl (by kernel_rfl) (by (first | exact y_notT rfl | exact y_notF rfl | exact y_notp rfl | exact y_notb rfl)) rfl ?_
    refine d_take 5 rfl (by kernel_rfl) (by exact y_move rfl) rfl ?_
    refine d_takeG 6 rfl (by kernel_rfl) rfl rfl (by (first | exact y_fieldAddrB rfl rfl rfl rfl rfl rfl | exact y_fieldAddr rfl rfl rfl rfl rfl rfl)) rfl ?_
    refine d_takeG 7 rfl (by kernel_rfl) rfl rfl (by (first | exact y_ld rfl rfl rfl (by rfl) | exact y_ldN rfl rfl rfl (by rfl) | exact y_ldK rfl rfl rfl rfl (by assumption) (by omega) | exact y_ldI rfl rfl rfl rfl (by assumption) (by omega) (by omega))) rfl ?_
    refine d_effM 8 [7, 6, 5, 4, 0] [true, true, false, true, true] rfl (by kernel_rfl) rfl (by kernel_rfl) (fun K hK => ?_)
    refine s_guard rfl rfl ?_
    refine s_call (pre := []) (rem := _) rfl rfl tk (fun w N ho hl => outside_spec w N 0 1099511627776 ho) rfl ?_
    rintro e L' ⟨p, q, rfl, rfl⟩
    try simp only [List.nil_append, List.cons_append, List.append_nil]
    refine s_done ?_
    refine hK _ _ (by refine rm_yd rfl (by (first | exact y_ld rfl rfl rfl (by rfl) | exact y_ldN rfl rfl rfl (by rfl) | exact y_ldK rfl rfl rfl rfl (by assumption) (by omega) | exact y_ldI rfl rfl rfl rfl (by assumption) (by omega) (by omega))) ?_; refine rm_yd rfl (by (first | exact y_fieldAddrB rfl rfl rfl rfl rfl rfl | exact y_fieldAddr rfl rfl rfl rfl rfl rfl)) ?_; refine rm_skip ?_; refine rm_yd rfl (by (first | exact y_notT rfl | exact y_notF rfl | exact y_notp rfl | exact y_notb rfl)) ?_; refine rm_yd rfl (by (first | exact y_fieldAddrB rfl rfl rfl rfl rfl rfl | exact y_fieldAddr rfl rfl rfl rfl rfl rfl)) ?_; exact rm_nil) ?_
    clear hK K
    refine d_effM 9 [7, 6, 4, 0] [false, true, true, true] rfl (by kernel_rfl) rfl (by kernel_rfl) (fun K hK => ?_)
    refine s_guard rfl rfl ?_
    refine (J.group (K := [cb q 3 [.int .i64 1099511627776], cb p 3 [.int .i64 0]])).1 ?_
    refine s_call (pre := [star [cb q 3 [.int .i64 1099511627776], cb p 3 [.int .i64 0]]]) (rem := _) rfl rfl tk (fun w N ho hl => ContainsFuncI_spec w N b.C b.e b.edge.length b.edge 45 _ _ _ rfl rfl (hk.e.of hl) ho he (fun w' N' x ho' => outside1_spec w' N' 0 1099511627776 x p q ho')) rfl ?_
    rintro e L' ⟨rfl, rfl⟩
    try simp only [List.nil_append, List.cons_append, List.append_nil]
    rw [outside_any]
    refine s_done ?_
    refine hK _ _ (by refine rm_skip ?_; refine rm_yd rfl (by (first | exact y_fieldAddrB rfl rfl rfl rfl rfl rfl | exact y_fieldAddr rfl rfl rfl rfl rfl rfl)) ?_; refine rm_yd rfl (by (first | exact y_notT rfl | exact y_notF rfl | exact y_notp rfl | exact y_notb rfl)) ?_; refine rm_yd rfl (by (first | exact y_fieldAddrB rfl rfl rfl rfl rfl rfl | exact y_fieldAddr rfl rfl rfl rfl rfl rfl)) ?_; exact rm_nil) ?_
    clear hK K
    refine d_takeG 10 rfl (by kernel_rfl) rfl rfl (by (first | exact y_notT rfl | exact y_notF rfl | exact y_notp rfl | exact y_notb rfl)) rfl ?_
    refine d_take 11 rfl (by kernel_rfl) (by (first | exact y_pickT rfl rfl | exact y_pickF rfl rfl)) rfl ?_
    refine d_take 12 rfl (by kernel_rfl) (by exact y_assign rfl) rfl ?_
    refine d_done (by kernel_rfl) ?_
    exact s_return ⟨by simp, rfl⟩ (res_tmp Tryz.results20 rfl)
end Go.Proofs.YtdbnlgknalencaaGreat
