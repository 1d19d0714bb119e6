/- The proof kit E, in parts. -/
import Derived.Test.YtgpebcfeeagoaaaEEb
import Derived.OpenShut
import Derived.ChangeKeysEq
/- Kit E, part 24: rows of structs of the call's own: read, written, grown; many rows. -/
set_option linter.unusedVariables false
namespace Go.E
open Go Go.RowKit
theorem flatAt {α : Type} {sz : Nat} {enc : α → List Value} (he : ∀ x, (enc x).length = sz) (dd : α) : ∀ (xs : List α) (i j : Nat) (u : Value), i < xs.length → (enc (xs.getD i dd))[j]? = some u → (xs.flatMap enc)[i * sz + j]? = some u
  | [], i, j, u, h, _ => by simp at h
  | x :: xs, 0, j, u, _, hj => by
    have hj' : (enc x)[j]? = some u := hj
    rw [List.flatMap_cons, Nat.zero_mul, Nat.zero_add, List.getElem?_append_left (List.getElem?_eq_some_iff.1 hj').1]
    exact hj'
  | x :: xs, i + 1, j, u, h, hj => by
    rw [List.flatMap_cons, List.getElem?_append_right (by rw [he, Nat.add_mul]; omega), he, show (i + 1) * sz + j - sz = i * sz + j by rw [Nat.add_mul]; omega]
    exact flatAt he dd xs i j u (by simpa using h) (by simpa using hj)
theorem flatSet {α : Type} {sz : Nat} {enc : α → List Value} (he : ∀ x, (enc x).length = sz) (dd : α) (y : α) (off : Nat) (v : Value) (hoff : off < sz) : ∀ (xs : List α) (k : Nat), k < xs.length → enc y = (enc (xs.getD k dd)).set off v → (xs.flatMap enc).set (k * sz + off) v = (xs.set k y).flatMap enc
  | [], k, h, _ => by simp at h
  | x :: xs, 0, _, hy => by
    have hy' : enc y = (enc x).set off v := hy
    rw [List.flatMap_cons, Nat.zero_mul, Nat.zero_add, List.set_append_left _ _ (by rw [he]; exact hoff), List.set_cons_zero, List.flatMap_cons, hy']
  | x :: xs, k + 1, h, hy => by
    rw [List.flatMap_cons, List.set_append_right _ _ (by rw [he, Nat.add_mul]; omega), he, show (k + 1) * sz + off - sz = k * sz + off by rw [Nat.add_mul]; omega, List.set_cons_succ, List.flatMap_cons, flatSet he dd y off v hoff xs k (by simpa using h) (by simpa using hy)]
theorem keOfC {α : Type} {sz : Nat} {enc : α → List Value} {dd : α} {base w : World} {M N : Nat → Prop} {L : List HP} {T b : Nat} {xs : List α} (he : ∀ x, (enc x).length = sz) (hl : ∀ w', Since w N w' → Sat base M L w') (hm : cb b T (xs.flatMap enc) ∈ L) : KE sz enc dd w N (some ⟨b, 0, none⟩) xs := fun w' h' i hi => by
  refine ⟨_, rfl, fun j u hj => ?_⟩
  have := (hl w' h').cbcell hm (o := i * sz + j) (flatAt he dd xs i j u hi hj)
  rw [addr_add, Nat.zero_add]; exact this
theorem kiOfC {base w : World} {M N : Nat → Prop} {L : List HP} {T b : Nat} {xs : List Int} (hl : ∀ w', Since w N w' → Sat base M L w') (hm : cb b T (ints xs) ∈ L) : KI w N (some ⟨b, 0, none⟩) xs := fun w' h' i hi => by
  have := (hl w' h').cbcell hm (o := i) (ints_get hi)
  refine ⟨_, rfl, ?_⟩
  rw [addr_add, Nat.zero_add]; exact this
theorem Sat.slE {α : Type} {sz : Nat} {enc : α → List Value} {dd : α} {base w : World} {M : Nat → Prop} {L : List HP} {e n c : Nat} {A : Option Addr} {xs : List α} (he : ∀ x, (enc x).length = sz) (h0 : 0 < sz) (hs : Sat base M L w) (hm : Sl e sz A n c (xs.flatMap enc) ∈ L) : RdE sz enc dd w A xs := fun i hi => by
  have hlen := flat_length he xs
  have hpos : 0 < (xs.flatMap enc).length := by rw [hlen]; exact Nat.mul_pos (by omega) h0
  obtain ⟨ad, hA, _⟩ := hs.slRd hm 0 ((xs.flatMap enc)[0]) (List.getElem?_eq_getElem hpos)
  refine ⟨ad, hA, fun j u hj => ?_⟩
  obtain ⟨ad', hA', hc⟩ := hs.slRd hm (i * sz + j) u (flatAt he dd xs i j u hi hj)
  rw [hA] at hA'; cases hA'
  exact hc
theorem keOfS {α : Type} {sz : Nat} {enc : α → List Value} {dd : α} {base w : World} {M N : Nat → Prop} {L : List HP} {e n c : Nat} {A : Option Addr} {xs : List α} (he : ∀ x, (enc x).length = sz) (h0 : 0 < sz) (hl : ∀ w', Since w N w' → Sat base M L w') (hm : Sl e sz A n c (xs.flatMap enc) ∈ L) : KE sz enc dd w N A xs := fun w' h' => (hl w' h').slE he h0 hm
theorem keOfBs {α : Type} {sz : Nat} {enc : α → List Value} {dd : α} {base w : World} {M N : Nat → Prop} {L : List HP} {f : Nat → HP} {n j e nn c : Nat} {A : Option Addr} {xs : List α} (he : ∀ x, (enc x).length = sz) (h0 : 0 < sz) (hl : ∀ w', Since w N w' → Sat base M L w') (hm : bs f n ∈ L) (hj : j < n) (hf : f j = Sl e sz A nn c (xs.flatMap enc)) : KE sz enc dd w N A xs := fun w' h' => by
  obtain ⟨R, h⟩ := (hl w' h').focus hj hm
  rw [hf] at h
  exact h.slE he h0 List.mem_cons_self
section
variable {P : Program} {fr : Fr P} {ds : List Deferred} {ρ : Env} {L : List HP} {k : List It}
theorem bs_snoc {f : Nat → HP} {n : Nat} (hp : Hp) : bs f (n + 1) hp ↔ star [f n, bs f n] hp := by
  rw [star_pair]
  unfold bs
  rw [List.range_succ, List.map_append, star_append]
  constructor
  · rintro ⟨h1, h2, a, b, d, rfl⟩
    exact ⟨h2, h1, star_one.1 b, a, d.symm, Hp.add_comm d⟩
  · rintro ⟨h1, h2, a, b, d, rfl⟩
    exact ⟨h2, h1, b, star_one.2 a, d.symm, Hp.add_comm d⟩
theorem J.bsSnoc {f : Nat → HP} {A : HP} {n : Nat} (g : Nat → HP) (hA : A = g n) (hg : ∀ i, i < n → f i = g i) (h : J fr ds ρ (bs g (n + 1) :: L) k) : J fr ds ρ (A :: bs f n :: L) k := by
  have e : bs f n = bs g n := by
    unfold bs
    congr 1
    exact List.map_congr_left fun x hx => hg x (List.mem_range.1 hx)
  have h2 : J fr ds ρ (star [A, bs f n] :: L) k := J.imp (B := bs g (n + 1)) (fun hp hh => by rw [hA, e] at hh; exact (bs_snoc hp).2 hh) h
  exact (J.group (K := [A, bs f n])).1 h2
/-- An element of one cell is written into a row that is owned, whole. -/
theorem s_storeSlG {all : Array Oper} {rest : List Oper} {ty : TypeId} {pos : String} {af : Array Edge} {t : TypeId} {x y : Operand} {it : Ty} {ib : Nat} {iv : List Value} {A : Option Addr} {e n c : Nat} {xs : List Value} {rem : List HP} {v : Value} {ad : Addr} {sz : Nat} (ix : Nat)
    (hx : ρ.ev x = some (.pointer (some ad))) (had : ∀ g, A = some ⟨g, 0, none⟩ → ad = ⟨g, ix, none⟩) (hy : ρ.ev y = some v) [hm : UpdS A e sz n c xs L rem]
    (ht : fr.X.tab[t]? = some (some ⟨it, 1, ib, iv⟩)) (hv : Value.one v = true) (hq : ix < xs.length)
    (h : J fr ds ρ (Sl e sz A n c (xs.set ix v) :: rem) (.ops all rest :: k)) : J fr ds ρ L (.ops all (⟨none, .store t x y, ty, pos, af, none⟩ :: rest) :: k) :=
  s_eff0 (fun c e => by cases e) fun a w ha hw o' hop _ => by
    have hw' := hw.perm hm.perm
    have hsz := run_sizeOf (w := w) (fr.X.ti ht)
    obtain ⟨hl, -⟩ := Sl.facts (e := e) (sz := sz) (A := A) (n := n) (c := c) (vs := xs) _ (hw'.has List.mem_cons_self).choose_spec.1
    have hd : Sl e sz A n c xs (hw'.has List.mem_cons_self).choose ∧ _ := (hw'.has (A := Sl e sz A n c xs) List.mem_cons_self).choose_spec
    obtain ⟨⟨h1, h2, h3, h4⟩, hin⟩ := hd
    rcases h4 with ⟨_, hc0, _⟩ | ⟨g, cur, rfl, hh, h5, h6⟩
    · rw [hc0] at h2; have : n = 0 := by omega
      rw [this, Nat.zero_mul] at h1; omega
    have hat : w.heap[g]? = some (.cells cur.toList.toArray e (0, 0)) := by
      have := hin g (.cells cur e (0, 0)) (by rw [hh]; simp [Hp.one])
      simpa using this
    have hlt : ix < cur.toList.length := by
      have := congrArg List.length h6
      rw [List.length_take] at this
      omega
    have hst := run_store1 (P := P) (o := ix) hat hlt hv
    refine ⟨.skip, w.setCell ⟨g, ix, none⟩ v, Sl e sz (some ⟨g, 0, none⟩) n c (xs.set ix v) :: rem, ?_, .inl rfl, ?_, h⟩
    · unfold execOp; rw [hop]
      have hx' : ρ.ev x = some (.pointer (some ⟨g, ix, none⟩)) := by rw [hx, had g rfl]
      simp [ha.ev hx', ha.ev hy, Instr.storeAt, Instr.sureAddr, storeVar, hsz, one_cell hv, storeCells, hst, addr_add]
    · refine hw'.turn1 (fun k1 hk1 hi1 => ?_) (by simp) rfl rfl rfl
      obtain ⟨_, _, _, h4⟩ := hk1
      rcases h4 with ⟨hn, _, _⟩ | ⟨g', cur', hg, rfl, h5', h6'⟩
      · cases hn
      cases hg
      have hcur : cur' = cur := by
        have := hi1 g (.cells cur' e (0, 0)) (by simp [Hp.one])
        rw [hat] at this; cases this; simp
      subst hcur
      refine ⟨Hp.one g (.cells (cur'.toList.set ix v).toArray e (0, 0)), ⟨by simpa using h1, h2, h3, .inr ⟨g, _, rfl, rfl, by simpa using h5, ?_⟩⟩, fun b o hb => ?_, fun b o hb => ?_, fun b hb hn => ?_⟩
      · rw [List.length_set, List.take_set, h6]
      · simp only [Hp.one] at hb
        split at hb
        · rename_i e1; cases hb; rw [e1]; exact setCell_heap hat
        · cases hb
      · right
        simp only [Hp.one] at hb ⊢
        split at hb
        · rename_i e1; simp [e1]
        · cases hb
      · refine Below.heap_setCell w _ v b ?_
        intro e1; simp [Hp.one, e1] at hn
theorem s_storeSlF {all : Array Oper} {rest : List Oper} {ty : TypeId} {pos : String} {af : Array Edge} {t : TypeId} {x y : Operand} {it : Ty} {ib : Nat} {iv : List Value} {A : Option Addr} {e n c sz off : Nat} {xs : List Value} {rem : List HP} {v : Value} {q : Int}
    (hx : ρ.ev x = some (.pointer (some (((A.getD default).add (q.toNat * sz)).add off)))) (hy : ρ.ev y = some v) [hm : UpdS A e sz n c xs L rem]
    (ht : fr.X.tab[t]? = some (some ⟨it, 1, ib, iv⟩)) (hv : Value.one v = true) (hq : q.toNat * sz + off < xs.length)
    (h : J fr ds ρ (Sl e sz A n c (xs.set (q.toNat * sz + off) v) :: rem) (.ops all rest :: k)) : J fr ds ρ L (.ops all (⟨none, .store t x y, ty, pos, af, none⟩ :: rest) :: k) :=
  s_storeSlG (q.toNat * sz + off) hx (fun g hg => by rw [hg, Option.getD_some, addr_add, addr_add]; simp) hy ht hv hq h
/-- A field of an element of an owned row. -/
theorem y_ldOF {ty : TypeId} {t : TypeId} {x : Operand} {i : TI} {A : Option Addr} {e n c sz off : Nat} {q : Nat} {xs : List Value} {v : Value} (hx : ρ.ev x = some (.pointer (some (((A.getD default).add ((q : Int).toNat * sz)).add off)))) (ht : fr.X.tab[t]? = some (some i)) (hi : i.ty.agg = false)
    [hm : HasS A e sz n c xs L] (hv : xs[q * sz + off]? = some v) : Yd fr ds ρ L (.load t x) ty v :=
  y_load1 hx ht hi fun w hw => by
    obtain ⟨ad, rfl, hc⟩ := hw.slRd hm.mem _ _ hv
    rw [Option.getD_some, addr_add_add]
    simpa using hc
end
end Go.E

/- Kit E, part 25: parameters opened: rows whose elements have a fact each; arrays of two numbers. -/
set_option linter.unusedVariables false
namespace Go.E
open Go Go.ChangeShapes Go.WideShapes
section
variable {H : Type} {enc : TypeId × Value → H} {P : Program} {w : World} {base : Nat} {spare : Nat → Bool} {held : Bool} {fuel : Nat} {t e : TypeId} {cs : List Value} {x : DataW H × List MemPlace}
/-- A slice of elements of one form. -/
theorem opened_rowQ {α : Type} {en : α → List Value} (dd : α) {Q : α → Prop} {sz B : Nat} (ht : P.underlying t = some (.slice e)) (hc : P.cellsOf e = sz) (hB : P.bytesOf e = B) (hlen : ∀ a, (en a).length = sz)
    (hel : ∀ fuel cs y, DataW.trod enc P w base spare held fuel e cs = some y → okW P e y.1 → ∃ a, cs = en a ∧ Q a) (h : DataW.trod enc P w base spare held fuel t cs = some x) (hw : okW P t x.1) :
    ∃ (A : Option Addr) (c : Nat) (xs : List α), cs = [.slice A xs.length c] ∧ RdE sz en dd w A xs ∧ (∀ x ∈ xs, Q x) ∧ xs.length * B ≤ 140737488351232 := by
  rcases DataW.trod_slice ht h with ⟨rfl, rfl⟩ | ⟨a, len, cap, elems, rest, n, rfl, rfl, rfl, hb, hl, hm, hlen', hel', hsp, hns⟩
  · exact ⟨none, 0, [], rfl, fun i hi => absurd hi (Nat.not_lt_zero i), by simp, by simp⟩
  · have key : ∀ i, i < len → ∃ v : α, Q v ∧ ∀ j u, (en v)[j]? = some u → w.cell? (a.add (i * sz + j)) = some u := fun i hi => by
      have h1 := hel' i hi
      have hei : i < elems.length := by omega
      rw [List.getElem?_eq_getElem hei, hc, Option.bind_eq_some_iff] at h1
      obtain ⟨cs', hcs, hy⟩ := h1
      obtain ⟨v, rfl, hq⟩ := hel n cs' _ hy (fun m hm => hw m (by
        simp only [DataW.weights, ht]
        refine List.mem_cons_of_mem _ (List.mem_append_left _ ?_)
        have : ∀ (l : List (DataW H × List MemPlace)) (i : Nat) (hi : i < l.length), m ∈ (l[i].1).weights P e → m ∈ DataW.weightsAll P e (l.map (·.1)) := by
          intro l
          induction l with
          | nil => intro i hi; simp at hi
          | cons y l ih =>
            intro i hi hm
            simp only [List.map_cons, DataW.weightsAll, List.mem_append]
            cases i with
            | zero => exact .inl hm
            | succ i => exact .inr (ih i (by simpa using hi) hm)
        exact this elems i hei hm))
      obtain ⟨_, hl1, hcell⟩ := World.cells?_some hcs
      refine ⟨v, hq, fun j u hj => ?_⟩
      have hjlt : j < sz := by rw [← hl1]; exact (List.getElem?_eq_some_iff.1 hj).1
      have := hcell j hjlt
      rw [addr_add_add] at this
      rw [this, hj]
    have hch : ∃ f : Nat → α, ∀ i, i < len → Q (f i) ∧ ∀ j u, (en (f i))[j]? = some u → w.cell? (a.add (i * sz + j)) = some u :=
      ⟨fun i => if hi : i < len then Classical.choose (key i hi) else dd, fun i hi => by dsimp only; rw [dif_pos hi]; exact Classical.choose_spec (key i hi)⟩
    obtain ⟨f, hf⟩ := hch
    refine ⟨some a, cap, (List.range len).map f, by simp, fun i hi => ⟨a, rfl, fun j u hj => ?_⟩, fun x hx => ?_, ?_⟩
    · have hi' : i < len := by simpa using hi
      have e1 : ((List.range len).map f).getD i dd = f i := by simp [List.getD_eq_getElem?_getD, hi']
      rw [e1] at hj
      exact (hf i hi').2 j u hj
    · obtain ⟨i, hi, rfl⟩ := List.mem_map.1 hx
      exact (hf i (List.mem_range.1 hi)).1
    · have hmem : (elems.length + rest.length) * B ≤ reachBytes := by
        refine hw _ ?_
        simp only [DataW.weights, ht, hB, List.length_map]
        exact List.mem_cons_self
      have : ((List.range len).map f).length * B ≤ (elems.length + rest.length) * B := Nat.mul_le_mul_right _ (by simp; omega)
      exact Nat.le_trans this hmem
/-- A slice of numbers, its capacity told. -/
theorem opened_intsC {B : Nat} (ht : P.underlying t = some (.slice e)) (he : P.underlying e = some (.int .i64)) (hc : P.cellsOf e = 1) (hB : P.bytesOf e = B) (h : DataW.trod enc P w base spare held fuel t cs = some x) (hw : okW P t x.1) :
    ∃ (A : Option Addr) (c : Nat) (xs : List Int), cs = [.slice A xs.length c] ∧ RdI w A xs ∧ xs.length * B ≤ 140737488351232 ∧ xs.length ≤ c := by
  rcases open_ints ht he hc h with ⟨rfl, rfl⟩ | ⟨a, len, cap, zs, rfl, hb, hl, hm, hz, rfl, hcell, hwf⟩
  · exact ⟨none, 0, [], rfl, fun i hi => absurd hi (Nat.not_lt_zero i), by simp, by simp⟩
  · have hle : len ≤ zs.length := by rw [hz]; split <;> omega
    have hlen : (zs.take len).length = len := by rw [List.length_take]; omega
    refine ⟨some a, cap, zs.take len, by rw [hlen], fun i hi => ⟨a, rfl, ?_⟩, ?_, by rw [hlen]; exact hl⟩
    · rw [hlen] at hi
      have := hcell i (by omega)
      rw [this, List.getD_eq_getElem?_getD, List.getD_eq_getElem?_getD, List.getElem?_take_of_lt hi]
    · rw [hlen]
      have hmem : (zs.length) * B ≤ reachBytes := by
        refine hw _ ?_
        simp only [DataW.weights, ht, hB]
        refine List.mem_cons.2 (.inl ?_)
        congr 1
        simp [lits]; omega
      exact Nat.le_trans (Nat.mul_le_mul_right _ hle) hmem
theorem take1c {cs : List Value} {o s : Nat} {y : Value} (hs : s = 1) (h : (cs.drop o).take s = [y]) : cs[o]? = some y := by
  subst hs
  have : ((cs.drop o).take 1)[0]? = some y := by rw [h]; rfl
  rwa [List.getElem?_take_of_lt (by omega), List.getElem?_drop, Nat.add_zero] at this
theorem lit64 {n : Int} (h : (Lit.int .i64 n).wf = true) : -9223372036854775808 ≤ n ∧ n ≤ 9223372036854775807 := by
  simp only [Lit.wf, Bool.and_eq_true, decide_eq_true_eq] at h
  exact h
theorem opened_arr2 (ht : P.underlying t = some (.array 2 e)) (he : P.underlying e = some (.int .i64)) (hc : P.cellsOf e = 1) (hc2 : P.cellsOf t = 2) (h : DataW.trod enc P w base spare held fuel t cs = some x) : ∃ a b : Int, cs = [.int .i64 a, .int .i64 b] := by
  obtain ⟨xs, m, rfl, rfl, hl, hn, hx⟩ := DataW.trod_array ht h
  rw [hc2] at hl
  match cs, hl with
  | [u, v], _ =>
    have h0 := hx 0 (by omega)
    have h1 := hx 1 (by omega)
    rw [List.getElem?_eq_getElem (by omega)] at h0 h1
    obtain ⟨a, e0, _⟩ := opened_int he h0
    obtain ⟨b, e1, _⟩ := opened_int he h1
    rw [hc] at e0 e1
    have e0' : u = .int .i64 a := by simpa using e0
    have e1' : v = .int .i64 b := by simpa using e1
    exact ⟨a, b, by rw [e0', e1']⟩
end
end Go.E

/- Kit E, part 26: strings: how long, which byte, compared. -/
set_option linter.unusedVariables false
namespace Go.E
open Go
section
variable {P : Program} {fr : Fr P} {ds : List Deferred} {ρ : Env} {L : List HP} {ty : TypeId}
theorem y_lenStr {t1 : TypeId} {x : Operand} {s : ByteArray} {i : TI} (hx : ρ.ev x = some (.string s)) (ht : fr.X.tab[t1]? = some (some i)) (hi : i.ty = .str) :
    Yd fr ds ρ L (.call ⟨.builtin .len, #[x], #[t1]⟩) ty (.int .i64 s.size) :=
  exec_v (fun c e => by cases e) fun a w ha _ _ _ _ _ => by
    obtain ⟨d, inf, z, g1, g2, g3, g4, g5, g6, g7⟩ := TI.of_spec (fr.X.ti ht)
    rw [hi] at g4
    have hu : P.underlying t1 = some .string := by rw [g1]; cases d <;> first | rfl | cases g4
    simp [execOp, resolve, invoke, builtin, Builtin.len_, ha.ev hx, run_underlying hu, goInt]
theorem y_indexStr {t1 : TypeId} {x ix : Operand} {s : ByteArray} {i : TI} {kd : IntKind} {q : Int} {b : UInt8} (hx : ρ.ev x = some (.string s)) (hix : ρ.ev ix = some (.int kd q)) (ht : fr.X.tab[t1]? = some (some i)) (hi : i.ty = .str)
    (h0 : 0 ≤ q) (hb : s[q.toNat]? = some b) : Yd fr ds ρ L (.index t1 x ix) ty (.int .u8 b.toNat) :=
  exec_v (fun c e => by cases e) fun a w ha _ _ _ _ _ => by
    obtain ⟨d, inf, z, g1, g2, g3, g4, g5, g6, g7⟩ := TI.of_spec (fr.X.ti ht)
    rw [hi] at g4
    have hu : P.underlying t1 = some .string := by rw [g1]; cases d <;> first | rfl | cases g4
    simp [execOp, Instr.index, asIntOf, ha.ev hx, ha.ev hix, run_underlying hu, h0, hb]
theorem y_eqlStr {t t' : TypeId} {x y : Operand} {s u : ByteArray} (hx : ρ.ev x = some (.string s)) (hy : ρ.ev y = some (.string u)) : Yd fr ds ρ L (.binOp .eql t x y t') ty (.bool (decide (s.data.toList = u.data.toList))) :=
  binOp_run hx hy fun w => by
    simp [eqGuard, Go.binOp, Op.stringOp]
    rw [Bool.eq_iff_iff, ByteArray.toList_eq, ByteArray.toList_eq]; simp
end
end Go.E

/- Kit E, part 27: == of a struct of two numbers and an array of two, with itself. -/
set_option linter.unusedVariables false
namespace Go.E
open Go Go.RowKit
def termIs (P : Program) (t tk ti ta : TypeId) : Bool :=
  ((P.fieldsOf t).toList.map (fun f => (f.offset, f.name != "_", f.type)) == [(0, true, tk), (1, true, ti), (2, true, ta)]) && (match P.underlying t with | some (.struct fs) => true | _ => false) && !P.stoodInHeld t && !P.eqGuardType P.depth t &&
  (fkind P tk == some true) && (fkind P ti == some true) && (match P.underlying ta with | some (.array n e) => n == 2 && e == ti | _ => false) && (P.cellsOf ti == 1) && (P.cellsOf ta == 2)
section
variable {P : Program} {fr : Fr P} {ds : List Deferred} {ρ : Env} {L : List HP} {ty : TypeId}
theorem run_eqTerm {t tk ti ta : TypeId} (hf : termIs P t tk ti ta = true) (k a b c : Int) (w : World) :
    (Op.equalIn 10000 t (.agg #[.int .i64 k, .int .i64 a, .int .i64 b, .int .i64 c]) (.agg #[.int .i64 k, .int .i64 a, .int .i64 b, .int .i64 c])).run P w = .ok true w ∧ P.eqGuardType P.depth t = false := by
  simp only [termIs, Bool.and_eq_true, Bool.not_eq_true', beq_iff_eq] at hf
  obtain ⟨⟨⟨⟨⟨⟨⟨⟨f1, f2⟩, f3⟩, f4⟩, f5⟩, f6⟩, f7⟩, f8⟩, f9⟩ := hf
  refine ⟨?_, f4⟩
  have hu : P.underlying t = some (.struct (P.fieldsOf t)) := by
    unfold Program.fieldsOf
    cases hd : P.underlying t with
    | none => rw [hd] at f2; simp at f2
    | some d => cases d <;> first | (rw [hd] at f2; simp at f2; done) | rfl
  have ha : P.underlying ta = some (.array 2 ti) := by
    cases hd : P.underlying ta with
    | none => rw [hd] at f7; simp at f7
    | some d => cases d <;> first | (rw [hd] at f7; simp at f7; done) | (rw [hd] at f7; simp at f7; rw [f7.1, f7.2])
  have hk := fkind_int f5
  have hi := fkind_int f6
  obtain ⟨it, hit⟩ := info_of_underlying hi
  obtain ⟨ia, hia⟩ := info_of_underlying ha
  have p3 : ∀ (xs : Array Value) (o : Nat), (part ta xs o).run P w = .ok (.agg (xs.extract o (o + P.cellsOf ta))) w := fun xs o => by
    simp [part, isAgg, run_underlying ha, _root_.Go.run_sizeOf w hia]
  rw [show (10000 : Nat) = 9998 + 1 + 1 from rfl, run_equalIn_struct w (9998 + 1) t _ _ hu f3]
  generalize hg : (P.fieldsOf t).toList = fs at f1
  have hlen : fs.length = 3 := by simpa using congrArg List.length f1
  match fs, hlen, f1 with
  | [x0, x1, x2], _, f1 =>
    simp only [List.map_cons, List.map_nil, List.cons.injEq, Prod.mk.injEq, and_true] at f1
    obtain ⟨⟨a1, a2, a3⟩, ⟨b1, b2, b3⟩, c1, c2, c3⟩ := f1
    have n0 : x0.name ≠ "_" := by simpa using a2
    have n1 : x1.name ≠ "_" := by simpa using b2
    have n2 : x2.name ≠ "_" := by simpa using c2
    have q0 : (part tk #[Value.int .i64 k, .int .i64 a, .int .i64 b, .int .i64 c] 0).run P w = .ok (.int .i64 k) w := run_part1 f5 rfl
    have q1 : (part ti #[Value.int .i64 k, .int .i64 a, .int .i64 b, .int .i64 c] 1).run P w = .ok (.int .i64 a) w := run_part1 f6 rfl
    have r0 : (part ti #[Value.int .i64 b, .int .i64 c] 0).run P w = .ok (.int .i64 b) w := run_part1 f6 rfl
    have r1 : (part ti #[Value.int .i64 b, .int .i64 c] 1).run P w = .ok (.int .i64 c) w := run_part1 f6 rfl
    have e3 : (Op.equalIn (9998 + 1) ta (.agg #[Value.int .i64 b, .int .i64 c]) (.agg #[Value.int .i64 b, .int .i64 c])).run P w = .ok true w := by
      rw [run_equalIn_array w 9998 _ _ ha hit, f8, show List.range 2 = [0, 1] from rfl]
      have h0 : ∀ z : Int, (Op.equalIn 9998 ti (.int .i64 z) (.int .i64 z)).run P w = .ok true w := fun z => by
        rw [show (9998 : Nat) = 9997 + 1 from rfl, run_equalIn_int w 9997 ti .i64 .i64 z z hi]; simp
      simp [Op.eqItems, r0, r1, h0]
    have q2 : (part ta #[Value.int .i64 k, .int .i64 a, .int .i64 b, .int .i64 c] 2).run P w = .ok (.agg #[.int .i64 b, .int .i64 c]) w := by
      rw [p3, f9]; rfl
    have g0 : (Op.equalIn (9998 + 1) tk (.int .i64 k) (.int .i64 k)).run P w = .ok true w := by
      rw [run_equalIn_int w 9998 tk .i64 .i64 k k hk]; simp
    have g1 : (Op.equalIn (9998 + 1) ti (.int .i64 a) (.int .i64 a)).run P w = .ok true w := by
      rw [run_equalIn_int w 9998 ti .i64 .i64 a a hi]; simp
    simp only [Op.eqFields, Sem.run_bind, Sem.run_ite, if_pos n0, if_pos n1, if_pos n2, a1, a3, b1, b3, c1, c3, q0, q1, q2, Result.andThen_ok, e3, g0, g1]
    simp
theorem y_eqlTerm {t t' : TypeId} (tk ti ta : TypeId) {x y : Operand} {k a b c : Int} (hf : termIs P t tk ti ta = true) (hx : ρ.ev x = some (.agg #[.int .i64 k, .int .i64 a, .int .i64 b, .int .i64 c])) (hy : ρ.ev y = some (.agg #[.int .i64 k, .int .i64 a, .int .i64 b, .int .i64 c])) :
    Yd fr ds ρ L (.binOp .eql t x y t') ty (.bool true) :=
  binOp_run hx hy fun w => by
    obtain ⟨r1, r2⟩ := run_eqTerm hf k a b c w
    simp [run_eqGuard_agg w .eql t x y _ _ r2, run_eql_struct, r1]
end
end Go.E

/- Kit E, part 28: != of arrays of two numbers. -/
set_option linter.unusedVariables false
namespace Go.E
open Go Go.RowKit
def arr2Is (P : Program) (t ti : TypeId) : Bool := !P.eqGuardType P.depth t && (fkind P ti == some true) && (match P.underlying t with | some (.array n e) => n == 2 && e == ti | _ => false) && (P.cellsOf ti == 1)
section
variable {P : Program} {fr : Fr P} {ds : List Deferred} {ρ : Env} {L : List HP} {ty : TypeId}
theorem run_eqArr2 {t ti : TypeId} (hf : arr2Is P t ti = true) (a b c d : Int) (w : World) :
    (Op.equalIn 10000 t (.agg #[.int .i64 a, .int .i64 b]) (.agg #[.int .i64 c, .int .i64 d])).run P w = .ok (decide (a = c ∧ b = d)) w ∧ P.eqGuardType P.depth t = false := by
  simp only [arr2Is, Bool.and_eq_true, Bool.not_eq_true', beq_iff_eq] at hf
  obtain ⟨⟨⟨f4, f6⟩, f7⟩, f8⟩ := hf
  refine ⟨?_, f4⟩
  have ha : P.underlying t = some (.array 2 ti) := by
    cases hd : P.underlying t with
    | none => rw [hd] at f7; simp at f7
    | some d => cases d <;> first | (rw [hd] at f7; simp at f7; done) | (rw [hd] at f7; simp at f7; rw [f7.1, f7.2])
  have hi := fkind_int f6
  obtain ⟨it, hit⟩ := info_of_underlying hi
  have r0 : ∀ x y : Int, (part ti #[Value.int .i64 x, .int .i64 y] 0).run P w = .ok (.int .i64 x) w := fun x y => run_part1 f6 rfl
  have r1 : ∀ x y : Int, (part ti #[Value.int .i64 x, .int .i64 y] 1).run P w = .ok (.int .i64 y) w := fun x y => run_part1 f6 rfl
  have h0 : ∀ z u : Int, (Op.equalIn 9999 ti (.int .i64 z) (.int .i64 u)).run P w = .ok (z == u) w := fun z u => by
    rw [show (9999 : Nat) = 9998 + 1 from rfl, run_equalIn_int w 9998 ti .i64 .i64 z u hi]
  rw [show (10000 : Nat) = 9999 + 1 from rfl, run_equalIn_array w 9999 _ _ ha hit, f8, show List.range 2 = [0, 1] from rfl]
  by_cases e1 : a = c
  · by_cases e2 : b = d
    · simp [Op.eqItems, r0, r1, h0, e1, e2]
    · simp [Op.eqItems, r0, r1, h0, e1, e2]
  · simp [Op.eqItems, r0, h0, e1]
theorem y_neqArr2 {t t' : TypeId} (ti : TypeId) {x y : Operand} {a b c d : Int} (hf : arr2Is P t ti = true) (hx : ρ.ev x = some (.agg #[.int .i64 a, .int .i64 b])) (hy : ρ.ev y = some (.agg #[.int .i64 c, .int .i64 d])) :
    Yd fr ds ρ L (.binOp .neq t x y t') ty (.bool (!decide (a = c ∧ b = d))) :=
  binOp_run hx hy fun w => by
    obtain ⟨r1, r2⟩ := run_eqArr2 hf a b c d w
    simp [run_eqGuard_agg w .neq t x y _ _ r2, run_neq_struct, r1]
end
end Go.E

/- Kit E, part 29: a slot that is a truth is looked at. -/
set_option linter.unusedVariables false
namespace Go.E
open Go Go.RowKit
section
variable {P : Program} {fr : Fr P} {ds : List Deferred} {ρ : Env} {L : List HP} {k : List It}
theorem J.split {t : Nat} {p : Prop} [Decidable p] (ht : ρ.get t = some (.bool (decide p))) (hT : p → J fr ds ((t, .bool true) :: ρ) L k) (hF : ¬ p → J fr ds ((t, .bool false) :: ρ) L k) : J fr ds ρ L k := by
  intro a w ha hw
  have key : ∀ b, decide p = b → Env.ok fr.n ds ((t, .bool b) :: ρ) a := fun b hb => ⟨ha.size, ha.defers, fun u v e => by
    simp only [Env.get] at e
    cases hbq : Nat.beq t u with
    | true => rw [hbq] at e; cases e; have := Nat.eq_of_beq_eq_true hbq; subst this; rw [← hb]; exact ha.get _ _ ht
    | false => rw [hbq] at e; exact ha.get u v e⟩
  by_cases hp : p
  · exact hT hp a w (key true (decide_eq_true hp)) hw
  · exact hF hp a w (key false (decide_eq_false hp)) hw
theorem J.splitb {t : Nat} {b : Bool} (ht : ρ.get t = some (.bool b)) (hT : b = true → J fr ds ((t, .bool true) :: ρ) L k) (hF : b = false → J fr ds ((t, .bool false) :: ρ) L k) : J fr ds ρ L k :=
  J.split (p := b = true) (by rw [ht]; cases b <;> rfl) hT (fun h => hF (by simpa using h))
theorem J.known {t : Nat} {b' b : Bool} (ht : ρ.get t = some (.bool b')) (e : b' = b) (h : J fr ds ((t, .bool b) :: ρ) L k) : J fr ds ρ L k := by
  subst e; exact J.splitb ht (fun hb => by subst hb; exact h) (fun hb => by subst hb; exact h)
theorem d_known {all : Array Oper} {pend : List Pd} {fuel : Nat} {listed : Array Bool} {t : Nat} {b' b : Bool} (ht : ρ.get t = some (.bool b')) (e : b' = b) (h : JD fr ds ((t, .bool b) :: ρ) L all pend fuel listed k) : JD fr ds ρ L all pend fuel listed k := by
  subst e; exact d_splitb ht (fun hb => by subst hb; exact h) (fun hb => by subst hb; exact h)
end
end Go.E

/- Kit E, part 30: a field of more cells, of an element that is read. -/
set_option linter.unusedVariables false
namespace Go.E
open Go Go.RowKit
section
variable {P : Program} {fr : Fr P} {ds : List Deferred} {ρ : Env} {L : List HP} {ty : TypeId} {α : Type} {sz : Nat} {enc : α → List Value} {dd : α}
theorem y_ldFN {t : TypeId} {x : Operand} {it : Ty} {iz ib : Nat} {iv : List Value} {A : Option Addr} {q off : Nat} {xs : List α} {vs : List Value} (hr : KE sz enc dd fr.base fr.M A xs) (hx : ρ.ev x = some (.pointer (some (((A.getD default).add ((q : Int).toNat * sz)).add off)))) (ht : fr.X.tab[t]? = some (some ⟨it, iz, ib, iv⟩)) (hi : it.agg = true)
    (hq : q < xs.length) (hn : vs.length = iz) (hv : ∀ j, j < vs.length → (enc (xs.getD q dd))[off + j]? = vs[j]?) : Yd fr ds ρ L (.load t x) ty (.agg vs.toArray) :=
  y_loadN hx ht hi hn fun w hw j v hj => by
    obtain ⟨ad, rfl, hc⟩ := hr w hw.since q hq
    rw [Option.getD_some, addr_add_add, addr_add_add]
    have hjl := (List.getElem?_eq_some_iff.1 hj).1
    have := hc (off + j) v (by rw [hv j hjl]; exact hj)
    simpa [Nat.add_assoc] using this
end
end Go.E

/- Kit E, part 31: an element's struct is written into a block of a row. -/
set_option linter.unusedVariables false
namespace Go.E
open Go Go.RowKit
theorem slToCbN {e sz b n : Nat} {l : List Value} {h : Hp} (s : Sl e sz (some ⟨b, 0, none⟩) n n l h) : cb b e l h := by
  obtain ⟨h1, h2, h3, h4⟩ := s
  rcases h4 with ⟨hn, _, _⟩ | ⟨g, cur, hg, rfl, h5, h6⟩
  · cases hn
  · cases hg
    rw [List.take_of_length_le (by rw [h1, Array.length_toList, h5]; exact Nat.le_refl _)] at h6
    rw [← h6]; simp [cb, pt]
theorem setAll_left (vs : List Value) : ∀ (l r : List Value) (o : Nat), o + vs.length ≤ l.length → setAll (l ++ r) o vs = setAll l o vs ++ r := by
  induction vs with
  | nil => intro l r o _; rfl
  | cons v vs ih =>
    intro l r o h
    simp only [List.length_cons] at h
    rw [setAll, setAll, List.set_append_left _ _ (by omega), ih _ _ _ (by rw [List.length_set]; omega)]
theorem setAll_right (vs : List Value) : ∀ (l r : List Value) (o n : Nat), n = l.length + o → setAll (l ++ r) n vs = l ++ setAll r o vs := by
  induction vs with
  | nil => intro l r o n _; rfl
  | cons v vs ih =>
    intro l r o n h
    subst h
    rw [setAll, setAll, List.set_append_right _ _ (by omega), ih _ _ (o + 1) _ (by omega), Nat.add_sub_cancel_left]
theorem flatSetAll {α : Type} {sz : Nat} {enc : α → List Value} (he : ∀ x, (enc x).length = sz) (dd : α) (y : α) (off : Nat) (vs : List Value) (hoff : off + vs.length ≤ sz) :
    ∀ (xs : List α) (k : Nat), k < xs.length → enc y = setAll (enc (xs.getD k dd)) off vs → setAll (xs.flatMap enc) (k * sz + off) vs = (xs.set k y).flatMap enc
  | [], k, h, _ => absurd h (Nat.not_lt_zero k)
  | x :: xs, 0, _, h => by
    simp only [List.getD_cons_zero] at h
    rw [List.flatMap_cons, Nat.zero_mul, Nat.zero_add, setAll_left _ _ _ _ (by rw [he]; exact hoff), ← h]; rfl
  | x :: xs, k + 1, h, hy => by
    simp only [List.getD_cons_succ] at hy
    have := flatSetAll he dd y off vs hoff xs k (by simpa using h) hy
    rw [List.flatMap_cons, setAll_right vs _ _ (k * sz + off) _ (by rw [he, Nat.succ_mul]; omega), this]; rfl
section
variable {P : Program} {fr : Fr P} {ds : List Deferred} {ρ : Env} {L : List HP} {k : List It} {all : Array Oper} {rest : List Oper} {ty : TypeId} {pos : String} {af : Array Edge}
theorem s_storeNA {t : TypeId} {x y : Operand} {it : Ty} {iz ib : Nat} {iv : List Value} {b o : Nat} {ad : Addr} {T : TypeId} {l : List Value} {rem : List HP} {vs : List Value} (hx : ρ.ev x = some (.pointer (some ad))) (had : ad = ⟨b, o, none⟩) (hy : ρ.ev y = some (.agg vs.toArray)) [hm : UpdB b T l L rem]
    (ht : fr.X.tab[t]? = some (some ⟨it, iz, ib, iv⟩)) (hn : vs.length = iz) (hv : vs.all Value.one = true) (ho : o + iz ≤ l.length)
    (h : J fr ds ρ (cb b T (setAll l o vs) :: rem) (.ops all rest :: k)) : J fr ds ρ L (.ops all (⟨none, .store t x y, ty, pos, af, none⟩ :: rest) :: k) := by
  subst had; exact s_storeN hx hy ht hn hv (Nat.ble_eq_true_of_le ho) h
end
theorem zeros_flat {α : Type} {enc : α → List Value} (z : α) (n : Nat) : zerosOf (enc z) n = (List.replicate n z).flatMap enc := by
  induction n with
  | zero => rfl
  | succ n ih => rw [zerosOf, ih, List.replicate_succ, List.flatMap_cons]
end Go.E
