/- The proof kit 'E', part 7: maps. -/
import Derived.Test.YtgpebcfeeagoaaaE6
namespace Go.E
open Go Go.RowKit
/-! ### Keys -/
/-- What is asked of a type of keys: how a key stands as a value, that looking one up and keeping one goes through. -/
structure KT (P : Program) (T : TypeId) {κ : Type} [DecidableEq κ] (ke : κ → Value) : Prop where
  chk : ∀ b k w, (Instr.checkKey b 10000 T (ke k)).run P w = .ok () w
  find : ∀ k (ks : List κ) (es : List MapEntry) w, es.map (·.key) = ks.map ke → (Instr.findKey T (ke k) es).run P w = .ok ((ks.idxOf? k).bind fun i => (es[i]?).map fun e => (i, e.val)) w
  stay : ∀ k, Instr.sameBits 10000 (ke k) (ke k) = true
theorem idxOf?_cons' {κ : Type} [DecidableEq κ] (a k : κ) (ks : List κ) : (a :: ks).idxOf? k = if a = k then some 0 else (ks.idxOf? k).map (· + 1) := by
  rw [List.idxOf?_cons]
  by_cases h : a = k <;> simp [h]
theorem findNow_int (k : Int) : ∀ (ks : List Int) (es : List MapEntry) (n : Nat), es.map (·.key) = ks.map (Value.int .i64) →
    Instr.findNow (.int .i64) (.int .i64 k) es n = some ((ks.idxOf? k).bind fun i => (es[i]?).map fun e => (n + i, e.val))
  | [], [], n, _ => by simp [Instr.findNow]
  | a :: ks, e :: es, n, h => by
    simp only [List.map_cons, List.cons.injEq] at h
    have ih := findNow_int k ks es (n + 1) h.2
    simp only [Instr.findNow, h.1, Instr.sameNow, if_true, idxOf?_cons']
    by_cases hk : k = a
    · subst hk; simp
    · have hne : (k == a) = false := by simpa using hk
      rw [hne]
      simp only [ih, if_neg (Ne.symm hk)]
      cases ks.idxOf? k with
      | none => simp
      | some i => simp [Nat.add_assoc, Nat.add_comm 1 i]
  | [], _ :: _, _, h => by simp at h
  | _ :: _, [], _, h => by simp at h
theorem sb_int (n : Nat) (k : IntKind) (a : Int) : Instr.sameBits n (.int k a) (.int k a) = true := by cases n <;> simp [Instr.sameBits]
theorem ck_int {P : Program} {T : TypeId} (h : P.underlying T = some (.int .i64)) (n : Nat) (b : Bool) (k : Int) (w : World) : (Instr.checkKey b (n + 1) T (.int .i64 k)).run P w = .ok () w := by simp [Instr.checkKey, run_underlying h]
theorem kt_int {P : Program} {T : TypeId} (h : P.underlying T = some (.int .i64)) : KT P T (Value.int .i64) where
  chk b k w := ck_int h 9999 b k w
  find k ks es w he := by
    have := findNow_int k ks es 0 he
    simp only [Nat.zero_add] at this
    simp [Instr.findKey, run_underlying h, this]
  stay k := sb_int _ _ _
/-! ### A map that is owned -/
section pure
variable {κ β : Type} [DecidableEq κ]
def mget (k : κ) : List (κ × β) → Option β
  | [] => none
  | (a, b) :: r => if a = k then some b else mget k r
def mset (k : κ) (v : β) : List (κ × β) → List (κ × β)
  | [] => [(k, v)]
  | (a, b) :: r => if a = k then (k, v) :: r else (a, b) :: mset k v r
def mdel (k : κ) : List (κ × β) → List (κ × β)
  | [] => []
  | (a, b) :: r => if a = k then r else (a, b) :: mdel k r
theorem mget_mset (k k' : κ) (v : β) : ∀ m : List (κ × β), mget k' (mset k v m) = if k = k' then some v else mget k' m
  | [] => by simp only [mset, mget]
  | (a, b) :: r => by
    simp only [mset]
    by_cases h : a = k
    · subst h; by_cases h2 : a = k' <;> simp [mget, h2]
    · rw [if_neg h]
      simp only [mget, mget_mset k k' v r]
      by_cases h2 : a = k'
      · subst h2; rw [if_pos rfl, if_pos rfl, if_neg (Ne.symm h)]
      · rw [if_neg h2, if_neg h2]
theorem mset_keys (k : κ) (v : β) : ∀ m : List (κ × β), (mset k v m).map (·.1) = if k ∈ m.map (·.1) then m.map (·.1) else m.map (·.1) ++ [k]
  | [] => by simp [mset]
  | (a, b) :: r => by
    simp only [mset]
    by_cases h : a = k
    · subst h; simp
    · rw [if_neg h]
      simp only [List.map_cons, mset_keys k v r, List.mem_cons]
      by_cases h2 : k ∈ r.map (·.1)
      · rw [if_pos h2, if_pos (.inr h2)]
      · rw [if_neg h2, if_neg (by rintro (x | x); exact h x.symm; exact h2 x)]; rfl
theorem mset_nodup (k : κ) (v : β) (m : List (κ × β)) (h : (m.map (·.1)).Nodup) : ((mset k v m).map (·.1)).Nodup := by
  rw [mset_keys]
  split
  · exact h
  · rename_i hk; rw [List.nodup_append]; exact ⟨h, by simp, by rintro a ha b hb rfl; simp at hb; subst hb; exact hk ha⟩
theorem mdel_sub (k : κ) : ∀ m : List (κ × β), (mdel k m).Sublist m
  | [] => List.Sublist.refl _
  | (a, b) :: r => by
    simp only [mdel]
    split
    · exact List.sublist_cons_self _ _
    · exact (mdel_sub k r).cons_cons _
theorem mdel_nodup (k : κ) (m : List (κ × β)) (h : (m.map (·.1)).Nodup) : ((mdel k m).map (·.1)).Nodup := h.sublist ((mdel_sub k m).map _)
theorem mget_none {k : κ} : ∀ {m : List (κ × β)}, mget k m = none ↔ k ∉ m.map (·.1)
  | [] => by simp [mget]
  | (a, b) :: r => by
    simp only [mget, List.map_cons, List.mem_cons, not_or]
    by_cases h : a = k
    · subst h; simp
    · rw [if_neg h, mget_none]; exact ⟨fun x => ⟨Ne.symm h, x⟩, fun x => x.2⟩
theorem mget_mdel (k k' : κ) (m : List (κ × β)) (h : (m.map (·.1)).Nodup) : mget k' (mdel k m) = if k = k' then none else mget k' m := by
  induction m with
  | nil => simp [mdel, mget]
  | cons p r ih =>
    obtain ⟨a, b⟩ := p
    simp only [List.map_cons, List.nodup_cons] at h
    simp only [mdel]
    by_cases h1 : a = k
    · subst h1
      rw [if_pos rfl]
      by_cases h2 : a = k'
      · subst h2; rw [if_pos rfl]; exact mget_none.2 h.1
      · rw [if_neg h2]; simp [mget, h2]
    · rw [if_neg h1]
      simp only [mget, ih h.2]
      by_cases h2 : a = k'
      · subst h2; rw [if_pos rfl, if_neg (Ne.symm h1), if_pos rfl]
      · rw [if_neg h2, if_neg h2]
theorem idx_get (k : κ) : ∀ (m : List (κ × β)), ((m.map (·.1)).idxOf? k).bind (fun i => (m.map (·.2))[i]?) = mget k m
  | [] => by simp [mget]
  | (a, b) :: r => by
    simp only [List.map_cons, idxOf?_cons', mget]
    by_cases h : a = k
    · simp [h]
    · rw [if_neg h, if_neg h, ← idx_get k r]
      cases (r.map (·.1)).idxOf? k with
      | none => rfl
      | some i => simp
end pure
/-- Block b is a map that reads as m; no key twice. -/
def Mp {κ : Type} (ke : κ → Value) (b : Nat) (m : List (κ × Value)) : HP := fun h => ∃ es clock, h = Hp.one b (.map es clock) ∧ es.toList.map (·.key) = m.map (fun p => ke p.1) ∧ es.toList.map (·.val) = m.map (·.2) ∧
  (m.map (·.1)).Nodup ∧ (∀ e ∈ es.toList, e.born < clock) ∧ (es.toList.map (·.born)).Nodup
theorem Sat.mp {κ : Type} {ke : κ → Value} {base : World} {M : Nat → Prop} {L : List HP} {b : Nat} {m : List (κ × Value)} {w : World} (h : Sat base M L w) (hm : Mp ke b m ∈ L) :
    ∃ es clock, w.heap[b]? = some (.map es clock) ∧ es.toList.map (·.key) = m.map (fun p => ke p.1) ∧ es.toList.map (·.val) = m.map (·.2) ∧ (m.map (·.1)).Nodup ∧ (∀ e ∈ es.toList, e.born < clock) ∧ (es.toList.map (·.born)).Nodup := by
  obtain ⟨k, ⟨es, clock, rfl, h1, h2, h3, h4, h5⟩, i⟩ := h.has hm
  exact ⟨es, clock, i b _ (by simp [Hp.one]), h1, h2, h3, h4, h5⟩
theorem run_getMap {P : Program} {w : World} {b : Nat} {es : Array MapEntry} {clock : Nat} (h : w.heap[b]? = some (.map es clock)) : (getObj b).run P w = .ok (.map es clock) w := by simp [getObj, Sem.run, h]
theorem run_setMap {P : Program} {w : World} {b : Nat} {es : Array MapEntry} {clock : Nat} (o : Obj) (h : w.heap[b]? = some (.map es clock)) : (setObj b o).run P w = .ok () { w with heap := w.heap.setIfInBounds b o } := by simp [setObj, Sem.run, h]
class HasM {κ : Type} (ke : outParam (κ → Value)) (b : Nat) (m : outParam (List (κ × Value))) (L : List HP) : Prop where
  mem : Mp ke b m ∈ L
instance {κ : Type} (ke : κ → Value) (b : Nat) (m : List (κ × Value)) (L : List HP) : HasM ke b m (Mp ke b m :: L) := ⟨List.mem_cons_self⟩
instance (priority := low) {κ : Type} (ke : κ → Value) (b : Nat) (m : List (κ × Value)) (A : HP) (L : List HP) [h : HasM ke b m L] : HasM ke b m (A :: L) := ⟨List.mem_cons_of_mem _ h.mem⟩
class UpdM {κ : Type} (ke : outParam (κ → Value)) (b : Nat) (m : outParam (List (κ × Value))) (L : List HP) (rem : outParam (List HP)) : Prop where
  perm : L.Perm (Mp ke b m :: rem)
instance {κ : Type} (ke : κ → Value) (b : Nat) (m : List (κ × Value)) (L : List HP) : UpdM ke b m (Mp ke b m :: L) L := ⟨List.Perm.refl _⟩
instance (priority := low) {κ : Type} (ke : κ → Value) (b : Nat) (m : List (κ × Value)) (A : HP) (L rem : List HP) [h : UpdM ke b m L rem] : UpdM ke b m (A :: L) (A :: rem) :=
  ⟨(List.Perm.cons A h.perm).trans (List.Perm.swap _ _ _)⟩
def zval (i : TI) : Value := bif i.ty.agg then .agg i.zero.toArray else i.zero.headD undef
theorem run_zval {P : Program} {t : TypeId} {i : TI} {w : World} (h : TI.of P t = some i) (hn : i.ty.agg = true ∨ i.zero.length = 1 ∧ Value.one (i.zero.headD undef) = true) : (zeroValue t).run P w = .ok (zval i) w := by
  obtain ⟨d, inf, z, h1, h2, h3, h4, h5, h6, h7, h8⟩ := TI.of_spec' h
  have hz : (zeroValue t).run P w = .ok z w := by simp [zeroValue, typeInfo, h2, h3]
  rw [hz]
  congr 1
  unfold zval
  cases ha : i.ty.agg with
  | true =>
    rw [ha] at h8
    cases z <;> simp [isAggV] at h8
    rename_i cs
    simp only [Value.cells] at h7
    rw [← h7]; rfl
  | false =>
    rw [ha] at h8 hn
    rcases hn with x | ⟨hl, ho⟩
    · cases x
    · have : z.cells = #[z] := by cases z <;> first | rfl | (simp [isAggV] at h8)
      rw [this] at h7
      rw [← h7]; rfl
section
variable {P : Program} {fr : Fr P} {ds : List Deferred} {ρ : Env} {L : List HP} {k : List It} {ty : TypeId} {all : Array Oper} {rest : List Oper} {d : Nat} {pos : String} {af : Array Edge}
theorem Mp.new {κ : Type} (ke : κ → Value) (b : Nat) : ∀ h, pt b (.map #[] 0) h → Mp ke b [] h := fun h e => ⟨#[], 0, e, by simp, by simp, by simp, by simp, by simp⟩
theorem s_makeMap {κ : Type} {t : TypeId} (ke : κ → Value) (hd : Nat.ble (d + 1) fr.n = true) (h : ∀ b, J fr ds ((d, .map (some b)) :: ρ) (Mp ke b [] :: L) (.ops all rest :: k)) : J fr ds ρ L (.ops all (⟨some d, .makeMap t none, ty, pos, af, none⟩ :: rest) :: k) :=
  s_eff (fun c e => by cases e) hd fun a w ha hw o ho _ => by
    refine ⟨.map (some w.heap.size), w.alloc (.map #[] 0), Mp ke w.heap.size [] :: L, ?_, (hw.alloc (.map #[] 0)).imp (Mp.new ke _), h _⟩
    unfold execOp; rw [ho]; simp [Instr.makeMap]
theorem y_lookup {κ : Type} [DecidableEq κ] {ke : κ → Value} {T e : TypeId} {t : TypeId} {x y : Operand} {b : Nat} {kk : κ} {m : List (κ × Value)} {sz ib : Nat} {iv : List Value} {i : TI} {kv : Value} (hx : ρ.ev x = some (.map (some b))) (hy : ρ.ev y = some kv) [hm : HasM ke b m L] (hk : kv = ke kk) (kt : KT P T ke)
    (ht : fr.X.tab[t]? = some (some ⟨.mp T e, sz, ib, iv⟩)) (hi : fr.X.tab[e]? = some (some i)) (hz : i.ty.agg = true ∨ i.zero.length = 1 ∧ Value.one (i.zero.headD undef) = true) :
    Yd fr ds ρ L (.lookup t x y false) ty ((mget kk m).getD (zval i)) :=
  exec_v (fun c e => by cases e) fun a w ha hw _ _ _ _ => by
    subst hk
    obtain ⟨d', inf, z', g1, g2, g3, g4, g5, g6, g7⟩ := TI.of_spec (fr.X.ti ht)
    have := Ty.of_mp g4
    subst this
    obtain ⟨es, clock, hb, h1, h2, h3, h4, h5⟩ := hw.mp hm.mem
    have hf := kt.find kk (m.map (·.1)) es.toList w (by rw [h1, List.map_map]; rfl)
    have hz' := run_zval (w := w) (fr.X.ti hi) hz
    simp only [execOp, ha.ev hx, ha.ev hy, Instr.lookup, Sem.run_bind, run_underlying g1, Result.andThen_ok, run_getMap hb, Sem.run_pure, kt.chk, hf]
    have hg : mget kk m = ((m.map (·.1)).idxOf? kk).bind fun i => (es.toList.map (·.val))[i]? := by rw [h2, idx_get]
    rw [hg]
    cases hix : (m.map (·.1)).idxOf? kk with
    | none => simp [hz']
    | some j =>
      simp only [Option.bind_some, List.getElem?_map]
      cases hej : es.toList[j]? with
      | none => simp [hz']
      | some e' => simp
theorem y_lookup2 {κ : Type} [DecidableEq κ] {ke : κ → Value} {T e : TypeId} {t : TypeId} {x y : Operand} {b : Nat} {kk : κ} {m : List (κ × Value)} {sz ib : Nat} {iv : List Value} {i : TI} {kv : Value} (hx : ρ.ev x = some (.map (some b))) (hy : ρ.ev y = some kv) [hm : HasM ke b m L] (hk : kv = ke kk) (kt : KT P T ke)
    (ht : fr.X.tab[t]? = some (some ⟨.mp T e, sz, ib, iv⟩)) (hi : fr.X.tab[e]? = some (some i)) (hz : i.ty.agg = true ∨ i.zero.length = 1 ∧ Value.one (i.zero.headD undef) = true) :
    Yd fr ds ρ L (.lookup t x y true) ty (.tuple [(mget kk m).getD (zval i), .bool (mget kk m).isSome].toArray) :=
  exec_v (fun c e => by cases e) fun a w ha hw _ _ _ _ => by
    subst hk
    obtain ⟨d', inf, z', g1, g2, g3, g4, g5, g6, g7⟩ := TI.of_spec (fr.X.ti ht)
    have := Ty.of_mp g4
    subst this
    obtain ⟨es, clock, hb, h1, h2, h3, h4, h5⟩ := hw.mp hm.mem
    have hf := kt.find kk (m.map (·.1)) es.toList w (by rw [h1, List.map_map]; rfl)
    have hz' := run_zval (w := w) (fr.X.ti hi) hz
    simp only [execOp, ha.ev hx, ha.ev hy, Instr.lookup, Sem.run_bind, run_underlying g1, Result.andThen_ok, run_getMap hb, Sem.run_pure, kt.chk, hf]
    have hg : mget kk m = ((m.map (·.1)).idxOf? kk).bind fun i => (es.toList.map (·.val))[i]? := by rw [h2, idx_get]
    rw [hg]
    cases hix : (m.map (·.1)).idxOf? kk with
    | none => simp [hz']
    | some j =>
      simp only [Option.bind_some, List.getElem?_map]
      cases hej : es.toList[j]? with
      | none => simp [hz']
      | some e' => simp

theorem y_lookupV {κ : Type} [DecidableEq κ] {ke : κ → Value} {T e : TypeId} {t : TypeId} {x y : Operand} {b : Nat} {kk : κ} {m : List (κ × Value)} {sz ib : Nat} {iv : List Value} {i : TI} {kv u : Value} (hv : (mget kk m).getD (zval i) = u) (hx : ρ.ev x = some (.map (some b))) (hy : ρ.ev y = some kv) [hm : HasM ke b m L] (hk : kv = ke kk) (kt : KT P T ke)
    (ht : fr.X.tab[t]? = some (some ⟨.mp T e, sz, ib, iv⟩)) (hi : fr.X.tab[e]? = some (some i)) (hz : i.ty.agg = true ∨ i.zero.length = 1 ∧ Value.one (i.zero.headD undef) = true) :
    Yd fr ds ρ L (.lookup t x y false) ty u := by rw [← hv]; exact y_lookup hx hy hk kt ht hi hz
theorem y_lookup2V {κ : Type} [DecidableEq κ] {ke : κ → Value} {T e : TypeId} {t : TypeId} {x y : Operand} {b : Nat} {kk : κ} {m : List (κ × Value)} {sz ib : Nat} {iv : List Value} {i : TI} {kv u : Value} {bb : Bool} (hv : (mget kk m).getD (zval i) = u) (hb : (mget kk m).isSome = bb) (hx : ρ.ev x = some (.map (some b))) (hy : ρ.ev y = some kv) [hm : HasM ke b m L] (hk : kv = ke kk) (kt : KT P T ke)
    (ht : fr.X.tab[t]? = some (some ⟨.mp T e, sz, ib, iv⟩)) (hi : fr.X.tab[e]? = some (some i)) (hz : i.ty.agg = true ∨ i.zero.length = 1 ∧ Value.one (i.zero.headD undef) = true) :
    Yd fr ds ρ L (.lookup t x y true) ty (.tuple [u, .bool bb].toArray) := by rw [← hv, ← hb]; exact y_lookup2 hx hy hk kt ht hi hz
theorem keyStays {κ : Type} [DecidableEq κ] {ke : κ → Value} {T : TypeId} (kt : KT P T ke) (kk : κ) (w : World) : (Instr.keyThatStays (ke kk) (ke kk)).run P w = .ok (ke kk) w := by
  simp [Instr.keyThatStays, kt.stay kk]
theorem modify_set {κ : Type} [DecidableEq κ] {ke : κ → Value} (kk : κ) (v : Value) : ∀ (m : List (κ × Value)) (es : List MapEntry) (i : Nat), es.map (·.key) = m.map (fun p => ke p.1) → es.map (·.val) = m.map (·.2) → (m.map (·.1)).idxOf? kk = some i →
    (es.modify i fun e => { e with key := ke kk, val := v }).map (·.key) = (mset kk v m).map (fun p => ke p.1) ∧ (es.modify i fun e => { e with key := ke kk, val := v }).map (·.val) = (mset kk v m).map (·.2) ∧ (es.modify i fun e => { e with key := ke kk, val := v }).map (·.born) = es.map (·.born) ∧ (es[i]?).map (·.key) = some (ke kk)
  | [], _, _, _, _, h => by simp at h
  | (a, b) :: m, [], _, h, _, _ => by simp at h
  | (a, b) :: m, e :: es, i, h1, h2, h3 => by
    simp only [List.map_cons, List.cons.injEq] at h1 h2
    simp only [List.map_cons, idxOf?_cons'] at h3
    by_cases hk : a = kk
    · rw [if_pos hk] at h3; cases h3; subst hk
      simp [mset, h1.2, h2.2, h1.1]
    · rw [if_neg hk] at h3
      obtain ⟨j, hj, rfl⟩ := Option.map_eq_some_iff.1 h3
      obtain ⟨q1, q2, q3, q4⟩ := modify_set kk v m es j h1.2 h2.2 hj
      simp [mset, hk, h1.1, h2.1, q1, q2, q3, q4]
theorem push_set {κ : Type} [DecidableEq κ] (kk : κ) (v : Value) : ∀ (m : List (κ × Value)), (m.map (·.1)).idxOf? kk = none → mset kk v m = m ++ [(kk, v)]
  | [], _ => rfl
  | (a, b) :: m, h => by
    simp only [List.map_cons, idxOf?_cons'] at h
    by_cases hk : a = kk
    · rw [if_pos hk] at h; cases h
    · rw [if_neg hk] at h
      simp [mset, hk, push_set kk v m (by simpa using h)]
/-- The run of a map's update. -/
theorem run_mapUpdate {κ : Type} [DecidableEq κ] {ke : κ → Value} {T e t : TypeId} {base : World} {M : Nat → Prop} {L : List HP} {b : Nat} {m : List (κ × Value)} {w : World} (h : Sat base M (Mp ke b m :: L) w) (kk : κ) (v : Value) (kt : KT P T ke) (ht : P.underlying t = some (.map T e)) :
    ∃ w', (Instr.mapUpdate t (.map (some b)) (ke kk) v).run P w = .ok () w' ∧ Sat base M (Mp ke b (mset kk v m) :: L) w' := by
  obtain ⟨es, clock, hb, h1, h2, h3, h4, h5⟩ := h.mp List.mem_cons_self
  have hf := kt.find kk (m.map (·.1)) es.toList w (by rw [h1, List.map_map]; rfl)
  have hturn : ∀ (es' : Array MapEntry) (clock' : Nat), es'.toList.map (·.key) = (mset kk v m).map (fun p => ke p.1) → es'.toList.map (·.val) = (mset kk v m).map (·.2) → (∀ e ∈ es'.toList, e.born < clock') → (es'.toList.map (·.born)).Nodup →
      Sat base M (Mp ke b (mset kk v m) :: L) { w with heap := w.heap.setIfInBounds b (.map es' clock') } := fun es' clock' q1 q2 q3 q4 => by
    refine h.turn1 (fun hp hpm hin => ?_) (by simp) rfl rfl rfl
    obtain ⟨es0, c0, rfl, _⟩ := hpm
    have hlt := (Array.getElem?_eq_some_iff.1 hb).1
    refine ⟨Hp.one b (.map es' clock'), ⟨es', clock', rfl, q1, q2, mset_nodup _ _ _ h3, q3, q4⟩, fun x o hx => ?_, fun x o hx => ?_, fun x hx hn => ?_⟩
    · simp only [Hp.one] at hx; split at hx
      · rename_i e; cases hx; rw [e]; simp [hlt]
      · cases hx
    · right; simp only [Hp.one] at hx ⊢; split at hx
      · rename_i e; simp [e]
      · cases hx
    · have : x ≠ b := by intro e; simp [Hp.one, e] at hn
      exact Array.getElem?_setIfInBounds_ne (Ne.symm this)
  cases hix : (m.map (·.1)).idxOf? kk with
  | some i =>
    obtain ⟨q1, q2, q3, q4⟩ := modify_set (ke := ke) kk v m es.toList i h1 h2 hix
    obtain ⟨ei, hei, hek⟩ := Option.map_eq_some_iff.1 q4
    rw [hix] at hf
    simp only [Option.bind_some, hei, Option.map_some] at hf
    refine ⟨_, ?_, hturn (es.modify i fun e => { e with key := ke kk, val := v }) clock (by rw [Array.toList_modify]; exact q1) (by rw [Array.toList_modify]; exact q2) (fun e he => ?_) (by rw [Array.toList_modify, q3]; exact h5)⟩
    · have hk' : ((es[i]?).map (·.key)).getD (ke kk) = ke kk := by
        rw [← Array.getElem?_toList, hei]; simp [hek]
      simp [Instr.mapUpdate, run_underlying ht, run_getMap hb, kt.chk, hf, hk', keyStays kt, run_setMap _ hb]
    · rw [Array.toList_modify] at he
      have hbm : e.born ∈ (es.toList.modify i fun e => { e with key := ke kk, val := v }).map (·.born) := List.mem_map_of_mem he
      rw [q3] at hbm
      obtain ⟨e', he', hb'⟩ := List.mem_map.1 hbm
      rw [← hb']; exact h4 e' he'
  | none =>
    rw [hix] at hf
    simp only [Option.bind_none] at hf
    have hp := push_set kk v m hix
    refine ⟨_, ?_, hturn (es.push { key := ke kk, val := v, born := clock }) (clock + 1) (by rw [hp]; simp [h1]) (by rw [hp]; simp [h2]) (fun e he => ?_) ?_⟩
    · simp [Instr.mapUpdate, run_underlying ht, run_getMap hb, kt.chk, hf, run_setMap _ hb]
    · simp only [Array.toList_push, List.mem_append, List.mem_singleton] at he
      rcases he with he | rfl
      · exact Nat.lt_succ_of_lt (h4 e he)
      · exact Nat.lt_succ_self _
    · simp only [Array.toList_push, List.map_append, List.map_cons, List.map_nil]
      rw [List.nodup_append]
      refine ⟨h5, by simp, ?_⟩
      rintro x hx y hy rfl
      simp at hy; subst hy
      obtain ⟨e', he', hb'⟩ := List.mem_map.1 hx
      have := h4 e' he'
      omega
theorem s_mapUpdate {κ : Type} [DecidableEq κ] {ke : κ → Value} {T e : TypeId} {t : TypeId} {x y z : Operand} {b : Nat} {kk : κ} {m : List (κ × Value)} {sz ib : Nat} {iv : List Value} {kv v : Value} {rem : List HP} (hx : ρ.ev x = some (.map (some b))) (hy : ρ.ev y = some kv) (hz : ρ.ev z = some v) [hm : UpdM ke b m L rem] (hk : kv = ke kk) (kt : KT P T ke)
    (ht : fr.X.tab[t]? = some (some ⟨.mp T e, sz, ib, iv⟩)) (h : J fr ds ρ (Mp ke b (mset kk v m) :: rem) (.ops all rest :: k)) : J fr ds ρ L (.ops all (⟨none, .mapUpdate t x y z, ty, pos, af, none⟩ :: rest) :: k) :=
  s_eff0 (fun c e => by cases e) fun a w ha hw o ho _ => by
    subst hk
    obtain ⟨d', inf, z', g1, g2, g3, g4, g5, g6, g7⟩ := TI.of_spec (fr.X.ti ht)
    have := Ty.of_mp g4
    subst this
    obtain ⟨w', hr, hs⟩ := run_mapUpdate (P := P) (hw.perm hm.perm) kk v kt g1
    refine ⟨.skip, w', _, ?_, .inl rfl, hs, h⟩
    unfold execOp; rw [ho]
    simp [ha.ev hx, ha.ev hy, ha.ev hz, hr]
end
end Go.E
