/- The proof kit 'E', part 4: operations that make or write memory: new blocks, stores, append. -/
import Derived.Test.YtgpebcfeeagoaaaE3
import Derived.Laws.NewBlocks
import Derived.Maps.AppendAt
import Derived.Laws.MakeOwn
namespace Go.E
open Go Go.RowKit
section
variable {P : Program} {fr : Fr P} {ds : List Deferred} {ρ : Env} {L : List HP} {k : List It} {ty : TypeId} {all : Array Oper} {rest : List Oper} {d : Nat} {pos : String} {af : Array Edge}

theorem run_zero {t : TypeId} {i : TI} {w : World} (h : TI.of P t = some i) : ∃ z, (zeroValue t).run P w = .ok z w ∧ z.cells.toList = i.zero := by
  obtain ⟨d, inf, z, h1, h2, h3, h4, h5, h6, h7⟩ := TI.of_spec h
  exact ⟨z, by simp [zeroValue, typeInfo, h2, h3], h7⟩
theorem run_info {t : TypeId} {i : TI} {w : World} (h : TI.of P t = some i) : ∃ inf : TypeInfo, (typeInfo t).run P w = .ok inf w ∧ P.info? t = some inf ∧ inf.bytes = i.bytes ∧ inf.size = i.size := by
  obtain ⟨d, inf, z, h1, h2, h3, h4, h5, h6, h7⟩ := TI.of_spec h
  exact ⟨inf, by simp [typeInfo, h2], h2, h6, h5⟩

def Value.one : Value → Bool
  | .agg _ => false
  | .tuple _ => false
  | _ => true
theorem one_cell {v : Value} (h : Value.one v = true) : v.cells = #[v] := by cases v <;> first | rfl | cases h
theorem s_alloc {t : TypeId} {it : Ty} {iz ib : Nat} {iv : List Value} (ht : fr.X.tab[t]? = some (some ⟨it, iz, ib, iv⟩)) (hd : Nat.ble (d + 1) fr.n = true)
    (h : ∀ b, J fr ds ((d, .pointer (some ⟨b, 0, none⟩)) :: ρ) (cb b t iv :: L) (.ops all rest :: k)) : J fr ds ρ L (.ops all (⟨some d, .alloc t, ty, pos, af, none⟩ :: rest) :: k) :=
  s_eff (fun c e => by cases e) hd fun a w ha hw o ho _ => by
    obtain ⟨z, hz, hl⟩ := run_zero (w := w) (fr.X.ti ht)
    simp only at hl
    refine ⟨.pointer (some ⟨w.heap.size, 0, none⟩), w.alloc (.cells z.cells t (0, 0)), cb w.heap.size t iv :: L, ?_, ?_, h _⟩
    · unfold execOp; rw [ho]; simp [Instr.alloc, hz, newVar, newRow]
    · have := hw.alloc (.cells z.cells t (0, 0))
      rw [show z.cells = iv.toArray from by rw [← hl]] at this
      rw [show z.cells = iv.toArray from by rw [← hl]]
      exact this
theorem s_box {t : TypeId} {x : Operand} {v : Value} (hx : ρ.ev x = some v) (hd : Nat.ble (d + 1) fr.n = true)
    (h : ∀ b, J fr ds ((d, .pointer (some ⟨b, 0, none⟩)) :: ρ) (cb b t v.cells.toList :: L) (.ops all rest :: k)) : J fr ds ρ L (.ops all (⟨some d, .box t x, ty, pos, af, none⟩ :: rest) :: k) :=
  s_eff (fun c e => by cases e) hd fun a w ha hw o ho _ => by
    refine ⟨.pointer (some ⟨w.heap.size, 0, none⟩), w.alloc (.cells v.cells t (0, 0)), cb w.heap.size t v.cells.toList :: L, ?_, ?_, h _⟩
    · unfold execOp; rw [ho]; simp [Instr.box, newVar, newRow, ha.ev hx]
    · have := hw.alloc (.cells v.cells t (0, 0))
      unfold cb
      rw [Array.toArray_toList]
      exact this

theorem s_box1 {t : TypeId} {x : Operand} {v : Value} (hx : ρ.ev x = some v) (hv : Value.one v = true) (hd : Nat.ble (d + 1) fr.n = true)
    (h : ∀ b, J fr ds ((d, .pointer (some ⟨b, 0, none⟩)) :: ρ) (cb b t [v] :: L) (.ops all rest :: k)) : J fr ds ρ L (.ops all (⟨some d, .box t x, ty, pos, af, none⟩ :: rest) :: k) :=
  s_box hx hd fun b => by rw [one_cell hv]; exact h b
theorem s_boxA {t : TypeId} {x : Operand} {vs : List Value} (hx : ρ.ev x = some (.agg vs.toArray)) (hd : Nat.ble (d + 1) fr.n = true)
    (h : ∀ b, J fr ds ((d, .pointer (some ⟨b, 0, none⟩)) :: ρ) (cb b t vs :: L) (.ops all rest :: k)) : J fr ds ρ L (.ops all (⟨some d, .box t x, ty, pos, af, none⟩ :: rest) :: k) :=
  s_box hx hd fun b => h b

/-! ### Stores -/
class UpdB (b : Nat) (T : outParam TypeId) (l : outParam (List Value)) (L : List HP) (rem : outParam (List HP)) : Prop where
  perm : L.Perm (cb b T l :: rem)
instance (b : Nat) (T : TypeId) (l : List Value) (L : List HP) : UpdB b T l (cb b T l :: L) L := ⟨List.Perm.refl _⟩
instance (priority := low) (b : Nat) (T : TypeId) (l : List Value) (A : HP) (L rem : List HP) [h : UpdB b T l L rem] : UpdB b T l (A :: L) (A :: rem) :=
  ⟨(List.Perm.cons A h.perm).trans (List.Perm.swap _ _ _)⟩
theorem setCell_heap {w : World} {b o : Nat} {l : List Value} {T : TypeId} {v : Value} (h : w.heap[b]? = some (.cells l.toArray T (0, 0))) :
    (w.setCell ⟨b, o, none⟩ v).heap[b]? = some (.cells (l.set o v).toArray T (0, 0)) := by
  obtain ⟨hlt, hk⟩ := Array.getElem?_eq_some_iff.1 h
  simp only [World.setCell]
  rw [Array.getElem?_eq_getElem (by simpa using hlt), Array.getElem_modify_self, hk]
  simp
theorem Sat.set {base : World} {M : Nat → Prop} {b : Nat} {T : TypeId} {l : List Value} {w : World} (h : Sat base M (cb b T l :: L) w) (o : Nat) (v : Value) : Sat base M (cb b T (l.set o v) :: L) (w.setCell ⟨b, o, none⟩ v) :=
  h.turn (setCell_heap h.at) (fun k hk => Below.heap_setCell w _ v k hk) (by simp) rfl rfl rfl
theorem run_store1 {w : World} {b o : Nat} {l : List Value} {T : TypeId} {v : Value} (h : w.heap[b]? = some (.cells l.toArray T (0, 0))) (ho : o < l.length) (hv : Value.one v = true) :
    (store ⟨b, o, none⟩ v).run P w = .ok () (w.setCell ⟨b, o, none⟩ v) := by
  have hc : w.cell? ⟨b, o, none⟩ = some l[o] := by simp [World.cell?, h, ho]
  have hf : w.frozen? ⟨b, o, none⟩ = false := by simp [World.frozen?, h]
  cases v <;> first | (cases hv; done) | simp [store, Sem.run, hc, hf]
theorem s_store {t : TypeId} {x y : Operand} {it : Ty} {ib : Nat} {iv : List Value} {b o : Nat} {T : TypeId} {l : List Value} {rem : List HP} {v : Value} (hx : ρ.ev x = some (.pointer (some ⟨b, o, none⟩))) (hy : ρ.ev y = some v) [hm : UpdB b T l L rem]
    (ht : fr.X.tab[t]? = some (some ⟨it, 1, ib, iv⟩)) (hv : Value.one v = true) (ho : Nat.ble (o + 1) l.length = true)
    (h : J fr ds ρ (cb b T (l.set o v) :: rem) (.ops all rest :: k)) : J fr ds ρ L (.ops all (⟨none, .store t x y, ty, pos, af, none⟩ :: rest) :: k) :=
  s_eff0 (fun c e => by cases e) fun a w ha hw o' hop _ => by
    have hw' := hw.perm hm.perm
    have hsz := run_sizeOf (w := w) (fr.X.ti ht)
    refine ⟨.skip, w.setCell ⟨b, o, none⟩ v, cb b T (l.set o v) :: rem, ?_, .inl rfl, hw'.set o v, h⟩
    have hst := run_store1 (P := P) (o := o) hw'.at (Nat.le_of_ble_eq_true ho) hv
    unfold execOp; rw [hop]
    simp [ha.ev hx, ha.ev hy, Instr.storeAt, Instr.sureAddr, storeVar, hsz, one_cell hv, storeCells, hst, addr_add]

/-- One element of a row that is written out. -/
class SetV (l : List Value) (o : Nat) (v : Value) (l' : outParam (List Value)) : Prop where
  eq : l.set o v = l'
instance (a v : Value) (l : List Value) : SetV (a :: l) 0 v (v :: l) := ⟨rfl⟩
instance (a v : Value) (l l' : List Value) (o : Nat) [h : SetV l o v l'] : SetV (a :: l) (o + 1) v (a :: l') := ⟨by rw [List.set_cons_succ, h.eq]⟩
theorem s_storeC {t : TypeId} {x y : Operand} {it : Ty} {ib : Nat} {iv : List Value} {b o : Nat} {T : TypeId} {l l' : List Value} {rem : List HP} {v : Value} (hx : ρ.ev x = some (.pointer (some ⟨b, o, none⟩))) (hy : ρ.ev y = some v) [hm : UpdB b T l L rem] [hs : SetV l o v l']
    (ht : fr.X.tab[t]? = some (some ⟨it, 1, ib, iv⟩)) (hv : Value.one v = true) (ho : Nat.ble (o + 1) l.length = true)
    (h : J fr ds ρ (cb b T l' :: rem) (.ops all rest :: k)) : J fr ds ρ L (.ops all (⟨none, .store t x y, ty, pos, af, none⟩ :: rest) :: k) :=
  s_store hx hy ht hv ho (by rw [hs.eq]; exact h)
/-- A struct's or an array's store: cell by cell. -/
def setAll (l : List Value) (o : Nat) : List Value → List Value
  | [] => l
  | v :: vs => setAll (l.set o v) (o + 1) vs
theorem setAll_length : ∀ (vs : List Value) (l : List Value) (o : Nat), (setAll l o vs).length = l.length
  | [], _, _ => rfl
  | v :: vs, l, o => by rw [setAll, setAll_length vs]; simp
theorem run_storeAll {base : World} {M : Nat → Prop} {b : Nat} {T : TypeId} {R : List HP} : ∀ (vs : List Value) (l : List Value) (o i : Nat) (w : World), Sat base M (cb b T l :: R) w → o + i + vs.length ≤ l.length → (∀ v ∈ vs, Value.one v = true) →
    ∃ w', (storeCells ⟨b, o, none⟩ vs i).run P w = .ok () w' ∧ Sat base M (cb b T (setAll l (o + i) vs) :: R) w'
  | [], l, o, i, w, hw, _, _ => ⟨w, by simp [storeCells], hw⟩
  | v :: vs, l, o, i, w, hw, hl, h1 => by
    simp only [List.length_cons] at hl
    have hst := run_store1 (P := P) (o := o + i) hw.at (by omega) (h1 v List.mem_cons_self)
    obtain ⟨w', hr, hs⟩ := run_storeAll vs (l.set (o + i) v) o (i + 1) _ (hw.set (o + i) v) (by simp; omega) (fun u hu => h1 u (List.mem_cons_of_mem _ hu))
    refine ⟨w', ?_, hs⟩
    simp [storeCells, addr_add, hst, hr]
theorem s_storeN {t : TypeId} {x y : Operand} {it : Ty} {iz ib : Nat} {iv : List Value} {b o : Nat} {T : TypeId} {l : List Value} {rem : List HP} {vs : List Value} (hx : ρ.ev x = some (.pointer (some ⟨b, o, none⟩))) (hy : ρ.ev y = some (.agg vs.toArray)) [hm : UpdB b T l L rem]
    (ht : fr.X.tab[t]? = some (some ⟨it, iz, ib, iv⟩)) (hn : vs.length = iz) (hv : vs.all Value.one = true) (ho : Nat.ble (o + iz) l.length = true)
    (h : J fr ds ρ (cb b T (setAll l o vs) :: rem) (.ops all rest :: k)) : J fr ds ρ L (.ops all (⟨none, .store t x y, ty, pos, af, none⟩ :: rest) :: k) :=
  s_eff0 (fun c e => by cases e) fun a w ha hw o' hop _ => by
    have hw' := hw.perm hm.perm
    have hsz := run_sizeOf (w := w) (fr.X.ti ht)
    obtain ⟨w', hr, hs⟩ := run_storeAll (P := P) vs l o 0 w hw' (by have := Nat.le_of_ble_eq_true ho; omega) (by simpa using hv)
    refine ⟨.skip, w', cb b T (setAll l o vs) :: rem, ?_, .inl rfl, hs, h⟩
    unfold execOp; rw [hop]
    simp [ha.ev hx, ha.ev hy, Instr.storeAt, Instr.sureAddr, storeVar, hsz, Value.cells, hn, hr]

theorem setAll_at (vs : List Value) : ∀ (l : List Value) (o : Nat), o + vs.length ≤ l.length → setAll l o vs = l.take o ++ vs ++ l.drop (o + vs.length) := by
  induction vs with
  | nil => intro l o _; simp [setAll]
  | cons v vs ih =>
    intro l o h
    simp only [List.length_cons] at h
    rw [setAll, ih _ _ (by simp; omega)]
    have h1 : (l.set o v).take (o + 1) = l.take o ++ [v] := by
      rw [List.take_set, List.take_succ_eq_append_getElem (by omega), List.set_append]
      have : (l.take o).length = o := by simp; omega
      simp [this]
    have h2 : (l.set o v).drop (o + 1 + vs.length) = l.drop (o + 1 + vs.length) := by rw [List.drop_set]; rw [if_pos (by omega)]
    rw [h1, h2]
    simp [Nat.add_assoc, Nat.add_comm 1]
theorem setAll_whole (vs l : List Value) (h : vs.length = l.length) : setAll l 0 vs = vs := by
  rw [setAll_at vs l 0 (by omega)]; simp [h]
/-- .. of the whole block. -/
theorem s_storeW {t : TypeId} {x y : Operand} {it : Ty} {iz ib : Nat} {iv : List Value} {b : Nat} {T : TypeId} {l : List Value} {rem : List HP} {vs : List Value} (hx : ρ.ev x = some (.pointer (some ⟨b, 0, none⟩))) (hy : ρ.ev y = some (.agg vs.toArray)) [hm : UpdB b T l L rem]
    (ht : fr.X.tab[t]? = some (some ⟨it, iz, ib, iv⟩)) (hn : vs.length = iz) (hv : vs.all Value.one = true) (hl : l.length = iz)
    (h : J fr ds ρ (cb b T vs :: rem) (.ops all rest :: k)) : J fr ds ρ L (.ops all (⟨none, .store t x y, ty, pos, af, none⟩ :: rest) :: k) :=
  s_storeN hx hy ht hn hv (by rw [Nat.zero_add, hl]; exact Nat.ble_eq_true_of_le (Nat.le_refl _)) (by rw [setAll_whole vs l (by rw [hn, hl])]; exact h)
/-! ### Building -/
/-- The parts laid into the zero cells. -/
def lay (offs : List (Nat × TypeId)) : List (Nat × Value) → List Value → List Value
  | [], z => z
  | (i, v) :: ps, z => lay offs ps (setAll z ((offs[i]?.map (·.1)).getD 0) v.cells.toList)
theorem foldl_set (vs : List Value) : ∀ (cs : Array Value) (off j : Nat), (vs.zipIdx j).foldl (fun cs (x : Value × Nat) => cs.setIfInBounds (off + x.2) x.1) cs = (setAll cs.toList (off + j) vs).toArray := by
  induction vs with
  | nil => intro cs off j; simp [setAll]
  | cons v vs ih =>
    intro cs off j
    simp only [List.zipIdx_cons, List.foldl_cons, setAll]
    rw [ih]
    simp [Nat.add_assoc]
theorem fill_lay (X : Cx P) (offs : List (Nat × TypeId)) (place : Nat → Option (Nat × Nat)) : ∀ (ps : List (Nat × Value)) (z : List Value),
    (∀ p ∈ ps, ∃ o s, place p.1 = some (o, s) ∧ (offs[p.1]?.map (·.1)) = some o ∧ p.2.cells.size = s ∧ o + s ≤ z.length) → Instr.fill place z.toArray ps = some (lay offs ps z).toArray
  | [], z, _ => by simp [Instr.fill, lay]
  | (i, v) :: ps, z, h => by
    obtain ⟨o, s, h1, h2, h3, h4⟩ := h (i, v) List.mem_cons_self
    simp only at h1 h2 h3
    have hfo : Array.foldl (fun cs (x : Value × Nat) => cs.setIfInBounds (o + x.2) x.1) z.toArray v.cells.zipIdx = (setAll z o v.cells.toList).toArray := by
      have := foldl_set v.cells.toList z.toArray o 0
      simp only [Nat.add_zero] at this
      rw [← this, ← Array.foldl_toList, Array.toList_zipIdx]
    simp only [Instr.fill, h1]
    rw [if_neg (by simp [h3]; omega)]
    have ih := fill_lay X offs place ps (setAll z o v.cells.toList) (fun p hp => by
      obtain ⟨o', s', g1, g2, g3, g4⟩ := h p (List.mem_cons_of_mem _ hp)
      exact ⟨o', s', g1, g2, g3, by rw [setAll_length]; exact g4⟩)
    simp only [lay, h2, Option.getD_some]
    rw [← ih]
    congr 1

theorem run_mapM_list {α β : Type} {f : α → Sem β} {g : α → β} {w : World} : ∀ (l : List α), (∀ x ∈ l, (f x).run P w = .ok (g x) w) → (l.mapM f).run P w = .ok (l.map g) w
  | [], _ => by simp
  | x :: l, h => by
    rw [List.mapM_cons]
    simp [h x List.mem_cons_self, run_mapM_list l (fun y hy => h y (List.mem_cons_of_mem _ hy))]
theorem run_mapM {α β : Type} {f : α → Sem β} {g : α → β} {w : World} (l : Array α) (h : ∀ x ∈ l, (f x).run P w = .ok (g x) w) : (l.mapM f).run P w = .ok (l.map g) w := by
  rw [Array.mapM_eq_mapM_toList]
  simp [run_mapM_list l.toList (fun x hx => h x (Array.mem_toList_iff.1 hx)), ← Array.toList_map]
def Cx.sz {P : Program} (X : Cx P) (t : TypeId) : Nat := match X.tab[t]? with | some (some i) => i.size | _ => 0
def Cx.is {P : Program} (X : Cx P) (t : TypeId) : Bool := match X.tab[t]? with | some (some _) => true | _ => false
theorem run_sz {t : TypeId} {w : World} (h : fr.X.is t = true) : (sizeOf t).run P w = .ok (fr.X.sz t) w := by
  unfold Cx.is at h
  split at h
  · rename_i i hi
    rw [run_sizeOf (fr.X.ti hi)]
    simp [Cx.sz, hi]
  · cases h
theorem y_build {t : TypeId} {parts : List (Nat × Operand)} {vs : List Value} {fs : List (Nat × TypeId)} {iz ib : Nat} {iv : List Value} (hx : ρ.evs (parts.map (·.2)) = some vs) (ht : fr.X.tab[t]? = some (some ⟨.st fs, iz, ib, iv⟩))
    (ha : fs.all (fun p => fr.X.is p.2) = true)
    (hf : ((parts.map (·.1)).zip vs).all (fun p => match fs[p.1]? with | some (o, ft) => Nat.beq p.2.cells.toList.length (fr.X.sz ft) && Nat.ble (o + fr.X.sz ft) iv.length | none => false) = true) :
    Yd fr ds ρ L (.build t parts.toArray) ty (.agg (lay fs ((parts.map (·.1)).zip vs) iv).toArray) :=
  exec_v (fun c e => by cases e) fun a w haa _ _ _ _ _ => by
    obtain ⟨d, inf, z, g1, g2, g3, g4, g5, g6, g7⟩ := TI.of_spec (fr.X.ti ht)
    simp only at g4 g7
    obtain ⟨g, rfl, hg⟩ := Ty.of_st g4
    have hev : (parts.map fun p => (p.1, a.eval p.2)) = (parts.map (·.1)).zip vs := by
      rw [← haa.evs hx]
      simp [List.zip_map', List.map_map, Function.comp_def]
    have hz : (zeroValue t).run P w = .ok z w := by simp [zeroValue, typeInfo, g2, g3]
    have hm : (g.mapM fun f => (do pure (f.offset, ← sizeOf f.type) : Sem (Nat × Nat))).run P w = .ok (g.map fun f => (f.offset, fr.X.sz f.type)) w := by
      refine run_mapM g fun f hfm => ?_
      rw [List.all_eq_true] at ha
      have := ha (f.offset, f.type) (by rw [hg]; exact List.mem_map_of_mem (Array.mem_toList_iff.2 hfm))
      simp [run_sz this]
    have hfill : Instr.fill ((g.map fun f => (f.offset, fr.X.sz f.type))[·]?) iv.toArray ((parts.map (·.1)).zip vs) = some (lay fs ((parts.map (·.1)).zip vs) iv).toArray := by
      refine fill_lay fr.X fs _ _ _ fun p hp => ?_
      rw [List.all_eq_true] at hf
      have := hf p hp
      split at this
      · rename_i o ft he
        simp only [Bool.and_eq_true] at this
        rw [hg] at he
        simp only [List.getElem?_map, Option.map_eq_some_iff] at he
        obtain ⟨fd, hfd, he⟩ := he
        cases he
        refine ⟨fd.offset, fr.X.sz fd.type, ?_, ?_, ?_, Nat.le_of_ble_eq_true this.2⟩
        · have : g[p.1]? = some fd := by rw [← Array.getElem?_toList]; exact hfd
          simp [this]
        · rw [hg]; simp [hfd]
        · simpa using Nat.eq_of_beq_eq_true this.1
      · cases this
    have hzc : z.cells = iv.toArray := by rw [← g7]
    have hm' : (g.mapM fun f => (Prod.mk f.offset <$> sizeOf f.type : Sem (Nat × Nat))).run P w = .ok (g.map fun f => (f.offset, fr.X.sz f.type)) w := by simpa using hm
    have hfill' := hfill
    simp only [Array.getElem?_map] at hfill'
    simp [execOp, Instr.build, hz, run_underlying g1, hm', hev, hzc, hfill']

/-! ### Rows of the call's own -/
/-- A slice that is owned, whole: n elements of sz cells each, of the element type e; what lies beyond is spare. -/
def Sl (e : TypeId) (sz : Nat) (A : Option Addr) (n c : Nat) (xs : List Value) : HP := fun h =>
  xs.length = n * sz ∧ n ≤ c ∧ c ≤ maxLen ∧ ((A = none ∧ c = 0 ∧ h = Hp.emp) ∨ ∃ g cur, A = some ⟨g, 0, none⟩ ∧ h = Hp.one g (.cells cur e (0, 0)) ∧ cur.size = c * sz ∧ cur.toList.take xs.length = xs)
theorem Sl.ofNil (e sz : Nat) : Sl e sz none 0 0 [] Hp.emp := ⟨by simp, Nat.le_refl _, Nat.zero_le _, .inl ⟨rfl, rfl, rfl⟩⟩
theorem Sl.ofCb {e sz b n : Nat} {l : List Value} (hl : l.length = n * sz) (hn : n ≤ maxLen) {h : Hp} (hc : cb b e l h) : Sl e sz (some ⟨b, 0, none⟩) n n l h :=
  ⟨hl, Nat.le_refl _, hn, .inr ⟨b, l.toArray, rfl, hc, by simp [hl], by simp⟩⟩
theorem Sat.imp {base : World} {M : Nat → Prop} {A B : HP} {L : List HP} {w : World} (h : Sat base M (A :: L) w) (f : ∀ k, A k → B k) : Sat base M (B :: L) w :=
  ⟨let ⟨k, ⟨h1, h2, a, l, d, e⟩, i, g⟩ := h.hp; ⟨k, ⟨h1, h2, f _ a, l, d, e⟩, i, g⟩, h.since⟩
theorem Sat.emp {base : World} {M : Nat → Prop} {B : HP} {L : List HP} {w : World} (h : Sat base M L w) (f : B Hp.emp) : Sat base M (B :: L) w :=
  ⟨let ⟨k, l, i, g⟩ := h.hp; ⟨k, ⟨Hp.emp, k, f, l, Hp.emp_disj _, rfl⟩, i, g⟩, h.since⟩
theorem J.imp {A B : HP} (f : ∀ k, A k → B k) (h : J fr ds ρ (B :: L) k) : J fr ds ρ (A :: L) k := fun a w ha hw => h a w ha (hw.imp f)
theorem J.emp {B : HP} (f : B Hp.emp) (h : J fr ds ρ (B :: L) k) : J fr ds ρ L k := fun a w ha hw => h a w ha (hw.emp f)
theorem Sl.owns {e sz n c : Nat} {A : Option Addr} {xs : List Value} {h : Hp} {w : World} {base : Nat} (s : Sl e sz A n c xs h) (i : h.In w) (hb : ∀ g, A = some ⟨g, 0, none⟩ → base ≤ g) : w.ownsRow base e sz (.slice A n c) n xs := by
  obtain ⟨h1, h2, h3, h4⟩ := s
  refine ⟨h1, ?_⟩
  rcases h4 with ⟨rfl, rfl, rfl⟩ | ⟨g, cur, rfl, rfl, h5, h6⟩
  · left
    have : n = 0 := by omega
    subst this
    exact ⟨rfl, rfl⟩
  · right
    exact ⟨g, c, cur, rfl, hb g rfl, i g _ (by simp [Hp.one]), h2, h3, h5, by rw [← h1]; exact h6⟩

theorem star_one {A : HP} {h : Hp} : star [A] h ↔ A h := by
  constructor
  · rintro ⟨h1, h2, a, rfl, _, rfl⟩; rw [Hp.add_emp]; exact a
  · intro a; exact ⟨h, Hp.emp, a, rfl, (Hp.emp_disj _).symm, (Hp.add_emp _).symm⟩
/-- One item of the list is turned. -/
theorem Sat.turn1 {base : World} {M : Nat → Prop} {A A' : HP} {L : List HP} {w w' : World} (h : Sat base M (A :: L) w)
    (ht : ∀ h1 : Hp, A h1 → h1.In w → ∃ h1' : Hp, A' h1' ∧ h1'.In w' ∧ (∀ b o, h1' b = some o → w.heap.size ≤ b ∨ h1 b ≠ none) ∧ ∀ b, b < w.heap.size → h1 b = none → w'.heap[b]? = w.heap[b]?)
    (hs : w.heap.size ≤ w'.heap.size) (eo : w'.os = w.os) (et : w'.tape = w.tape) (ep : w'.output = w.output) : Sat base M (A' :: L) w' := by
  obtain ⟨N, ⟨h1, s1, i1, n1⟩, hf, _⟩ := Sat.framed (pre := [A]) (R := L) h
  obtain ⟨h1', a', i', d', k'⟩ := ht h1 (star_one.1 s1) i1
  refine hf [A'] w' ⟨⟨h1', star_one.2 a', i', fun b o e => ?_⟩, ⟨eo, et, ep, hs, fun b hb hn => k' b hb ?_⟩⟩
  · rcases d' b o e with x | x
    · exact .inl x
    · exact .inr ((n1 b).2 x)
  · cases e : h1 b with
    | none => rfl
    | some o => exact absurd ((n1 b).2 (by rw [e]; simp)) hn
/-- append: what is owned grows. -/
theorem Sat.append {base : World} {M : Nat → Prop} {L : List HP} {w : World} {t ty e : TypeId} {A : Option Addr} {n c m c' sz ib : Nat} {i : TI} {xs news : List Value} {ad : Addr} {t0 : TI}
    (h : Sat base M (Sl e sz A n c xs :: L) w) (ht : TI.of P t = some t0) (ht0 : t0.ty = .sl e) (hi : TI.of P e = some i) (hsz : i.size = sz) (hby : i.bytes = ib) (hz : i.zero.length = sz) (h0 : 0 < sz)
    (hl : news.length = m * sz) (hnews : ∀ j u, news[j]? = some u → w.cell? (ad.add j) = some u) (h1 : ∀ u ∈ news, Value.one u = true) (h63 : n + m ≤ 4611686018427387904) (hbytes : (n + m) * ib ≤ 140737488355328) :
    ∃ A' c'' w', (Builtin.append_ #[t, t] ty #[.slice A n c, .slice (some ad) m c']).run P w = .ok (.slice A' (n + m) c'') w' ∧ Sat base M (Sl e sz A' (n + m) c'' (xs ++ news) :: L) w' := by
  obtain ⟨d, inf, z, g1, g2, g3, g4, g5, g6, g7⟩ := TI.of_spec ht
  rw [ht0] at g4
  have := Ty.of_sl g4
  subst this
  obtain ⟨d', inf', z', k1, k2, k3, k4, k5, k6, k7⟩ := TI.of_spec hi
  have hone : ∀ u ∈ news, u.oneCell' = true := fun u hu => by have := h1 u hu; cases u <;> first | rfl | cases this
  -- what is owned, as the kit's word has it
  obtain ⟨hp, ⟨hp1, hp2, a1, _, _, rfl⟩, hin, _⟩ := h.hp
  have i1 : hp1.In w := fun b o x => hin b o (Hp.add_left x)
  have hown := Sl.owns (base := 0) a1 i1 (fun _ _ => Nat.zero_le _)
  obtain ⟨v', w', hr, hown', hg, _, hat⟩ := run_append_own_at w 0 t ty e inf' z' sz ib g1 k2 k3 (k5.trans hsz) (k6.trans hby) (by rw [← Array.length_toList, k7, hz]) h0 _ n xs hown ad m c' news hl hnews hone (by unfold maxLen; omega) hbytes (Nat.zero_le _)
  have hform : ∃ A' c'', v' = .slice A' (n + m) c'' ∧ (A' = none ∧ c'' = 0 ∨ ∃ g cur, A' = some ⟨g, 0, none⟩ ∧ w'.heap[g]? = some (.cells cur e (0, 0)) ∧ n + m ≤ c'' ∧ c'' ≤ maxLen ∧ cur.size = c'' * sz ∧ cur.toList.take ((n + m) * sz) = xs ++ news) := by
    rcases hown'.2 with ⟨rfl, hn⟩ | ⟨g, cap, cur, rfl, _, q1, q2, q3, q4, q5⟩
    · exact ⟨none, 0, by rw [hn], .inl ⟨rfl, rfl⟩⟩
    · exact ⟨_, _, rfl, .inr ⟨g, cur, rfl, q1, q2, q3, q4, q5⟩⟩
  obtain ⟨A', c'', rfl, hA'⟩ := hform
  refine ⟨A', c'', w', hr, h.turn1 (fun k1 ak ik => ?_) hg.size hg.os hg.tape hg.output⟩
  obtain ⟨b1, b2, b3, b4⟩ := ak
  have hlen := hown'.1
  rcases hA' with ⟨rfl, rfl⟩ | ⟨g, cur, rfl, q1, q2, q3, q4, q5⟩
  · -- nothing was there, and nothing was appended
    have hnm : n + m = 0 := by
      rcases hown'.2 with ⟨_, hn⟩ | ⟨g, cap, cur, hv, _⟩
      · exact hn
      · cases hv
    refine ⟨Hp.emp, ⟨hlen, by omega, Nat.zero_le _, .inl ⟨rfl, rfl, rfl⟩⟩, Hp.emp_in _, fun b o x => (Hp.emp_no x).elim, fun b hb hk => ?_⟩
    refine hg.block b hb fun x => ?_
    rcases b4 with ⟨rfl, _, _⟩ | ⟨g, cur, rfl, rfl, _, _⟩
    · simp [Value.ownBlock] at x
    · simp only [Value.ownBlock, Option.some.injEq] at x
      subst x
      simp [Hp.one] at hk
  · refine ⟨Hp.one g (.cells cur e (0, 0)), ⟨hlen, q2, q3, .inr ⟨g, cur, rfl, rfl, q4, by rw [hlen]; exact q5⟩⟩, fun b o x => ?_, fun b o x => ?_, fun b hb hk => ?_⟩
    · simp only [Hp.one] at x; split at x
      · rename_i hb; cases x; rw [hb]; exact q1
      · cases x
    · simp only [Hp.one] at x; split at x
      · rename_i hb; subst hb
        rcases hat with y | y
        · right
          rcases b4 with ⟨rfl, _, _⟩ | ⟨g', cur', rfl, rfl, _, _⟩
          · simp [Value.ownBlock] at y
          · simp only [Value.ownBlock, Option.some.injEq] at y
            subst y
            simp [Hp.one]
        · left; simp only [Value.ownBlock, Option.some.injEq] at y; omega
      · cases x
    · refine hg.block b hb fun x => ?_
      rcases b4 with ⟨rfl, _, _⟩ | ⟨g', cur', rfl, rfl, _, _⟩
      · simp [Value.ownBlock] at x
      · simp only [Value.ownBlock, Option.some.injEq] at x
        subst x
        simp [Hp.one] at hk

class UpdS (A : Option Addr) (e sz n c : outParam Nat) (xs : outParam (List Value)) (L : List HP) (rem : outParam (List HP)) : Prop where
  perm : L.Perm (Sl e sz A n c xs :: rem)
instance (A : Option Addr) (e sz n c : Nat) (xs : List Value) (L : List HP) : UpdS A e sz n c xs (Sl e sz A n c xs :: L) L := ⟨List.Perm.refl _⟩
instance (priority := low) (A : Option Addr) (e sz n c : Nat) (xs : List Value) (B : HP) (L rem : List HP) [h : UpdS A e sz n c xs L rem] : UpdS A e sz n c xs (B :: L) (B :: rem) :=
  ⟨(List.Perm.cons B h.perm).trans (List.Perm.swap _ _ _)⟩
/-- append of what can be read. -/
theorem s_appendR {x y : Operand} {t e : TypeId} {A : Option Addr} {n c m c' sz ib : Nat} {xs news : List Value} {ad : Addr} {ib0 : Nat} {iv0 : List Value} {ity : Ty} {iv : List Value} {rem : List HP} {sz0 : Nat}
    (hx : ρ.ev x = some (.slice A n c)) (hy : ρ.ev y = some (.slice (some ad) m c')) [hm : UpdS A e sz n c xs L rem] (ht : fr.X.tab[t]? = some (some ⟨.sl e, sz0, ib0, iv0⟩)) (hi : fr.X.tab[e]? = some (some ⟨ity, sz, ib, iv⟩))
    (hz : iv.length = sz) (h0 : Nat.ble 1 sz = true) (hd : Nat.ble (d + 1) fr.n = true)
    (hnews : ∀ w, Sat fr.base fr.M (Sl e sz A n c xs :: rem) w → ∀ j u, news[j]? = some u → w.cell? (ad.add j) = some u) (hl : news.length = m * sz) (h1 : ∀ u ∈ news, Value.one u = true) (h63 : n + m ≤ 4611686018427387904) (hbytes : (n + m) * ib ≤ 140737488355328)
    (h : ∀ A' c'', J fr ds ((d, .slice A' (n + m) c'') :: ρ) (Sl e sz A' (n + m) c'' (xs ++ news) :: rem) (.ops all rest :: k)) :
    J fr ds ρ L (.ops all (⟨some d, .call ⟨.builtin .append, #[x, y], #[t, t]⟩, ty, pos, af, none⟩ :: rest) :: k) :=
  s_eff (fun c e => by cases e) hd fun a w ha hw o ho _ => by
    have hw' := hw.perm hm.perm
    obtain ⟨A', c'', w', hr, hs⟩ := hw'.append (ty := o.type) (fr.X.ti ht) rfl (fr.X.ti hi) rfl rfl hz (Nat.le_of_ble_eq_true h0) hl (c' := c') (hnews w hw') h1 h63 hbytes
    refine ⟨.slice A' (n + m) c'', w', _, ?_, hs, h A' c''⟩
    unfold execOp; rw [ho]
    simp [resolve, invoke, builtin, ha.ev hx, ha.ev hy, hr]
/-- append of elements (a row that was just built). -/
theorem s_append {x y : Operand} {t e : TypeId} {A : Option Addr} {n c m c' sz ib b T : Nat} {xs news : List Value} {ib0 : Nat} {iv0 : List Value} {ity : Ty} {iv : List Value} {rem : List HP} {sz0 : Nat}
    (hx : ρ.ev x = some (.slice A n c)) (hy : ρ.ev y = some (.slice (some ⟨b, 0, none⟩) m c')) [hm : UpdS A e sz n c xs L rem] [hb : HasB b T news rem] (ht : fr.X.tab[t]? = some (some ⟨.sl e, sz0, ib0, iv0⟩)) (hi : fr.X.tab[e]? = some (some ⟨ity, sz, ib, iv⟩))
    (hz : iv.length = sz) (h0 : Nat.ble 1 sz = true) (hd : Nat.ble (d + 1) fr.n = true)
    (hl : news.length = m * sz) (h1 : news.all Value.one = true) (h63 : n + m ≤ 1099511627776) (hbytes : Nat.ble ib 100 = true)
    (h : ∀ A' c'', J fr ds ((d, .slice A' (n + m) c'') :: ρ) (Sl e sz A' (n + m) c'' (xs ++ news) :: rem) (.ops all rest :: k)) :
    J fr ds ρ L (.ops all (⟨some d, .call ⟨.builtin .append, #[x, y], #[t, t]⟩, ty, pos, af, none⟩ :: rest) :: k) :=
  s_appendR hx hy ht hi hz h0 hd (fun w hw j u hj => by
    have := hw.cbcell (List.mem_cons_of_mem _ hb.mem) (o := j) hj
    rw [addr_add, Nat.zero_add]; exact this) hl (by simpa using h1) (by omega)
    (Nat.le_trans (Nat.mul_le_mul_left _ (Nat.le_of_ble_eq_true hbytes)) (by omega)) h
/-- A row built of its elements (one cell each). -/
def layS (sz : Nat) : List (Nat × Value) → List Value → List Value
  | [], z => z
  | (i, v) :: ps, z => layS sz ps (setAll z (i * sz) v.cells.toList)
theorem fill_layS (sz : Nat) : ∀ (ps : List (Nat × Value)) (z : List Value),
    (∀ p ∈ ps, p.2.cells.size = sz ∧ p.1 * sz + sz ≤ z.length) → Instr.fill (fun i => some (i * sz, sz)) z.toArray ps = some (layS sz ps z).toArray
  | [], z, _ => by simp [Instr.fill, layS]
  | (i, v) :: ps, z, h => by
    obtain ⟨h3, h4⟩ := h (i, v) List.mem_cons_self
    simp only at h3 h4
    have hfo : Array.foldl (fun cs (x : Value × Nat) => cs.setIfInBounds (i * sz + x.2) x.1) z.toArray v.cells.zipIdx = (setAll z (i * sz) v.cells.toList).toArray := by
      have := foldl_set v.cells.toList z.toArray (i * sz) 0
      simp only [Nat.add_zero] at this
      rw [← this, ← Array.foldl_toList, Array.toList_zipIdx]
    simp only [Instr.fill]
    rw [if_neg (by simp [h3]; omega)]
    have ih := fill_layS sz ps (setAll z (i * sz) v.cells.toList) (fun p hp => by
      obtain ⟨g3, g4⟩ := h p (List.mem_cons_of_mem _ hp)
      exact ⟨g3, by rw [setAll_length]; exact g4⟩)
    simp only [layS]
    rw [← ih]
    congr 1
/-- n zero elements. -/
def zerosOf (z : List Value) : Nat → List Value
  | 0 => []
  | n + 1 => z ++ zerosOf z n
theorem zerosOf_length (z : List Value) : ∀ n, (zerosOf z n).length = n * z.length
  | 0 => by simp [zerosOf]
  | n + 1 => by simp [zerosOf, zerosOf_length z n, Nat.add_mul]; omega
theorem zerosOf_get (z : List Value) (h : 0 < z.length) : ∀ n i, i < n * z.length → (zerosOf z n)[i]? = z[i % z.length]?
  | 0, i, hi => by simp at hi
  | n + 1, i, hi => by
    simp only [zerosOf]
    by_cases hlt : i < z.length
    · rw [List.getElem?_append_left hlt, Nat.mod_eq_of_lt hlt]
    · rw [List.getElem?_append_right (by omega), zerosOf_get z h n (i - z.length) (by rw [Nat.add_mul] at hi; omega)]
      congr 1
      rw [Nat.mod_eq_sub_mod (show i ≥ z.length by omega)]
theorem made_zeros (z : List Value) (n : Nat) (h : 0 < z.length) : ((Array.range (n * z.length)).map fun i => z.toArray[i % z.toArray.size]!) = (zerosOf z n).toArray := by
  apply Array.ext'
  apply List.ext_getElem?
  intro i
  by_cases hi : i < n * z.length
  · rw [zerosOf_get z h n i hi]
    have hm : i % z.length < z.length := Nat.mod_lt _ h
    simp [hi, hm]
  · rw [List.getElem?_eq_none (by simp; omega), List.getElem?_eq_none (by simp [zerosOf_length]; omega)]
theorem run_bslice {t e : TypeId} {n sz : Nat} {ps : List (Nat × Value)} {iv : List Value} {z : Value} {w : World} (g1 : P.underlying t = some (.slice e)) (hsz : (sizeOf e).run P w = .ok sz w) (hz : (zeroValue e).run P w = .ok z w) (hzc : z.cells = iv.toArray)
    (hiv : iv.length = sz) (h0 : 1 ≤ sz) (hn : n * sz ≤ 16777216) (hp : ∀ p ∈ ps, p.2.cells.size = sz ∧ p.1 * sz + sz ≤ n * sz) :
    (Instr.buildSlice t n ps.toArray).run P w = .ok (.slice (some ⟨w.heap.size, 0, none⟩) n n) (w.alloc (.cells (layS sz ps (zerosOf iv n)).toArray e (0, 0))) := by
  have hfill : Instr.fill (fun i => some (i * sz, sz)) (zerosOf iv n).toArray ps = some (layS sz ps (zerosOf iv n)).toArray :=
    fill_layS sz _ _ fun p hp' => ⟨(hp p hp').1, by rw [zerosOf_length, hiv]; exact (hp p hp').2⟩
  have h16 : ¬ (2 ^ 24 < n * sz) := by omega
  by_cases hn0 : n = 0
  · subst hn0
    simp only [zerosOf] at hfill
    simp only [Instr.buildSlice, Sem.run_bind, run_underlying g1, Result.andThen_ok, hsz, Nat.zero_mul, Nat.not_lt_zero, gt_iff_lt, if_false, Sem.run_pure, if_true]
    have h00 : (Array.map (fun x => (#[] : Array Value)[x % (#[] : Array Value).size]!) (Array.range 0)) = #[] := by simp
    simp only [h00, hfill, newRow, Sem.run_bind, run_newObj, Result.andThen_ok, Sem.run_pure, zerosOf]
    rfl
  · have hne : n * sz ≠ 0 := by
      intro x; rcases Nat.mul_eq_zero.1 x with y | y <;> omega
    have hmz := made_zeros iv n (by omega)
    rw [hiv] at hmz
    simp only [Instr.buildSlice, Sem.run_bind, run_underlying g1, Result.andThen_ok, hsz, gt_iff_lt, h16, if_false, Sem.run_pure, hne, hz, hzc, hmz, hfill, newRow, run_newObj]
    rfl
theorem s_bslice {t e : TypeId} {n : Nat} {parts : List (Nat × Operand)} {vs : List Value} {ib0 sz0 sz ib : Nat} {iv0 iv : List Value} {ity : Ty} (hx : ρ.evs (parts.map (·.2)) = some vs) (ht : fr.X.tab[t]? = some (some ⟨.sl e, sz0, ib0, iv0⟩))
    (hi : fr.X.tab[e]? = some (some ⟨ity, sz, ib, iv⟩)) (hz : iv.length = sz) (h0 : Nat.ble 1 sz = true) (hn : Nat.ble (n * sz) 16777216 = true) (hd : Nat.ble (d + 1) fr.n = true)
    (hf : ((parts.map (·.1)).zip vs).all (fun p => Nat.beq p.2.cells.toList.length sz && Nat.ble (p.1 * sz + sz) (n * sz)) = true)
    (h : ∀ b, J fr ds ((d, .slice (some ⟨b, 0, none⟩) n n) :: ρ) (cb b e (layS sz ((parts.map (·.1)).zip vs) (zerosOf iv n)) :: L) (.ops all rest :: k)) :
    J fr ds ρ L (.ops all (⟨some d, .buildSlice t n parts.toArray, ty, pos, af, none⟩ :: rest) :: k) :=
  s_eff (fun c e => by cases e) hd fun a w haa hw o ho _ => by
    obtain ⟨d', inf, z', g1, g2, g3, g4, g5, g6, g7⟩ := TI.of_spec (fr.X.ti ht)
    have := Ty.of_sl g4
    subst this
    obtain ⟨z, hzr, hzl⟩ := run_zero (w := w) (fr.X.ti hi)
    have hsz := run_sizeOf (w := w) (fr.X.ti hi)
    simp only at hzl hsz
    have hev : (parts.map fun p => (p.1, a.eval p.2)) = (parts.map (·.1)).zip vs := by
      rw [← haa.evs hx]
      simp [List.zip_map', List.map_map, Function.comp_def]
    have hr := run_bslice (P := P) (w := w) (ps := (parts.map (·.1)).zip vs) g1 hsz hzr (by rw [← hzl]) hz (Nat.le_of_ble_eq_true h0) (Nat.le_of_ble_eq_true hn) (fun p hp => by
      rw [List.all_eq_true] at hf
      have := hf p hp
      simp only [Bool.and_eq_true] at this
      exact ⟨by simpa using Nat.eq_of_beq_eq_true this.1, Nat.le_of_ble_eq_true this.2⟩)
    refine ⟨.slice (some ⟨w.heap.size, 0, none⟩) n n, w.alloc (.cells (layS sz ((parts.map (·.1)).zip vs) (zerosOf iv n)).toArray e (0, 0)), _, ?_, hw.alloc _, h _⟩
    unfold execOp; rw [ho]
    simp [hev, hr]
/-! ### Rows that are owned, read -/
def ints (xs : List Int) : List Value := xs.map (Value.int .i64)
theorem ints_get {xs : List Int} {i : Nat} (h : i < xs.length) : (ints xs)[i]? = some (.int .i64 (xs.getD i 0)) := by
  simp [ints, List.getElem?_eq_getElem h]
theorem ints_length (xs : List Int) : (ints xs).length = xs.length := by simp [ints]
theorem Sl.rd {e sz n c : Nat} {A : Option Addr} {vs : List Value} {h : Hp} {w : World} (s : Sl e sz A n c vs h) (i : h.In w) : ∀ j v, vs[j]? = some v → ∃ ad, A = some ad ∧ w.cell? (ad.add j) = some v := by
  intro j v hj
  obtain ⟨_, _, _, h4⟩ := s
  have hlt : j < vs.length := (List.getElem?_eq_some_iff.1 hj).1
  rcases h4 with ⟨rfl, rfl, rfl⟩ | ⟨g, cur, rfl, rfl, h5, h6⟩
  · have : n = 0 := by omega
    subst this
    omega
  · refine ⟨_, rfl, ?_⟩
    rw [addr_add, Nat.zero_add]
    have hb := i g (.cells cur e (0, 0)) (by simp [Hp.one])
    have hc : cur.toList[j]? = some v := by rw [← h6, List.getElem?_take] at hj; split at hj <;> first | exact hj | cases hj
    simp only [World.cell?, hb]
    simpa using hc
theorem Sat.slRd {base : World} {M : Nat → Prop} {L : List HP} {e sz n c : Nat} {A : Option Addr} {vs : List Value} {w : World} (h : Sat base M L w) (hm : Sl e sz A n c vs ∈ L) : ∀ j v, vs[j]? = some v → ∃ ad, A = some ad ∧ w.cell? (ad.add j) = some v := by
  obtain ⟨k, s, i⟩ := h.has hm
  exact s.rd i
theorem Sat.slRdI {base : World} {M : Nat → Prop} {L : List HP} {e n c : Nat} {A : Option Addr} {xs : List Int} {w : World} (h : Sat base M L w) (hm : Sl e 1 A n c (ints xs) ∈ L) : RdI w A xs :=
  fun i hi => h.slRd hm i _ (ints_get hi)
class HasS (A : Option Addr) (e sz n c : outParam Nat) (xs : outParam (List Value)) (L : List HP) : Prop where
  mem : Sl e sz A n c xs ∈ L
instance (A : Option Addr) (e sz n c : Nat) (xs : List Value) (L : List HP) : HasS A e sz n c xs (Sl e sz A n c xs :: L) := ⟨List.mem_cons_self⟩
instance (priority := low) (A : Option Addr) (e sz n c : Nat) (xs : List Value) (B : HP) (L : List HP) [h : HasS A e sz n c xs L] : HasS A e sz n c xs (B :: L) := ⟨List.mem_cons_of_mem _ h.mem⟩
theorem y_ixS {t e : TypeId} {x ix : Operand} {i : TI} {jt : Ty} {jz jb : Nat} {jv : List Value} {A : Option Addr} {n c : Nat} {kd : IntKind} {q : Int} {xs : List Int} (hx : ρ.ev x = some (.slice A n c)) (hix : ρ.ev ix = some (.int kd q)) (hs : fr.X.tab[t]? = some (some i))
    (hi : i.ty = .sl e) (hj : fr.X.tab[e]? = some (some ⟨jt, jz, jb, jv⟩)) (hr : ∀ w, Sat fr.base fr.M L w → RdI w A xs) (hn : n = xs.length) (h0 : 0 ≤ q) (h1 : q < n) : Yd fr ds ρ L (.indexAddr t x ix) ty (.pointer (some ((A.getD default).add (q.toNat * jz)))) := by
  refine exec_v (fun c e => by cases e) fun a w ha hw dst pos af g => ?_
  obtain ⟨ad, rfl, _⟩ := hr w hw q.toNat (by omega)
  exact (y_indexAddr (ad := ad) hx hix hs hi hj h0 h1 rfl).2 a w ha hw _ rfl rfl
theorem y_ldS {t : TypeId} {x : Operand} {i : TI} {A : Option Addr} {sz : Nat} {q : Nat} {xs : List Int} (hx : ρ.ev x = some (.pointer (some ((A.getD default).add ((q : Int).toNat * sz))))) (ht : fr.X.tab[t]? = some (some i)) (hi : i.ty.agg = false)
    (h1 : Nat.beq sz 1 = true) (hr : ∀ w, Sat fr.base fr.M L w → RdI w A xs) (hq : q < xs.length) : Yd fr ds ρ L (.load t x) ty (.int .i64 (xs.getD q 0)) :=
  y_load1 hx ht hi fun w hw => by
    have e : sz = 1 := Nat.eq_of_beq_eq_true h1
    subst e
    obtain ⟨ad, rfl, hc⟩ := hr w hw q hq
    simpa using hc
theorem KI.of {base w : World} {M N : Nat → Prop} {L : List HP} {A : Option Addr} {xs : List Int} (h : KI base M A xs) (hl : ∀ w', Since w N w' → Sat base M L w') : KI w N A xs := fun w' h' => h w' (hl w' h').since
theorem KI.ofS {base w : World} {M N : Nat → Prop} {L : List HP} {e n c : Nat} {A : Option Addr} {xs : List Int} (hl : ∀ w', Since w N w' → Sat base M L w') (hm : Sl e 1 A n c (ints xs) ∈ L) : KI w N A xs := fun w' h' => (hl w' h').slRdI hm
theorem Sl.facts {e sz n c : Nat} {A : Option Addr} {vs : List Value} : ∀ h, Sl e sz A n c vs h → vs.length = n * sz ∧ n ≤ c := fun _ s => ⟨s.1, s.2.1⟩
end
end Go.E
