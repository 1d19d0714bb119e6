/- Layer 6 (mir): what lent targets read as. -/
import Derived.Test.YtgpebcfeeagoaaaMirQ
import Derived.Test.YtgpebcfeeagoaaaMirL
import Derived.Test.YtgpebcfeeagoaaaEEb
set_option linter.unusedVariables false
set_option linter.unusedSimpArgs false
namespace Go.Proofs.Ytgpebcfeeagoaaa
open Go Go.E
theorem satTake {base w : World} {M : Nat → Prop} {L : List HP} {A : HP} (hm : A ∈ L) (h : Sat base M L w) : ∃ R, Sat base M (A :: R) w := by
  obtain ⟨l1, l2, rfl⟩ := List.append_of_mem hm
  exact ⟨_, h.perm List.perm_middle⟩
theorem KE.pre {α : Type} {sz : Nat} {enc : α → List Value} {d : α} {base : World} {M : Nat → Prop} {A : Option Addr} {xs ys : List α} (h : KE sz enc d base M A (xs ++ ys)) : KE sz enc d base M A xs := fun w hw i hi => by
  obtain ⟨ad, hA, hc⟩ := h w hw i (by rw [List.length_append]; omega)
  refine ⟨ad, hA, fun j v hj => hc j v ?_⟩
  rw [app_getD_l hi]; exact hj
structure LentF (w : World) (N : Nat → Prop) (T : Option Addr) (t : Nat) (l : List BlkD) : Prop where
  blk : KE 5 encBlk .no w N T (l ++ marksB)
  cap : l.length + 12 ≤ t
  row : ∀ b ∈ l, KE 8 encIns .no w N b.A (b.ins ++ marksI) ∧ b.ins.length + 12 ≤ b.c
  args : ∀ b ∈ l, ∀ i ∈ b.ins, KI w N i.A (i.xs ++ marks) ∧ i.xs.length + 12 ≤ i.c
theorem LentF.kb {w : World} {N : Nat → Prop} {T : Option Addr} {t : Nat} {l : List BlkD} (h : LentF w N T t l) : KB w N T l := ⟨KE.pre h.blk, fun b hb => KE.pre (h.row b hb).1, fun b hb i hi => KI.pre (h.args b hb i hi).1⟩
theorem getD_of_mem {α : Type} (d : α) {l : List α} {x : α} (h : x ∈ l) : ∃ k, k < l.length ∧ l.getD k d = x := by
  obtain ⟨k, hk, rfl⟩ := List.mem_iff_getElem.1 h
  exact ⟨k, hk, by rw [List.getD_eq_getElem?_getD, List.getElem?_eq_getElem hk]; rfl⟩
theorem lentF {base w : World} {M N : Nat → Prop} {L : List HP} {T : Option Addr} {t : Nat} {l : List BlkD} (hl : ∀ w', Since w N w' → Sat base M L w') (hm : blksHP T t l ∈ L) : LentF w N T t l := by
  have s0 : ∀ w', Since w N w' → ∃ R, Sat base M (Sl 42 5 T (l.length + 12) t ((l ++ marksB).flatMap encBlk) :: bs (fun k => blkHP (l.getD k .no)) l.length :: R) w' := fun w' h' => by
    obtain ⟨R, h⟩ := satTake hm (hl w' h')
    exact ⟨R, Sat.group.1 h⟩
  have s1 : ∀ w', Since w N w' → ∀ b ∈ l, ∃ R, Sat base M (Sl 30 8 b.A (b.ins.length + 12) b.c ((b.ins ++ marksI).flatMap encIns) :: bs (fun j => argsHP (b.ins.getD j .no)) b.ins.length :: R) w' := fun w' h' b hb => by
    obtain ⟨R, h⟩ := s0 w' h'
    obtain ⟨k, hk, rfl⟩ := getD_of_mem BlkD.no hb
    obtain ⟨R2, h2⟩ := Sat.focus hk h (List.mem_cons_of_mem _ List.mem_cons_self)
    exact ⟨R2, Sat.group.1 h2⟩
  have s2 : ∀ w', Since w N w' → ∀ b ∈ l, ∀ i ∈ b.ins, ∃ R, Sat base M (Sl 3 1 i.A (i.xs.length + 12) i.c (ints (i.xs ++ marks)) :: R) w' := fun w' h' b hb i hi => by
    obtain ⟨R, h⟩ := s1 w' h' b hb
    obtain ⟨k, hk, rfl⟩ := getD_of_mem InsD.no hi
    exact Sat.focus hk h (List.mem_cons_of_mem _ List.mem_cons_self)
  have cap : ∀ {e sz n c : Nat} {A : Option Addr} {vs : List Value} {R : List HP} {w' : World}, Sat base M (Sl e sz A n c vs :: R) w' → n ≤ c := fun h => by
    obtain ⟨k, hk, _⟩ := h.has List.mem_cons_self
    exact (Sl.facts _ hk).2
  refine ⟨fun w' h' => ?_, ?_, fun b hb => ⟨fun w' h' => ?_, ?_⟩, fun b hb i hi => ⟨?_, ?_⟩⟩
  · obtain ⟨R, h⟩ := s0 w' h'
    exact h.slE (fun _ => rfl) (by omega) List.mem_cons_self
  · obtain ⟨R, h⟩ := s0 w (Since.refl _ _)
    exact cap h
  · obtain ⟨R, h⟩ := s1 w' h' b hb
    exact h.slE (fun _ => rfl) (by omega) List.mem_cons_self
  · obtain ⟨R, h⟩ := s1 w (Since.refl _ _) b hb
    exact cap h
  · intro w' h' q hq
    obtain ⟨R, h⟩ := s2 w' h' b hb i hi
    obtain ⟨ad, hA, hc⟩ := h.slRd List.mem_cons_self q _ (ints_get hq)
    exact ⟨ad, hA, hc⟩
  · obtain ⟨R, h⟩ := s2 w (Since.refl _ _) b hb i hi
    exact cap h
theorem rightE_like {m : MV} {f : Int} {l bs : List BlkD} (h : AllLike l bs) : rightE m f l = rightE m f bs := by
  obtain ⟨hl, h⟩ := h
  have e2 : (∃ b ∈ l, 4000 < b.ins.length) ↔ ∃ b ∈ bs, 4000 < b.ins.length := by
    constructor
    · rintro ⟨b, hb, hx⟩
      obtain ⟨k, hk, rfl⟩ := getD_of_mem BlkD.no hb
      exact ⟨bs.getD k .no, getD_mem BlkD.no (by omega), by rw [← (h k (by omega)).ins.len]; exact hx⟩
    · rintro ⟨b, hb, hx⟩
      obtain ⟨k, hk, rfl⟩ := getD_of_mem BlkD.no hb
      exact ⟨l.getD k .no, getD_mem BlkD.no (by omega), by rw [(h k hk).ins.len]; exact hx⟩
  have e1 : l.map (blkE m f bs.length) = bs.map (blkE m f bs.length) := by
    refine List.ext_getElem (by simp [hl]) fun k h1 h2 => ?_
    rw [List.getElem_map, List.getElem_map]
    have hk : k < bs.length := by simpa using h2
    have := h k hk
    rw [List.getD_eq_getElem?_getD, List.getElem?_eq_getElem (by omega), List.getD_eq_getElem?_getD, List.getElem?_eq_getElem hk] at this
    have this : (l[k]).like (bs[k]) := this
    rw [blkE, blkE, this.ins.insE]
    unfold termE
    rw [show l[k].kind = bs[k].kind from this.kind, show l[k].a = bs[k].a from this.a, show l[k].t0 = bs[k].t0 from this.t0, show l[k].t1 = bs[k].t1 from this.t1]
  unfold rightE
  rw [hl, e1]
  simp only [e2]
theorem sizeT_like {l bs : List BlkD} (h : AllLike l bs) : sizeT l = sizeT bs := by
  have key : ∀ (l bs : List BlkD), l.length = bs.length → (∀ k, k < bs.length → (l.getD k .no).like (bs.getD k .no)) → sumI l = sumI bs := by
    intro l
    induction l with
    | nil => intro bs h _; rw [List.eq_nil_of_length_eq_zero h.symm]
    | cons x l ih =>
      intro bs h hk
      match bs, h with
      | y :: bs, h =>
        have h0 := hk 0 (by simp)
        have := ih bs (by simpa using h) (fun k h2 => hk (k + 1) (by simpa using h2))
        simp only [sumI, this]
        have : x.ins.length = y.ins.length := h0.ins.len
        omega
  rw [sizeT, sizeT, h.len, key l bs h.len h.each]
end Go.Proofs.Ytgpebcfeeagoaaa
