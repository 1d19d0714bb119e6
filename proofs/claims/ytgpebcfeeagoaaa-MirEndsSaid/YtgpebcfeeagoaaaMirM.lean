/- Layer 6 (mir), plain: the places of what is right. -/
import Derived.Test.YtgpebcfeeagoaaaMirL
set_option linter.unusedVariables false
set_option linter.unusedSimpArgs false
namespace Go.Proofs.Ytgpebcfeeagoaaa
open Go Go.E
theorem insE_in {r : Int} {n : Nat} {f : Int} {i : InsD} (hi : insE r n f i = 0) : hasP i.op ≠ 0 ∧ inR r i.dst = true ∧ inR r i.a = true ∧ inR r i.b = true ∧ (hasP i.op &&& 16 ≠ 0 → 0 ≤ i.imm ∧ i.imm < f) := by
  unfold insE at hi
  dsimp only at hi
  split at hi
  · cases hi
  · rename_i h1
    split at hi
    · cases hi
    · split at hi
      · cases hi
      · rename_i h3
        split at hi
        · cases hi
        · rename_i h4
          obtain ⟨a1, a2, a3⟩ := Classical.not_not.1 h3
          exact ⟨fun x => h1 (.inl x), a1, a2, a3, fun x => Classical.not_not.1 (fun y => h4 ⟨x, y⟩)⟩
theorem placeB_reg {r f x : Int} (h : inR r x = true) : placeB r f (false, x) = true := by
  simp only [inR, decide_eq_true_eq] at h
  simp [placeB, h]
theorem placeB_slot {r f x : Int} (h : 0 ≤ x ∧ x < f) : placeB r f (true, x) = true := by
  simp [placeB, h]
theorem reads_all {r f : Int} {args : List Int} {i : InsD} (ha : setOK r args = true) (h : insE r args.length f i = 0) : (readsL args i).all (placeB r f) = true := by
  obtain ⟨h0, h1, h2, h3, h4⟩ := insE_in h
  unfold readsL
  split
  · rw [List.all_eq_true]
    intro x hx
    obtain ⟨y, hy, rfl⟩ := List.mem_map.1 hx
    have hy := List.mem_of_mem_take hy
    simp only [setOK, Bool.and_eq_true, List.all_eq_true, decide_eq_true_eq] at ha
    exact placeB_reg (by simp only [inR, decide_eq_true_eq]; exact ha.1 y hy)
  split
  · simp [regsL, placeB_reg h2, placeB_reg h3]
  split
  · simp [regsL, placeB_reg h2]
  split
  · rename_i h5; simp [placeB_slot (h4 h5)]
  · rfl
theorem reads_len (args : List Int) (i : InsD) : (readsL args i).length ≤ args.length + 2 := by
  unfold readsL
  repeat (first | (split; · simp [regsL] <;> omega) | (split; · simp [regsL]) | simp)
theorem writes_all {r f ret : Int} {n : Nat} {i : InsD} (ha : inR r ret = true) (h : insE r n f i = 0) : (writesL ret i).all (placeB r f) = true ∧ (writesL ret i).length ≤ 1 := by
  obtain ⟨h0, h1, h2, h3, h4⟩ := insE_in h
  unfold writesL
  split
  · simp [regsL, placeB_reg ha]
  split
  · simp [regsL, placeB_reg h1]
  split
  · rename_i h5; simp [placeB_slot (h4 h5)]
  · simp
theorem inserted_one {args : List Int} {ret : Int} {i : InsD} (h : insertedB i.op = true) : (readsL args i).length = 1 ∧ (writesL ret i).length = 1 := by
  simp only [insertedB, decide_eq_true_eq] at h
  rcases h with h | h | h <;> simp [readsL, writesL, hasP, h, regsL]
theorem op_copy {r : Int} {n : Nat} {f : Int} {i : InsD} (hi : insE r n f i = 0) : i.op ≠ 14 := fun x => (insE_in hi).1 (by simp [hasP, x])
theorem termE_in {r ret n : Int} {b : BlkD} (hn : 1 ≤ n) (h : termE r ret n b = 0) : (0 ≤ b.t0 ∧ b.t0 < n) ∧ (0 ≤ b.t1 ∧ b.t1 < n) ∧ (b.kind = 2 → inR r b.a = true) ∧ (b.kind = 3 → b.a ≠ -1 → b.a = ret) := by
  unfold termE at h
  split at h
  · rename_i h1
    split at h
    · cases h
    rename_i h2
    split at h
    · rename_i h3
      simp only [inR, decide_eq_true_eq] at h3
      refine ⟨h3, by omega, fun x => by omega, fun x => by omega⟩
    · cases h
  split at h
  · rename_i h1
    split at h
    · rename_i h2
      split at h
      · rename_i h3
        simp only [inR, decide_eq_true_eq] at h3 h2
        refine ⟨h3.1, h3.2, fun _ => by simpa [inR] using h2, fun x => by omega⟩
      · cases h
    · cases h
  split at h
  · rename_i h1
    split at h
    · cases h
    rename_i h2
    split at h
    · cases h
    rename_i h3
    refine ⟨by omega, by omega, fun x => by omega, fun _ x => Classical.byContradiction fun y => h3 ⟨x, y⟩⟩
  split at h
  · rename_i h1
    split at h
    · cases h
    rename_i h2
    refine ⟨by omega, by omega, fun x => by omega, fun x => by omega⟩
  · cases h
theorem needs_all {r f ret n : Int} {b : BlkD} (hr : inR r ret = true) (hn : 1 ≤ n) (h : termE r ret n b = 0) : (needsL b.kind b.a).all (placeB r f) = true ∧ (needsL b.kind b.a).length ≤ 1 := by
  obtain ⟨h1, h2, h3, h4⟩ := termE_in hn h
  unfold needsL
  split
  · rename_i h5
    rcases h5 with ⟨h5, h6⟩ | h5
    · rw [h4 h5 h6]; simp [regsL, placeB_reg hr]
    · simp [regsL, placeB_reg (h3 h5)]
  · simp
theorem sumI_le {bs : List BlkD} (h : ∀ b ∈ bs, b.ins.length ≤ 4000) : sumI bs ≤ 4000 * bs.length := by
  induction bs with
  | nil => simp [sumI]
  | cons b bs ih =>
    have := ih (fun x hx => h x (List.mem_cons_of_mem _ hx))
    have := h b List.mem_cons_self
    simp only [sumI, List.length_cons]; omega
theorem machOK_sets {m : MV} (h : machOK m = true) : setOK m.regs m.args = true ∧ inR m.regs m.ret = true := by
  simp only [machOK, Bool.and_eq_true, decide_eq_true_eq] at h
  refine ⟨h.1.2, ?_⟩
  have := h.2
  simp only [setOK, Bool.and_eq_true, List.all_eq_true, decide_eq_true_eq] at this
  simp only [inR, decide_eq_true_eq]
  exact this.1 _ List.mem_cons_self
end Go.Proofs.Ytgpebcfeeagoaaa
