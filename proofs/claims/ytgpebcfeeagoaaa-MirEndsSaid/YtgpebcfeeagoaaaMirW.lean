/- Layer 6 (mir), plain: what is right stays right for more registers, and in a greater frame; an instruction more. -/
import Derived.Test.YtgpebcfeeagoaaaMirP
set_option linter.unusedVariables false
set_option linter.unusedSimpArgs false
namespace Go.Proofs.Ytgpebcfeeagoaaa
open Go Go.E
theorem setOK_le {r s : Int} (h : r ≤ s) {l : List Int} (hl : setOK r l = true) : setOK s l = true := by
  simp only [setOK, Bool.and_eq_true, List.all_eq_true, decide_eq_true_eq] at hl ⊢
  exact ⟨fun x hx => ⟨(hl.1 x hx).1, by have := (hl.1 x hx).2; omega⟩, hl.2⟩
theorem machOK_64 {m : MV} (h : machOK m = true) : machOK { m with regs := 64 } = true := by
  simp only [machOK, Bool.and_eq_true, decide_eq_true_eq] at h ⊢
  obtain ⟨⟨⟨⟨h1, h2, h3, h4⟩, h5⟩, h6⟩, h7⟩ := h
  exact ⟨⟨⟨⟨by omega, by omega, h3, by omega⟩, h5⟩, setOK_le (by omega) h6⟩, setOK_le (by omega) h7⟩
theorem machOK_regs {m : MV} (h : machOK m = true) : 1 ≤ m.regs ∧ m.regs ≤ 64 ∧ m.args.length ≤ 8 := by
  simp only [machOK, Bool.and_eq_true, decide_eq_true_eq] at h
  exact ⟨h.1.1.1.1, h.1.1.1.2.1, h.1.1.1.2.2.1⟩
theorem blkE_zero {m : MV} {f n : Int} {b : BlkD} : blkE m f n b = 0 ↔ (∀ i ∈ b.ins, insE m.regs m.args.length f i = 0) ∧ termE m.regs m.ret n b = 0 := by
  rw [blkE, firstE_zero]
  simp only [List.mem_append, List.mem_map, List.mem_singleton]
  constructor
  · intro h; exact ⟨fun i hi => h _ (.inl ⟨i, hi, rfl⟩), h _ (.inr rfl)⟩
  · rintro ⟨h1, h2⟩ x (⟨i, hi, rfl⟩ | rfl)
    · exact h1 i hi
    · exact h2
theorem rightE_zero {m : MV} {f : Int} {bs : List BlkD} : rightE m f bs = 0 ↔ machOK m = true ∧ 1 ≤ bs.length ∧ bs.length ≤ 200 ∧ 0 ≤ f ∧ f ≤ 400 ∧ (∀ b ∈ bs, b.ins.length ≤ 4000) ∧ ∀ b ∈ bs, blkE m f bs.length b = 0 := by
  unfold rightE
  constructor
  · intro h
    split at h
    · cases h
    · rename_i h1
      split at h
      · cases h
      · rename_i h2
        rw [firstE_zero] at h
        simp only [not_or, not_exists, not_and] at h2
        refine ⟨by simpa using h1, by omega, by omega, by omega, by omega, fun b hb => by have := h2.2.2.2 b hb; omega, fun b hb => h _ (List.mem_map.2 ⟨b, hb, rfl⟩)⟩
  · rintro ⟨h1, h2, h3, h4, h5, h6, h7⟩
    rw [if_neg (by simp [h1]), if_neg (by
      rintro (x | x | x | ⟨b, hb, x⟩)
      · omega
      · omega
      · exact x ⟨h4, h5⟩
      · have := h6 b hb; omega), firstE_zero]
    intro x hx
    obtain ⟨b, hb, rfl⟩ := List.mem_map.1 hx
    exact h7 b hb
theorem right_wider {m : MV} {f g : Int} {bs : List BlkD} (s : Int) (hs : s = m.regs ∨ s = 64) (hg : f ≤ g) (hg4 : g ≤ 400) (h : rightE m f bs = 0) : rightE { m with regs := s } g bs = 0 := by
  rw [rightE_zero] at h ⊢
  obtain ⟨h1, h2, h3, h4, h5, h6, h7⟩ := h
  have hr := machOK_regs h1
  have hle : m.regs ≤ s := by omega
  refine ⟨?_, h2, h3, by omega, hg4, h6, fun b hb => ?_⟩
  · rcases hs with rfl | rfl
    · exact h1
    · exact machOK_64 h1
  · have := blkE_zero.1 (h7 b hb)
    exact blkE_zero.2 ⟨fun i hi => insE_le hle hg (this.1 i hi), termE_le hle this.2⟩
theorem firstE_set : ∀ (l : List Int) (k : Nat) (x : Int), k < l.length → (∀ y ∈ l, y = 0) → firstE (l.set k x) = x
  | [], k, x, h, _ => absurd h (Nat.not_lt_zero k)
  | y :: l, 0, x, _, h => by
    simp only [List.set_cons_zero, firstE]
    by_cases e : x = 0
    · rw [if_neg (by simp [e]), e]; exact (firstE_zero l).2 fun z hz => h z (List.mem_cons_of_mem _ hz)
    · rw [if_pos e]
  | y :: l, k + 1, x, hk, h => by
    have hy : y = 0 := h y List.mem_cons_self
    simp only [List.set_cons_succ, firstE, hy]
    simp only [ne_eq, not_true_eq_false, if_false]
    exact firstE_set l k x (by simpa using hk) fun z hz => h z (List.mem_cons_of_mem _ hz)
theorem blkE_snoc {m : MV} {f n : Int} {b b' : BlkD} {i : InsD} (h : blkE m f n b = 0) (hb : b'.ins = b.ins ++ [i]) (hk : termE m.regs m.ret n b' = termE m.regs m.ret n b) : blkE m f n b' = insE m.regs m.args.length f i := by
  obtain ⟨h1, h2⟩ := blkE_zero.1 h
  rw [blkE, hb, hk, h2, List.map_append, List.append_assoc, firstE_app, if_neg (by
    have := (firstE_zero (b.ins.map (insE m.regs m.args.length f))).2 (fun x hx => by obtain ⟨i, hi, rfl⟩ := List.mem_map.1 hx; exact h1 i hi)
    simp [this])]
  simp only [List.map_cons, List.map_nil, List.cons_append, List.nil_append, firstE]
  split
  · rfl
  · rename_i e; simp at e; simp [e]
theorem right_one {m : MV} {f : Int} {A : Option Addr} {c : Nat} {i : InsD} (hm : machOK m = true) (hf : 0 ≤ f ∧ f ≤ 400) : rightE m f [⟨A, c, [i], 4, 0, 0, 0⟩] = insE m.regs m.args.length f i := by
  unfold rightE
  rw [if_neg (by simp [hm]), if_neg (by
    rintro (x | x | x | ⟨b, hb, x⟩)
    · simp at x
    · simp at x
    · exact x hf
    · rw [List.mem_singleton.1 hb] at x; simp at x)]
  have ht : termE m.regs m.ret 1 ⟨A, c, [i], 4, 0, 0, 0⟩ = 0 := by simp [termE]
  simp only [List.map_cons, List.map_nil, List.length_singleton, blkE]
  rw [show ((1 : Nat) : Int) = 1 from rfl, ht]
  simp only [List.cons_append, List.nil_append, firstE]
  split
  · rename_i h; first | rfl | (split <;> simp_all)
  · rename_i h; simp at h; first | (simp [h]; done) | (split <;> simp_all)
theorem right_snoc {m : MV} {f : Int} {bs : List BlkD} {k : Nat} {b' : BlkD} {i : InsD} (h : rightE m f bs = 0) (hk : k < bs.length) (hb : b'.ins = (bs.getD k .no).ins ++ [i]) (ht : b'.kind = (bs.getD k .no).kind ∧ b'.a = (bs.getD k .no).a ∧ b'.t0 = (bs.getD k .no).t0 ∧ b'.t1 = (bs.getD k .no).t1)
    (hlen : (bs.getD k .no).ins.length < 4000) : rightE m f (bs.set k b') = insE m.regs m.args.length f i := by
  obtain ⟨h1, h2, h3, h4, h5, h6, h7⟩ := rightE_zero.1 h
  have hge : bs.getD k .no = bs[k] := by rw [List.getD_eq_getElem?_getD, List.getElem?_eq_getElem hk]; rfl
  have hmem : bs.getD k .no ∈ bs := by rw [hge]; exact List.getElem_mem hk
  unfold rightE
  rw [if_neg (by simp [h1]), if_neg (by
    rw [List.length_set]
    rintro (x | x | x | ⟨b, hb1, x⟩)
    · omega
    · omega
    · exact x ⟨h4, h5⟩
    · rcases List.mem_or_eq_of_mem_set hb1 with e | e
      · have := h6 b e; omega
      · rw [e, hb, List.length_append, List.length_singleton] at x; omega), List.length_set, List.map_set]
  have hz : blkE m f bs.length b' = insE m.regs m.args.length f i := blkE_snoc (h7 _ hmem) hb (by
    unfold termE; rw [ht.1, ht.2.1, ht.2.2.1, ht.2.2.2])
  rw [hz]
  exact firstE_set _ _ _ (by simpa using hk) fun y hy => by obtain ⟨b, hb, rfl⟩ := List.mem_map.1 hy; exact h7 b hb
end Go.Proofs.Ytgpebcfeeagoaaa
