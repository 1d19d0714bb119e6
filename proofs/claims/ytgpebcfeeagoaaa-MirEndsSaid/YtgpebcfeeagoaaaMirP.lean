/- Layer 6 (mir), plain: machines, instructions, ends, targets as data; when they are right. No program in sight. -/
import Derived.Test.YtgpebcfeeagoaaaEEb
set_option linter.unusedVariables false
set_option linter.unusedSimpArgs false
namespace Go.Proofs.Ytgpebcfeeagoaaa
open Go Go.E
structure MV where
  regs : Int
  args : List Int
  ret : Int
  saved : List Int
def setOK (regs : Int) (l : List Int) : Bool := l.all (fun r => decide (0 ≤ r ∧ r < regs)) && decide l.Nodup
def sortedB (l : List Int) : Bool := decide (∀ i, i < l.length - 1 → l.getD i 0 ≤ l.getD (i + 1) 0)
def machOK (m : MV) : Bool := decide (1 ≤ m.regs ∧ m.regs ≤ 64 ∧ m.args.length ≤ 8 ∧ (m.saved.length : Int) ≤ m.regs) && sortedB m.saved && setOK m.regs m.args && setOK m.regs (m.ret :: m.saved)
/-- An instruction, as its cells tell it: where its row of arguments lies, too. -/
structure InsD where
  op : Int
  dst : Int
  a : Int
  b : Int
  imm : Int
  callee : Int
  A : Option Addr
  c : Nat
  xs : List Int
  many : Int
abbrev encIns (i : InsD) : List Value := [.int .i64 i.op, .int .i64 i.dst, .int .i64 i.a, .int .i64 i.b, .int .i64 i.imm, .int .i64 i.callee, .slice i.A i.xs.length i.c, .int .i64 i.many]
def InsD.no : InsD := ⟨0, 0, 0, 0, 0, 0, none, 0, [], 0⟩
structure BlkD where
  A : Option Addr
  c : Nat
  ins : List InsD
  kind : Int
  a : Int
  t0 : Int
  t1 : Int
abbrev encBlk (b : BlkD) : List Value := [.slice b.A b.ins.length b.c, .int .i64 b.kind, .int .i64 b.a, .int .i64 b.t0, .int .i64 b.t1]
def BlkD.no : BlkD := ⟨none, 0, [], 0, 0, 0, 0⟩
/-- What an Op has, as bits: 1 Dst, 2 A, 4 B, 8 Imm, 16 a slot, 32 of a call. -/
def hasP (o : Int) : Nat :=
  if o = 1 then 9 else if 2 ≤ o ∧ o ≤ 10 then 7 else if o = 11 then 11 else if o = 12 then 14 else if o = 13 then 32 else if o = 15 then 3 else if o = 16 then 18 else if o = 17 then 17 else 0
def inR (regs : Int) (r : Int) : Bool := decide (0 ≤ r ∧ r < regs)
def insE (regs : Int) (nargs : Nat) (frame : Int) (i : InsD) : Int :=
  let p := hasP i.op
  if p = 0 ∨ 0 < i.xs.length ∨ (p &&& 1 = 0 ∧ i.dst ≠ 0) ∨ (p &&& 2 = 0 ∧ i.a ≠ 0) ∨ (p &&& 4 = 0 ∧ i.b ≠ 0) ∨ (p &&& 24 = 0 ∧ i.imm ≠ 0) ∨ (p &&& 32 = 0 ∧ i.callee ≠ 0) ∨ (p &&& 32 = 0 ∧ i.many ≠ 0) then 2
  else if (p &&& 8 ≠ 0 ∧ (i.imm < -1099511627776 ∨ 1099511627776 < i.imm)) ∨ ¬ (0 ≤ i.callee ∧ i.callee ≤ 99) ∨ ¬ (0 ≤ i.many ∧ i.many ≤ nargs) then 2
  else if ¬ (inR regs i.dst = true ∧ inR regs i.a = true ∧ inR regs i.b = true) then 10
  else if p &&& 16 ≠ 0 ∧ ¬ (0 ≤ i.imm ∧ i.imm < frame) then 11
  else 0
def termE (regs ret blocks : Int) (b : BlkD) : Int :=
  if b.kind = 1 then (if b.a ≠ 0 ∨ b.t1 ≠ 0 then 2 else if inR blocks b.t0 then 0 else 9)
  else if b.kind = 2 then (if inR regs b.a then (if inR blocks b.t0 ∧ inR blocks b.t1 then 0 else 9) else 10)
  else if b.kind = 3 then (if b.t0 ≠ 0 ∨ b.t1 ≠ 0 then 2 else if b.a ≠ -1 ∧ b.a ≠ ret then 10 else 0)
  else if b.kind = 4 then (if b.a ≠ 0 ∨ b.t0 ≠ 0 ∨ b.t1 ≠ 0 then 2 else 0)
  else 2
def firstE : List Int → Int
  | [] => 0
  | x :: r => if x ≠ 0 then x else firstE r
def blkE (m : MV) (frame blocks : Int) (b : BlkD) : Int := firstE (b.ins.map (insE m.regs m.args.length frame) ++ [termE m.regs m.ret blocks b])
def rightE (m : MV) (frame : Int) (bs : List BlkD) : Int :=
  if machOK m = false then 2
  else if bs.length = 0 ∨ 200 < bs.length ∨ ¬ (0 ≤ frame ∧ frame ≤ 400) ∨ ∃ b ∈ bs, 4000 < b.ins.length then 3
  else firstE (bs.map (blkE m frame bs.length))
theorem firstE_zero : ∀ l : List Int, firstE l = 0 ↔ ∀ x ∈ l, x = 0
  | [] => by simp [firstE]
  | x :: r => by
    simp only [firstE, List.mem_cons, forall_eq_or_imp]
    by_cases h : x = 0
    · rw [if_neg (by simp [h]), firstE_zero r]; simp [h]
    · rw [if_pos h]; simp [h]
theorem firstE_app (l r : List Int) : firstE (l ++ r) = if firstE l ≠ 0 then firstE l else firstE r := by
  induction l with
  | nil => simp [firstE]
  | cons x l ih =>
    by_cases h : x = 0
    · have e1 : firstE (x :: l) = firstE l := by simp [firstE, h]
      have e2 : firstE (x :: l ++ r) = firstE (l ++ r) := by simp [firstE, h]
      rw [e1, e2, ih]
    · have e1 : firstE (x :: l) = x := by simp [firstE, h]
      have e2 : firstE (x :: l ++ r) = x := by simp [firstE, h]
      rw [e1, e2, if_pos h]
theorem inR_le {r s x : Int} (h : r ≤ s) (hx : inR r x = true) : inR s x = true := by
  simp only [inR, decide_eq_true_eq] at hx ⊢; omega
theorem insE_le {r s : Int} {n : Nat} {f g : Int} {i : InsD} (h : r ≤ s) (hf : f ≤ g) (hi : insE r n f i = 0) : insE s n g i = 0 := by
  unfold insE at hi ⊢
  dsimp only at hi ⊢
  split at hi
  · cases hi
  · rename_i h1
    split at hi
    · cases hi
    · rename_i h2
      split at hi
      · cases hi
      · rename_i h3
        split at hi
        · cases hi
        · rename_i h4
          rw [if_neg h1, if_neg h2, if_neg (by
            intro x; apply x
            obtain ⟨a1, a2, a3⟩ := Classical.not_not.1 h3
            exact ⟨inR_le h a1, inR_le h a2, inR_le h a3⟩), if_neg (by
            intro x; apply h4
            exact ⟨x.1, fun y => x.2 ⟨y.1, by omega⟩⟩)]
theorem termE_le {r s ret : Int} {n : Int} {b : BlkD} (h : r ≤ s) (hi : termE r ret n b = 0) : termE s ret n b = 0 := by
  unfold termE at hi ⊢
  split at hi
  · rename_i h1; rw [if_pos h1]; exact hi
  · rename_i h1
    rw [if_neg h1]
    split at hi
    · rename_i h2
      rw [if_pos h2]
      split at hi
      · rename_i h3; rw [if_pos (inR_le h h3)]; exact hi
      · cases hi
    · rename_i h2; rw [if_neg h2]; exact hi
end Go.Proofs.Ytgpebcfeeagoaaa
