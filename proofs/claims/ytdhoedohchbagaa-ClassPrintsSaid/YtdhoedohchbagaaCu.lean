/- What class.reader reads, in plain Lean: a part, more parts, a whole text. -/
import Derived.Test.YtdhoedohchbagaaCt
namespace Go.Proofs.Ytdhoedohchbagaa
open Go.RowKit

theorem rdSign_le (s : ByteArray) (i e : Nat) (hi : i ≤ s.size) : (rdSign s i e).2.1 ≤ s.size := by
  unfold rdSign stopAt
  split
  · split
    · simp only; omega
    · simp only; (try split) <;> omega
  · split
    · simp only; omega
    · simp only; (try split) <;> omega
theorem stopE_pos (s : ByteArray) (i : Nat) : stopE s i ≠ 0 := by unfold stopE; split <;> decide
theorem rdSign_go (s : ByteArray) (i : Nat) (h : (rdSign s i 0).2.2 = 0) : i < (rdSign s i 0).2.1 := by
  unfold rdSign at h ⊢
  split at h
  · split at h
    · rw [if_pos (by assumption), if_pos (by assumption)]; simp only; omega
    · exact absurd h (stopE_pos _ _)
  · split at h
    · rw [if_neg (by assumption), if_pos (by assumption)]; simp only; omega
    · exact absurd h (stopE_pos _ _)
theorem rdSign_byte (s : ByteArray) (i e : Nat) : (rdSign s i e).1 < 256 := by
  unfold rdSign
  split
  · split
    · exact UInt8.toNat_lt _
    · simp
  · split
    · exact UInt8.toNat_lt _
    · simp
theorem isM_lt {s : ByteArray} {i c : Nat} (h : isM s i c = true) : i < s.size := by
  unfold isM at h; simp at h; exact h.1

/-- A part: the set, where the reader stands then, and its error. -/
def rdPart (s : ByteArray) (i : Nat) : BSet × Nat × Nat :=
  let p := rdSign s i 0
  if p.2.2 = 0 ∧ isM s p.2.1 45 = true then
    let q := rdSign s (p.2.1 + 1) 0
    if q.2.2 = 0 ∧ q.1 < p.1 then (spanTo p.1 (q.1 + 1 - p.1), q.2.1 - 1, 12) else (spanTo p.1 (q.1 + 1 - p.1), q.2.1, q.2.2)
  else (spanTo p.1 1, p.2.1, p.2.2)
theorem rdPart_le (s : ByteArray) (i : Nat) (hi : i ≤ s.size) : (rdPart s i).2.1 ≤ s.size := by
  have h1 := rdSign_le s i 0 hi
  simp only [rdPart]
  split
  · rename_i h
    have h2 := rdSign_le s ((rdSign s i 0).2.1 + 1) 0 (isM_lt h.2)
    split <;> simp only <;> omega
  · exact h1
theorem rdPart_go (s : ByteArray) (i : Nat) (h : (rdPart s i).2.2 = 0) : i < (rdPart s i).2.1 := by
  simp only [rdPart] at h ⊢
  split at h
  · rename_i h1
    rw [if_pos h1]
    split at h
    · cases h
    · rename_i h2
      rw [if_neg h2]
      have := rdSign_go s i h1.1
      have := rdSign_go s _ h
      simp only; omega
  · rename_i h1
    rw [if_neg h1]
    exact rdSign_go s i h

/-- More parts. -/
def rdGo (s : ByteArray) : Nat → BSet → Nat → Nat → BSet × Nat × Nat
  | 0, x, i, e => (x, i, e)
  | n + 1, x, i, e => if e = 0 ∧ isM s i 93 = false then rdGo s n (orM x (rdPart s i).1) (rdPart s i).2.1 (rdPart s i).2.2 else (x, i, e)
theorem rdGo_bad (s : ByteArray) (n : Nat) (x : BSet) (i e : Nat) (h : e ≠ 0) : rdGo s n x i e = (x, i, e) := by
  cases n with
  | zero => rfl
  | succ n => rw [rdGo, if_neg (by rintro ⟨h', -⟩; exact h h')]
theorem rdGo_shut (s : ByteArray) (n : Nat) (x : BSet) (i e : Nat) (h : isM s i 93 = true) : rdGo s n x i e = (x, i, e) := by
  cases n with
  | zero => rfl
  | succ n => rw [rdGo, if_neg (by rintro ⟨-, h'⟩; rw [h] at h'; cases h')]

/-- A whole text. -/
def rdWhole (s : ByteArray) : BSet × Nat × Nat :=
  if isM s 0 91 = true then
    let i0 := if isM s 1 94 = true then 2 else 1
    let p := rdPart s i0
    let q := rdGo s (s.size + 1) p.1 p.2.1 p.2.2
    if q.2.2 = 0 then (if isM s 1 94 = true then notM q.1 else q.1, q.2.1 + 1, 0) else (BSet.zero, q.2.1, q.2.2)
  else (BSet.zero, stopAt s 0, stopE s 0)
end Go.Proofs.Ytdhoedohchbagaa
