/- Plain laws of a ring: room that goes round. No program in sight. The walks of package ring. The walks of package ring: Put, Peek; no ring. -/
import Derived.Test.YtpkkfdmhbbipoaaMa
import Derived.Test.YtpkkfdmhbbipoaaMb
import Derived.Laws.CopyRow
namespace Go.Proofs.Ytpkkfdmhbbipoaa
open Go.RowKit

/-- The bytes that wait. -/
def RgM (buf : List UInt8) (first n : Nat) : List UInt8 := (List.range n).map fun i => buf.getD ((first + i) % buf.length) 0
end Go.Proofs.Ytpkkfdmhbbipoaa
namespace Go.Proofs.Ytpkkfdmhbbipoaa
open Go.RowKit

/-! ### 'copy' from a text -/
theorem blk_type_ne {w : World} {g g' : Nat} {t t' : TypeId} {cs cs' : Array Value} (h : Blk w g t cs) (h' : Blk w g' t' cs') (ht : t ≠ t') : g ≠ g' := by
  rintro rfl
  have := (show w.heap[g]? = _ from h).symm.trans h'
  simp only [Option.some.injEq, Obj.cells.injEq] at this
  exact ht this.2.1
/-! ### A ring in memory -/
def RgAt (w : World) (g gb m first n : Nat) (buf : List UInt8) : Prop :=
  Blk w g 97 #[.slice (some ⟨gb, 0, none⟩) m m, .int .i64 (first : Int), .int .i64 (n : Int)] ∧ Blk w gb 5 (byteCells buf).toArray ∧ buf.length = m ∧ 1 ≤ m ∧ m ≤ 4096 ∧ first < m ∧ n ≤ m
/-- A ring that holds bytes. -/
def Rg (w : World) (g gb m : Nat) (S : List UInt8) : Prop := ∃ first buf, RgAt w g gb m first S.length buf ∧ RgM buf first S.length = S
/-- The blocks of a ring. -/
def RgF (g gb : Nat) (k : Nat) : Prop := k = g ∨ k = gb
theorem RgAt.below {w w' : World} {g gb m first n : Nat} {buf : List UInt8} (h : RgAt w g gb m first n buf) (hb : Below w.heap.size w w') : RgAt w' g gb m first n buf :=
  ⟨h.1.below hb h.1.lt, h.2.1.below hb h.2.1.lt, h.2.2⟩
theorem Rg.below {w w' : World} {g gb m : Nat} {S : List UInt8} (h : Rg w g gb m S) (hb : Below w.heap.size w w') : Rg w' g gb m S := by
  obtain ⟨f, b, h1, h2⟩ := h; exact ⟨f, b, h1.below hb, h2⟩
theorem RgAt.keep {F : Nat → Prop} {w w' : World} {g gb m first n : Nat} {buf : List UInt8} (h : RgAt w g gb m first n buf) (hk : Keep F w w') (hg : ¬ F g) (hgb : ¬ F gb) : RgAt w' g gb m first n buf :=
  ⟨hk.blk h.1 hg, hk.blk h.2.1 hgb, h.2.2⟩
theorem Rg.keep {F : Nat → Prop} {w w' : World} {g gb m : Nat} {S : List UInt8} (h : Rg w g gb m S) (hk : Keep F w w') (hg : ¬ F g) (hgb : ¬ F gb) : Rg w' g gb m S := by
  obtain ⟨f, b, h1, h2⟩ := h; exact ⟨f, b, h1.keep hk hg hgb, h2⟩
theorem Rg.lt {w : World} {g gb m : Nat} {S : List UInt8} (h : Rg w g gb m S) : g < w.heap.size ∧ gb < w.heap.size := by
  obtain ⟨f, b, h1, h2⟩ := h; exact ⟨h1.1.lt, h1.2.1.lt⟩

/-- A ring's text. -/
def rgT (l : List UInt8) : ByteArray := ⟨l.toArray⟩
end Go.Proofs.Ytpkkfdmhbbipoaa
namespace Go.Proofs.Ytpkkfdmhbbipoaa
open Go.RowKit

end Go.Proofs.Ytpkkfdmhbbipoaa
