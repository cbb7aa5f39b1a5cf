/- Regions that draw their order and whose calls only make new blocks: one walk of the order of the text. No program in sight. -/
import Derived.Test.YtpkkfdmhbbipoaaKeep
import Derived.BigQuiet
namespace Go.Proofs.Ytpkkfdmhbbipoaa
open Go.RowKit

/-- The worlds that are as w is below block B. -/
def BW (B : Nat) (w : World) : Type := {w' : World // Below B w w'}
instance BW.nonempty {B : Nat} {w : World} : Nonempty (BW B w) := ⟨⟨w, Below.refl B w⟩⟩
theorem BW.below {B : Nat} {w : World} (q : BW B w) : Below B w q.1 := q.2
theorem BW.cellAt {B : Nat} {w : World} {g i : Nat} {v : Value} (hg : g < B) (h : w.cell? ⟨g, i, none⟩ = some v) (q : BW B w) : q.1.cell? ⟨g, i, none⟩ = some v := (World.cell?_of_block (q.2.block g hg)).trans h

theorem wp_region_below {P : Program} {id : Nat} {Q : Exit → Act → World → Prop} {a : Act} {w : World} {l : List Oper} (B : Nat) (hm : P.follows .mixedOrders = true) (hB : Region.lexB .any l.toArray = true)
    (h : wpQuiet P l.toArray (fun w' => ∃ q : BW B w, w' = q.1) (fun a' => ∀ w', (∃ q : BW B w, w' = q.1) → Q .normal a' w') l a) : (Code.region id l.toArray true).wp P Q a w :=
  wp_region_quiet (C := fun w' => ∃ q : BW B w, w' = q.1) hm hB ⟨⟨w.drewN 1, ⟨rfl, rfl, rfl, Nat.le_refl _, fun _ _ => rfl⟩⟩, rfl⟩ (by simpa using h)
/-- A call that only makes new blocks, inside such a region. -/
theorem callBW {P : Program} {f : Nat} {args : Array Value} {v : Value} {B : Nat} {w : World} (hB : B ≤ w.heap.size) (h : ∀ W, Calls P f args W fun e w' => e = .returned v ∧ Below W.heap.size W w') (q : BW B w) :
    Calls P f args q.1 fun e w'' => e = .returned v ∧ ∃ q' : BW B w, w'' = q'.1 :=
  (h q.1).mono fun _ w'' ⟨he, hb⟩ => ⟨he, ⟨⟨w'', q.2.trans (hb.mono (Nat.le_trans hB q.2.size))⟩, rfl⟩⟩
end Go.Proofs.Ytpkkfdmhbbipoaa
