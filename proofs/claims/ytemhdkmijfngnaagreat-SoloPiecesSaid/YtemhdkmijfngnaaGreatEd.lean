/- SoloFront: what is told of the first inputs does not hang on the later ones. -/
import Derived.Test.YtemhdkmijfngnaaGreatEc
namespace Go.Proofs.YtemhdkmijfngnaaGreat
open Go.RowKit PopT

theorem own_Rd {w : World} {base n c size : Nat} {e : TypeId} {A : Option Addr} {xs : List Value} (h : w.ownsRow base e size (.slice A n c) n xs) : Rd w A xs := Rd_of_own h
theorem own_under {w w' : World} {base B size n : Nat} {e : TypeId} {v : Value} {xs : List Value} {w1 : World} (h : w.ownsRow base e size v n xs) (hb : Below B w1 w) (hB : B ≤ base) (hs : B ≤ w.heap.size) (hk : Keep (fun k => v.ownBlock = some k) w w') : Below B w1 w' :=
  hb.trans (hk.below hs (fun k hk => Nat.le_trans hB (h.lt k hk).1))
theorem Rd_left {w : World} {A : Option Addr} {xs ys : List Value} (h : Rd w A (xs ++ ys)) : Rd w A xs := by
  rcases h with h | ⟨b, off, hA, hl, hc⟩
  · exact .inl (List.append_eq_nil_iff.1 h).1
  · exact .inr ⟨b, off, hA, hl, fun j u hu => hc j u (by rw [List.getElem?_append_left (List.getElem?_eq_some_iff.1 hu).1]; exact hu)⟩
theorem own_cap {w : World} {base n c size : Nat} {e : TypeId} {A : Option Addr} {xs : List Value} (h : w.ownsRow base e size (.slice A n c) n xs) : n ≤ c := by
  rcases h.2 with ⟨hv, h0⟩ | ⟨g, cap, cur, hv, _, _, hc, _⟩
  · omega
  · injection hv with _ _ h3; omega
theorem in_add (g j : Nat) : (⟨g, 0, none⟩ : Addr).add j = ⟨g, j, none⟩ := by unfold Addr.add; split <;> simp_all
theorem inV_one (l : List InV) : ∀ u ∈ inVCells l, u.oneCell' = true := by
  intro u hu
  unfold inVCells at hu
  obtain ⟨i, _, hi⟩ := List.mem_flatMap.1 hu
  unfold InV.cells at hi
  simp only [List.mem_cons, List.not_mem_nil, or_false] at hi
  rcases hi with rfl | rfl | rfl | rfl <;> rfl

end Go.Proofs.YtemhdkmijfngnaaGreat
