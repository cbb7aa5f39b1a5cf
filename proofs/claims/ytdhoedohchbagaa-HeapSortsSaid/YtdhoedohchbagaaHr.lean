/- Walks: the reference of layer 5: Cut, before. -/
import Derived.Test.YtdhoedohchbagaaHq
namespace Go.Proofs.Ytdhoedohchbagaa
open Go.RowKit

def cutZ (l : List Ent) (id : Int) : List Ent := l.filter fun e => (e.id : Int) != id
theorem cutZ_nat (l : List Ent) (k : Nat) : cutZ l (k : Int) = cutE l k := by
  unfold cutZ cutE; congr 1; funext e
  rw [Bool.eq_iff_iff]; simp; omega
theorem cutZ_le (l : List Ent) (id : Int) : (cutZ l id).length ≤ l.length := List.length_filter_le _ _

set_option maxRecDepth 20000 in
set_option maxHeartbeats 400000 in
theorem cutR_any (A : Option Addr) (n c : Nat) (l : List Ent) (id : Int) (w : World) (hl : l.length = n) (hn : n ≤ 100000) (hr : Rd w A (entCells l)) :
    Calls Try.prog 69 #[.slice A n c, .int .i64 id] w fun e w' => ∃ g c', e = .returned (.slice (some ⟨g, 0, none⟩) (cutZ l id).length c') ∧
      w'.ownsRow w.heap.size 38 2 (.slice (some ⟨g, 0, none⟩) (cutZ l id).length c') (cutZ l id).length (entCells (cutZ l id)) ∧ Below w.heap.size w w' := by
  have HL := hid hl; clear hl
  go_enter Try.func69, Try.ntmps69
  go_wp2
  go_loopw [5, 6] (fun v i wr => ∃ (k g c' m : Nat), k ≤ n ∧ i = .int .i64 k ∧ v = .slice (some ⟨g, 0, none⟩) m c' ∧ Hid (m = (cutZ (l.take k) id).length) ∧ m ≤ k ∧ wr.ownsRow w.heap.size 38 2 (.slice (some ⟨g, 0, none⟩) m c') m (entCells (cutZ (l.take k) id)) ∧ Below w.heap.size w wr) (fun _ i _ => n - (intOf i).toNat)
  case atStart => exact ⟨0, _, _, 0, by omega, rfl, rfl, rfl, by omega, World.ownsRow_made _ _ _ (Nat.le_refl _) (by simp [maxLen]) (by simp), (Below.refl _ _).alloc (Nat.le_refl _) _⟩
  case round =>
    obtain ⟨k, A', c', m, hk, rfl, rfl, HM, hmk, hown, hb⟩ := hrel
    have hsz := hb.size
    have HB := hid hb
    by_cases hlt : k < n
    · obtain ⟨b, off, rfl, hbl, hc⟩ := (hr.below hb).at (by rw [entCells_length, HL.out]; omega)
      have hkl : k < l.length := by rw [HL.out]; exact hlt
      obtain ⟨x1, x2⟩ := rd_ent hc k hkl
      have HT : Hid (cutZ (l.take (k + 1)) id = cutZ (l.take k) id ++ (if (eg l k).id != id then [eg l k] else [])) := by
        rw [Hid, List.take_succ_eq_append_getElem hkl, ← eg_of hkl]
        unfold cutZ; rw [List.filter_append]
        congr 1
        by_cases h : ((eg l k).id : Int) != id <;> simp [h]
      generalize eg l k = x at *
      clear hc hr hb
      by_cases hx : (x.id : Int) = id
      · have hx1 : ((x.id : Int) != id) = false := by simp [hx]
        have HT2 : Hid (cutZ (l.take (k + 1)) id = cutZ (l.take k) id) := by rw [Hid, HT.out, hx1]; simp
        have HO := hid hown
        clear hx HT hown
        go_wp2_with fail
        go_roundw
        case rel => exact ⟨k + 1, A', c', m, by omega, by go_num, rfl, by rw [Hid, HT2.out]; exact HM.out, by omega, by rw [HT2.out]; exact HO.out, HB.out⟩
        case measure => simp [intOf]; omega
      · have hx1 : ((x.id : Int) != id) = true := by simp [hx]
        have HT2 : Hid (cutZ (l.take (k + 1)) id = cutZ (l.take k) id ++ [x]) := by rw [Hid, HT.out, hx1]; simp
        clear hx HT
        go_wp2_with (at_builtin; refine wpList_append1g _ rfl _ _ 33 rfl w.heap.size 38 _ 2 16 Try.underlying33 Try.infoEntry rfl (by decide) _ _ _ rfl hown 1 (Ent.cells x) rfl rfl rfl ?_ (by decide) hsz ?_)
        · omega
        intro A2 d2 w1 hown1 hg1
        have hb1 := below_grown HB.out hown hg1 (Nat.le_refl _) hsz
        have HO1 : Hid (w1.ownsRow w.heap.size 38 2 (.slice (some ⟨A2, 0, none⟩) (m + 1) d2) (m + 1) (entCells (cutZ (l.take (k + 1)) id))) := by
          rw [Hid, HT2.out, entCells_append]; simpa [entCells] using hown1
        clear hown HB x1 x2 hg1 hown1
        go_wp2_with fail
        go_roundw
        case rel => exact ⟨k + 1, A2, d2, m + 1, by omega, by go_num, rfl, by rw [Hid, HT2.out, List.length_append, ← HM.out]; rfl, by omega, HO1.out, hb1⟩
        case measure => simp [intOf]; omega
    · have e : l.take k = l := List.take_of_length_le (by rw [HL.out]; omega)
      rw [e] at HM hown
      obtain rfl := HM.out
      have HO := hid hown
      clear hown hr hb
      go_wp2_with fail
      go_ret
      exact ⟨A', c', rfl, HO.out, HB.out⟩

def ltE (a b : Ent) : Bool := decide (a.lt b)
set_option maxRecDepth 20000 in
set_option maxHeartbeats 400000 in
theorem before_any (a b : Ent) (w : World) :
    Calls Try.prog 80 #[.agg #[.int .i64 a.t, .int .i64 (a.id : Int)], .agg #[.int .i64 b.t, .int .i64 (b.id : Int)]] w fun e w' => e = .returned (.bool (ltE a b)) ∧ Below w.heap.size w w' := by
  obtain ⟨ta, ia⟩ := a
  obtain ⟨tb, ib⟩ := b
  have HB : Hid (∀ o1 o2, Below w.heap.size w ((w.alloc o1).alloc o2)) := fun o1 o2 => ((Below.refl _ _).alloc (Nat.le_refl _) _).alloc (by simp) _
  by_cases h1 : ta < tb
  · have HE : Hid (ltE ⟨ta, ia⟩ ⟨tb, ib⟩ = true) := decide_eq_true (Or.inl h1)
    go_enter Try.func80, Try.ntmps80
    go_wp2_with fail
    go_ret
    exact ⟨by rw [HE.out]; rfl, HB.out _ _⟩
  · have h1d : decide (ta < tb) = false := decide_eq_false h1
    by_cases h2 : ta = tb
    · have h2d : (ta == tb) = true := by simp [h2]
      have HE : Hid (ltE ⟨ta, ia⟩ ⟨tb, ib⟩ = decide (ia < ib)) := decide_eq_decide.2 ⟨fun h => by rcases h with h | h; exact absurd h h1; exact h.2, fun h => Or.inr ⟨h2, h⟩⟩
      clear h2 h1
      by_cases h3 : ia < ib
      · have h3d : decide (ia < ib) = true := decide_eq_true h3
        go_enter Try.func80, Try.ntmps80
        go_wp2_with fail
        go_ret
        exact ⟨by rw [HE.out, h3d]; rfl, HB.out _ _⟩
      · have h3d : decide (ia < ib) = false := decide_eq_false h3
        go_enter Try.func80, Try.ntmps80
        go_wp2_with fail
        go_ret
        exact ⟨by rw [HE.out, h3d]; rfl, HB.out _ _⟩
    · have h2d : (ta == tb) = false := by simp [h2]
      have HE : Hid (ltE ⟨ta, ia⟩ ⟨tb, ib⟩ = false) := decide_eq_false (fun h => by rcases h with h | h; exact h1 h; exact h2 h.1)
      clear h2 h1
      go_enter Try.func80, Try.ntmps80
      go_wp2_with fail
      go_ret
      exact ⟨by rw [HE.out]; rfl, HB.out _ _⟩

theorem insE_at (x : Ent) (l : List Ent) (k : Nat) (hk : k ≤ l.length) (h1 : ∀ j, j < k → (eg l j).lt x) (h2 : k < l.length → ¬ (eg l k).lt x) : insE x l = l.take k ++ x :: l.drop k := by
  induction l generalizing k with
  | nil => simp at hk; subst hk; rfl
  | cons y l ih =>
    cases k with
    | zero =>
      have := h2 (by simp)
      simp only [eg, List.getD_cons_zero] at this
      unfold insE; rw [if_neg this]; rfl
    | succ k =>
      have h0 := h1 0 (by omega)
      simp only [eg, List.getD_cons_zero] at h0
      unfold insE; rw [if_pos h0, List.take_succ_cons, List.drop_succ_cons, List.cons_append]
      rw [ih k (by simpa using hk) (fun j hj => by have := h1 (j + 1) (by omega); simpa [eg] using this) (fun hkl => by have := h2 (by simpa using hkl); simpa [eg] using this)]
end Go.Proofs.Ytdhoedohchbagaa
