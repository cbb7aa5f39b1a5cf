/- Walks: strings.Builder's WriteByte, beside blocks that are not to be turned. -/
import Derived.Test.YtdhoedohchbagaaCm
import Derived.Test.YtdhoedohchbagaaCh
namespace Go.Proofs.Ytdhoedohchbagaa
open Go.RowKit

/-- A builder in block b, none of whose blocks is among N. -/
def BldN (N : Nat → Prop) (B b : Nat) (bs : List Value) (w : World) : Prop :=
  (∀ k, N k → k < w.heap.size) ∧ ¬ N b ∧ B ≤ b ∧ ∃ p v, (p = .pointer none ∨ p = .pointer (some ⟨b, 0, none⟩)) ∧ w.heap[b]? = some (.cells #[p, v] 130 (0, 0)) ∧
    w.ownsRow B 5 1 v bs.length bs ∧ v.ownBlock ≠ some b ∧ ∀ k, v.ownBlock = some k → ¬ N k

theorem BldN.is {N : Nat → Prop} {B b : Nat} {bs : List Value} {w : World} (h : BldN N B b bs w) : Lib.IsBuilder 130 5 B b bs w := by
  obtain ⟨-, -, hB, p, v, hp, hk, ho, hne, -⟩ := h
  rcases hp with rfl | rfl
  · exact .inl ⟨hB, v, hk, ho, hne⟩
  · exact .inr ⟨hB, v, hk, ho, hne⟩
theorem BldN.lt {N : Nat → Prop} {B b : Nat} {bs : List Value} {w : World} (h : BldN N B b bs w) : b < w.heap.size := by
  obtain ⟨-, -, hB, p, v, hp, hk, -⟩ := h
  exact (Array.getElem?_eq_some_iff.1 hk).1

theorem copyCheckN (N : Nat → Prop) (B b : Nat) (bs : List Value) (w : World) (h : BldN N B b bs w) :
    Calls Try.prog 111 #[.pointer (some ⟨b, 0, none⟩)] w fun e w' => e = .returned (.tuple #[]) ∧ BldN N B b bs w' ∧ Lib.BuilderAt 130 5 B b (.pointer (some ⟨b, 0, none⟩)) bs w' ∧ Keep (fun k => ¬ N k) w w' ∧ Below B w w' := by
  have hs := h.lt
  obtain ⟨hN, hNb, hB, p, v, hp, hk, ho, hne, hNv⟩ := h
  rcases hp with rfl | rfl
  · have hb : Lib.BuilderAt 130 5 B b (.pointer none) bs w := ⟨hB, v, hk, ho, hne⟩
    refine (copyCheck_fresh b w hb.cell0 hb.shape hb.frozen0).mono ?_
    rintro e w' ⟨rfl, rfl⟩
    have hk' : Blk w b 130 #[.pointer none, v] := hk
    have hk2 : Blk (w.setCell ⟨b, 0, none⟩ (.pointer (some ⟨b, 0, none⟩))) b 130 #[.pointer (some ⟨b, 0, none⟩), v] := hk'.set 0 _
    exact ⟨rfl, ⟨by simpa using hN, hNb, hB, _, v, .inr rfl, hk2, own_kept_set ho _ _ hne, hne, hNv⟩, hb.used _, Keep.setCell _ w _ _ hNb, (Below.refl B w).setCell hB _⟩
  · have hb : Lib.BuilderAt 130 5 B b (.pointer (some ⟨b, 0, none⟩)) bs w := ⟨hB, v, hk, ho, hne⟩
    refine (copyCheck_used b w hb.cell0).mono ?_
    rintro e w' ⟨rfl, rfl⟩
    exact ⟨rfl, ⟨hN, hNb, hB, _, v, .inr rfl, hk, ho, hne, hNv⟩, hb, Keep.refl _ w, Below.refl B w⟩

set_option maxRecDepth 20000 in
set_option maxHeartbeats 400000 in
theorem writeByteN (N : Nat → Prop) (B b : Nat) (bs : List Value) (c : Int) (w : World) (h : BldN N B b bs w) (hlen : bs.length + 1 ≤ 1000000000) :
    Calls Try.prog 85 #[.pointer (some ⟨b, 0, none⟩), .int .u8 c] w fun e w' => e = .returned .nilIface ∧ BldN N B b (bs ++ [.int .u8 c]) w' ∧ Keep (fun k => ¬ N k) w w' ∧ Below B w w' := by
  have HC := hid (copyCheckN N B b bs w h)
  clear h
  go_enter Try.func85, Try.ntmps85
  go_wp2_with fail
  refine HC.out.mono ?_
  rintro e w1 ⟨rfl, hN1, hB1, hkp, hbl⟩
  have hbs := hB1.lt
  obtain ⟨hBb, v, hbk, hown, hne⟩ := hB1
  have hk : Blk w1 b 130 #[.pointer (some ⟨b, 0, none⟩), v] := hbk
  obtain ⟨hNl, hNb, -, p', v', hp', hk', ho', hne', hNv'⟩ := hN1
  obtain rfl : v' = v := by
    have := hk'.symm.trans hbk
    have h2 : p' = .pointer (some ⟨b, 0, none⟩) ∧ v' = v := by simpa using this
    exact h2.2
  obtain ⟨A, c0, rfl, -⟩ := own_shape hown
  have HK := hid hk
  have HO := hid hown
  have HB := hid hbl
  have HKP := hid hkp
  have HNE := hid hne
  have HNV := hid hNv'
  have HNL := hid hNl
  have HNB := hid hNb
  have c1 : w1.cell? ⟨b, 1, none⟩ = some (.slice A bs.length c0) := hk.cell 1
  have f1 := hk.frozen 1
  have hBw : B ≤ w1.heap.size := by omega
  clear hk hbk hown hbl hne HC hkp hp' hk' ho' hne' hNv' hNl hNb
  go_wp2_with (at_builtin; refine wpList_append1K _ rfl _ _ 69 rfl B 5 _ 1 1 Try.underlying69 Try.infoU8b rfl (by decide) _ _ _ rfl HO.out 1 [.int .u8 c] rfl rfl rfl ?_ (by decide) hBw ?_)
  · omega
  intro g c3 w3 hown3 hk3 hf3
  have HK3 := hid (hk3.blk HK.out HNE.out)
  have hgb : g ≠ b := by
    rintro rfl
    rcases hf3 with h | h
    · exact HNE.out h
    · omega
  have hgN : ¬ N g := by
    rcases hf3 with h | h
    · exact HNV.out g h
    · intro hn; have := HNL.out g hn; omega
  have d1 : w3.cell? ⟨b, 1, none⟩ = some (.slice A bs.length c0) := HK3.out.cell 1
  have d2 := HK3.out.frozen 1
  have hlt3 := HK3.out.lt
  have HRES : Hid (BldN N B b (bs ++ [.int .u8 c]) (w3.setCell ⟨b, 1, none⟩ (.slice (some ⟨g, 0, none⟩) (bs.length + 1) c3))) := by
    refine ⟨fun k hn => by have := HNL.out k hn; have := hk3.size; simp; omega, HNB.out, hBb, _, _, .inr rfl, HK3.out.set 1 (.slice (some ⟨g, 0, none⟩) (bs.length + 1) c3), ?_, by simp [Value.ownBlock, hgb], ?_⟩
    · have := own_kept_set hown3 ⟨b, 1, none⟩ (.slice (some ⟨g, 0, none⟩) (bs.length + 1) c3) (by simp [Value.ownBlock, hgb])
      simpa using this
    · intro k hk; simp [Value.ownBlock] at hk; subst hk; exact hgN
  have HKF : Hid (Keep (fun k => ¬ N k) w (w3.setCell ⟨b, 1, none⟩ (.slice (some ⟨g, 0, none⟩) (bs.length + 1) c3))) :=
    (HKP.out.trans (hk3.mono fun k _ hk => HNV.out k hk) (fun _ => .inl)).trans (Keep.setCell (fun k => ¬ N k) w3 ⟨b, 1, none⟩ _ HNB.out) (fun _ => .inl)
  have HBF : Hid (Below B w (w3.setCell ⟨b, 1, none⟩ (.slice (some ⟨g, 0, none⟩) (bs.length + 1) c3))) := (HB.out.trans (hk3.below hBw (fun k hk => (HO.out.lt k hk).1))).setCell hBb _
  clear hown3 hk3 hf3
  go_wp2_with fail
  go_ret
  exact ⟨rfl, HRES.out, HKF.out, HBF.out⟩
end Go.Proofs.Ytdhoedohchbagaa
