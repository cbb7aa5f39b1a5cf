/- Walks: no window, no ring; layer 19 lives. Layer 19 lives; footprints beside a ring. -/
import Derived.Test.YtpkkfdmhbbipoaaPi
import Derived.Test.YtpkkfdmhbbipoaaMb
namespace Go.Proofs.Ytpkkfdmhbbipoaa
open Go.RowKit PopT

def okB : ByteArray := ⟨#[111, 107]⟩
def okL : List Item := (newM [okB]).1.headD []
theorem ok_new : newM [okB] = ([okL], 0, 0) := by decide +kernel
theorem ok_look1 : lookM 4 [okL] [] 0 [120, 111, 107, 33, 98, 99, 100, 101, 102] = ⟨[], 0, [33, 98, 99, 100, 101, 102], true, false, 0, 3, 3⟩ := by decide +kernel
theorem ok_look2 : lookM 4 [okL] [] 0 [33, 98, 99, 100, 101, 102] = ⟨[33, 98, 99, 100], 4, [101, 102], false, true, 0, 0, 4⟩ := by decide +kernel
end Go.Proofs.Ytpkkfdmhbbipoaa
namespace Go.Proofs.Ytpkkfdmhbbipoaa
open Go.RowKit PopT

/-- A window's footprint in world w: bounded, from B on, beside the ring's blocks. -/
def Foot (B : Nat) (F : Nat → Prop) (w : World) (g gb : Nat) : Prop := (∀ k, F k → k < w.heap.size) ∧ (∀ k, F k → B ≤ k) ∧ (∀ k, F k → ¬ RgF g gb k) ∧ g < w.heap.size ∧ gb < w.heap.size ∧ B ≤ g ∧ B ≤ gb ∧ B ≤ w.heap.size
theorem Foot.up {B g gb : Nat} {F : Nat → Prop} {w w' : World} (h : Foot B F w g gb) (hs : w.heap.size ≤ w'.heap.size) : Foot B (Fup F w w') w' g gb := by
  obtain ⟨h1, h2, h3, h4, h5, h6, h7, h8⟩ := h
  refine ⟨fun k hk => ?_, fun k hk => ?_, fun k hk => ?_, by omega, by omega, h6, h7, by omega⟩
  · rcases hk with hk | hk
    · have := h1 k hk; omega
    · exact hk.2
  · rcases hk with hk | hk
    · exact h2 k hk
    · omega
  · rcases hk with hk | hk
    · exact h3 k hk
    · rintro (e | e) <;> omega
theorem Foot.step {B g gb : Nat} {F : Nat → Prop} {w w' : World} (h : Foot B F w g gb) (hs : w.heap.size ≤ w'.heap.size) : Foot B F w' g gb := by
  obtain ⟨h1, h2, h3, h4, h5, h6, h7, h8⟩ := h
  exact ⟨fun k hk => by have := h1 k hk; omega, h2, h3, by omega, by omega, h6, h7, by omega⟩
theorem Foot.belowF {B g gb : Nat} {F : Nat → Prop} {w w' : World} (h : Foot B F w g gb) (hk : Keep F w w') : Below B w w' := hk.below h.2.2.2.2.2.2.2 h.2.1
theorem Foot.belowR {B g gb : Nat} {F : Nat → Prop} {w w' : World} (h : Foot B F w g gb) (hk : Keep (RgF g gb) w w') : Below B w w' := hk.below h.2.2.2.2.2.2.2 (fun k hk => by
  obtain ⟨h1, h2, h3, h4, h5, h6, h7, h8⟩ := h
  rcases hk with e | e <;> omega)
theorem Foot.belowB {B g gb : Nat} {F : Nat → Prop} {w w' : World} (h : Foot B F w g gb) (hk : Keep (fun k => F k ∨ RgF g gb k) w w') : Below B w w' := hk.below h.2.2.2.2.2.2.2 (fun k hk => by
  obtain ⟨h1, h2, h3, h4, h5, h6, h7, h8⟩ := h
  rcases hk with e | e | e
  · exact h2 k e
  · omega
  · omega)
theorem Foot.ring {B g gb m : Nat} {F : Nat → Prop} {w w' : World} {R : List UInt8} (h : Foot B F w g gb) (hk : Keep F w w') (hr : Rg w g gb m R) : Rg w' g gb m R := hr.keep hk (fun hg => h.2.2.1 g hg (.inl rfl)) (fun hg => h.2.2.1 gb hg (.inr rfl))
theorem Foot.hold {B base g gb hh win seen : Nat} {F : Nat → Prop} {w w' : World} {S : List UInt8} {ps : List ByteArray} {P : Option (List (List Item))} (h : Foot B F w g gb) (hk : Keep (RgF g gb) w w') (hr : HoldAt base F w hh win S seen ps P) : HoldAt base F w' hh win S seen ps P := hr.keep hk h.2.2.1

set_option maxRecDepth 20000 in
set_option maxHeartbeats 4000000 in
theorem lives19_any (w : World) : Calls Try.prog 32 #[] w fun e w' => e = .returned (.bool true) ∧ Below w.heap.size w w' := by
  have C1 := hid (hoNew_any 4 w (by omega) (by omega))
  rw [show clampN 4 4096 = 4 from rfl] at C1
  have C2 := hid (fun W => rgNew_any 9 W (by omega) (by omega))
  rw [show clampN 9 4096 = 9 from rfl] at C2
  go_enter Try.func32, Try.ntmps32
  go_wp2_with fail
  refine C1.out.mono ?_
  rintro en wa ⟨rfl, hh1, hba⟩
  have HH1 := hid hh1; have HBA := hid hba
  have hla := hh1.lt
  obtain ⟨h, hhe⟩ : ∃ h, w.heap.size = h := ⟨_, rfl⟩
  have HE := hid hhe
  rw [hhe] at HH1 hla ⊢
  have C2a := hid (C2.out wa)
  clear C1 C2 hh1 hba hhe
  go_wp2_with fail
  refine C2a.out.mono ?_
  rintro en wb ⟨g, gb, rfl, hr2, hg1, hg2, hbb⟩
  have HR2 := hid hr2
  have HH2 : Hid (HoldAt h (fun k => k = h) wb h 4 [] 0 [] none) := HH1.out.below hbb
  have HB2 : Hid (Below h w wb) := by
    have := HBA.out.trans (hbb.mono HBA.out.size)
    rw [HE.out] at this; exact this
  have hlb := HH2.out.lt
  have hgl := hr2.lt
  have FT2 : Hid (Foot h (fun k => k = h) wb g gb) := ⟨fun k hk => by omega, fun k hk => by omega, fun k hk e => by rcases e with e | e <;> omega, hgl.1, hgl.2, by omega, by omega, by omega⟩
  clear C2a hr2 hbb HH1 HBA hla
  -- the pattern
  have HWC : Hid (Below h w (wb.alloc (.cells #[.string ⟨#[111, 107]⟩] 9))) := HB2.out.alloc (by omega) _
  have C3 := hid (hoBegin_any h h 4 0 (fun k => k = h) [] [] none (some ⟨wb.heap.size, 0, none⟩) 1 1 [okB] (wb.alloc (.cells #[.string ⟨#[111, 107]⟩] 9)) (HH2.out.below ((Below.refl _ _).alloc (Nat.le_refl _) _)) rfl (by omega) (fun p hp => by rw [List.mem_singleton] at hp; subst hp; decide) (Rd_lit wb 9 #[.string ⟨#[111, 107]⟩]) (fun h => by cases h) (by simp; omega))
  rw [ok_new] at C3
  simp only at C3
  have FT3 : Hid (Foot h (fun k => k = h) (wb.alloc (.cells #[.string ⟨#[111, 107]⟩] 9)) g gb) := FT2.out.step (by simp)
  have HR3 : Hid (Rg (wb.alloc (.cells #[.string ⟨#[111, 107]⟩] 9)) g gb 9 []) := HR2.out.below ((Below.refl _ _).alloc (Nat.le_refl _) _)
  clear HH2 HB2 FT2 HR2 hlb hgl
  go_wp2_with fail
  refine C3.out.mono ?_
  rintro en wd ⟨rfl, -, hd1, hd2⟩
  have HH4 := hid (hd1 (by first | trivial | rfl))
  have HB4 : Hid (Below h w wd) := HWC.out.trans (FT3.out.belowF hd2)
  have HR4 : Hid (Rg wd g gb 9 []) := FT3.out.ring hd2 HR3.out
  have FT4 := hid (FT3.out.up hd2.size)
  obtain ⟨F4, hF4⟩ : ∃ F, Fup (fun k => k = h) (wb.alloc (.cells #[.string ⟨#[111, 107]⟩] 9)) wd = F := ⟨_, rfl⟩
  rw [hF4] at HH4 FT4
  clear C3 hd1 hd2 HWC FT3 HR3 hF4
  have C4 := hid (rgPut_any wd g gb 9 [] ⟨#[120, 111, 107, 33, 98, 99, 100, 101, 102]⟩ HR4.out (by decide))
  go_wp2_with fail
  refine C4.out.mono ?_
  rintro en we ⟨rfl, hr5, hk5⟩
  have HR5 : Hid (Rg we g gb 9 [120, 111, 107, 33, 98, 99, 100, 101, 102]) := hr5
  have HH5 := hid (FT4.out.hold hk5 HH4.out)
  have HB5 : Hid (Below h w we) := HB4.out.trans (FT4.out.belowR hk5)
  have FT5 := hid (FT4.out.step hk5.size)
  clear C4 hr5 hk5 HR4 HH4 HB4 FT4
  have C5 := hid (hoLook_any h h 4 0 g gb 9 F4 [] [120, 111, 107, 33, 98, 99, 100, 101, 102] [okB] (some [okL]) we HH5.out HR5.out FT5.out.2.2.1 FT5.out.1 FT5.out.2.2.2.2.2.2.2)
  rw [show (some [okL]).getD [] = [okL] from rfl, ok_look1] at C5
  go_wp2_with fail
  refine C5.out.mono ?_
  rintro en wf ⟨rfl, hh6, hr6, hk6⟩
  have HH6 : Hid (HoldAt h (Fup F4 we wf) wf h 4 [] 0 [okB] (some [okL])) := hh6
  have HR6 : Hid (Rg wf g gb 9 [33, 98, 99, 100, 101, 102]) := hr6
  have HB6 : Hid (Below h w wf) := HB5.out.trans (FT5.out.belowB hk6)
  have FT6 := hid (FT5.out.up hk6.size)
  obtain ⟨F6, hF6⟩ : ∃ F, Fup F4 we wf = F := ⟨_, rfl⟩
  rw [hF6] at HH6 FT6
  clear C5 hh6 hr6 hk6 HR5 HH5 HB5 FT5 hF6
  have C6 := hid (hoLook_any h h 4 0 g gb 9 F6 [] [33, 98, 99, 100, 101, 102] [okB] (some [okL]) wf HH6.out HR6.out FT6.out.2.2.1 FT6.out.1 FT6.out.2.2.2.2.2.2.2)
  rw [show (some [okL]).getD [] = [okL] from rfl, ok_look2] at C6
  go_wp2_with fail
  refine C6.out.mono ?_
  rintro en wg ⟨rfl, hh7, hr7, hk7⟩
  have HH7 : Hid (HoldAt h (Fup F6 wf wg) wg h 4 [33, 98, 99, 100] 4 [okB] (some [okL])) := hh7
  have HB7 : Hid (Below h w wg) := HB6.out.trans (FT6.out.belowB hk7)
  clear C6 hh7 hr7 hk7 HR6 HH6 HB6 FT6
  simp only [foundV]
  have CT : Hid (∀ W, Below wg.heap.size wg W → Calls Try.prog 30 #[.pointer (some ⟨h, 0, none⟩)] W fun e w' => e = .returned (.string ⟨#[33, 98, 99, 100]⟩) ∧ Below W.heap.size W w') := (fun W (hW : Below wg.heap.size wg W) => hoText_any h h 4 4 (Fup F6 wf wg) [33, 98, 99, 100] [okB] (some [okL]) W (HH7.out.below hW))
  go_wp2_with fail
  refine (CT.out _ (below2' _ _ _)).mono ?_
  rintro en wz ⟨rfl, hbz⟩
  have HBZ : Hid (Below h w wz) := by
    have hs := HB7.out.size
    have hl : h ≤ w.heap.size := by have := HE.out; omega
    exact (HB7.out.trans ((below2' wg _ _).mono (by omega))).trans (hbz.mono (by simp; omega))
  clear CT hbz
  go_wp2_with fail
  go_ret
  exact ⟨rfl, by rw [HE.out]; exact HBZ.out⟩
end Go.Proofs.Ytpkkfdmhbbipoaa
