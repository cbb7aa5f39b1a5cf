/- Walks: package heap: up. -/
import Derived.Test.YtdhoedohchbagaaHg
namespace Go.Proofs.Ytdhoedohchbagaa
open Go.RowKit

def UpPost (g gw m ge c n : Nat) (A : List Ent) (i : Nat) (w w' : World) : Prop :=
  ∃ A' wh' i', HpR w' g gw m (.slice (some ⟨ge, 0, none⟩) n c) n A' wh' ∧ A'.Perm A ∧ i' < n ∧ eg A' i' = eg A i ∧ SInv A' i' ∧ OverQ A' i' ∧ (UnderQ A i → UnderQ A' i') ∧ WhOk A' wh' m ∧
    Keep (HpF g gw (.slice (some ⟨ge, 0, none⟩) n c)) w w'

theorem up_fin {g gw m ge c n : Nat} {A L : List Ent} {wh1 : List Int} {i k : Nat} {e : Ent} {w w' : World} (hu : UpS A i m e L wh1 k) (hd : k = 0 ∨ (eg L (par k)).le e) (hr : HpR w' g gw m (.slice (some ⟨ge, 0, none⟩) n c) n (L.set k e) (wh1.set e.id (k : Int)))
    (hk : Keep (HpF g gw (.slice (some ⟨ge, 0, none⟩) n c)) w w') (he : eg A i = e) (hl : A.length = n) : UpPost g gw m ge c n A i w w' := by
  obtain ⟨h1, h2, h3, h4, h5, h6, h7⟩ := hu.done hd
  exact ⟨_, _, k, hr, h1, by have := hu.lt; omega, by rw [h7, he], h2, h3, h4, h5, hk⟩

set_option maxRecDepth 20000 in
set_option maxHeartbeats 800000 in
theorem up_any (g gw m ge c n : Nat) (A : List Ent) (wh : List Int) (i : Nat) (w : World) (h : HpR w g gw m (.slice (some ⟨ge, 0, none⟩) n c) n A wh) (hi : i < n) (hs : SInv A i) (hw : WhEx A wh m i) (hn : n ≤ 100000) :
    Calls Try.prog 77 #[.pointer (some ⟨g, 0, none⟩), .int .i64 (i : Int)] w fun en w' => en = .returned (.tuple #[]) ∧ UpPost g gw m ge c n A i w w' := by
  have hlen := h.len
  have hUp := hid (UpS.start (by omega) hs hw)
  have HA := hid h
  have hE := hw.ids i (by omega)
  obtain ⟨e, he⟩ : ∃ e, eg A i = e := ⟨_, rfl⟩
  obtain ⟨e1, e2, -, -⟩ := h.cell_ent hi
  obtain ⟨f0, -, -⟩ := h.fields
  obtain ⟨n1, n2, n3, n4, n5, n6⟩ := h.ne
  rw [he] at hUp e1 e2 hE
  have HE := hid he
  have HL := hid hlen
  clear h hs hw he hlen
  have HK0 : Hid (Keep (HpF g gw (.slice (some ⟨ge, 0, none⟩) n c)) w (w.alloc (.cells #[.int .i64 e.t, .int .i64 (e.id : Int)] 38))) := Keep.alloc _ _ _
  have HR0 : Hid (HpR (w.alloc (.cells #[.int .i64 e.t, .int .i64 (e.id : Int)] 38)) g gw m (.slice (some ⟨ge, 0, none⟩) n c) n A wh) := HA.out.below ((Below.refl _ _).alloc (Nat.le_refl _) _)
  go_enter Try.func77, Try.ntmps77
  go_wp2_with fail
  go_loopw [1] (fun iv wr => ∃ (k : Nat) (L : List Ent) (wh1 : List Int), iv = .int .i64 (k : Int) ∧ HpR wr g gw m (.slice (some ⟨ge, 0, none⟩) n c) n L wh1 ∧ Hid (UpS A i m e L wh1 k) ∧
      wr.cell? ⟨w.heap.size, 0, none⟩ = some (.int .i64 e.t) ∧ wr.cell? ⟨w.heap.size, 1, none⟩ = some (.int .i64 (e.id : Int)) ∧ w.heap.size < wr.heap.size ∧ Keep (HpF g gw (.slice (some ⟨ge, 0, none⟩) n c)) w wr) (fun iv _ => (intOf iv).toNat)
  case atStart => exact ⟨i, A, wh, rfl, HR0.out, hUp, by go_simp, by go_simp, by simp, HK0.out⟩
  case round =>
    obtain ⟨k, L, wh1, rfl, hr, HU, b0, b1, hlt, hkp⟩ := hrel
    have hk : k < n := by have := HU.out.lt; have := HL.out; omega
    have HR := hid hr
    have HKP := hid hkp
    obtain ⟨f0, f1, f2⟩ := hr.fields
    obtain ⟨-, -, -, m4, m5, m6⟩ := hr.ne
    clear HR0 HK0 hkp HA n1 n2 n3 hUp
    by_cases hk0 : k = 0
    · subst hk0
      have HP := hid (put_any g gw m ge c n L wh1 0 e wr hr hk hE)
      clear hr
      go_wp2_with (go_at_call 106; refine HP.out.mono ?_; rintro en w2 ⟨rfl, hr2, hk2⟩)
      go_end0
      exact ⟨rfl, up_fin HU.out (.inl rfl) hr2 (HKP.out.trans hk2 (fun _ => .inl)) HE.out HL.out⟩
    · have hpk := par_lt (Nat.pos_of_ne_zero hk0)
      obtain ⟨q, hq⟩ : ∃ q, par k = q := ⟨_, rfl⟩
      obtain ⟨x, hx⟩ : ∃ x, eg L q = x := ⟨_, rfl⟩
      rw [hq] at hpk
      have hkq : ((k : Int) - 1) / 2 = (q : Int) := by unfold par at hq; omega
      obtain ⟨p1, p2, -, -⟩ := hr.cell_ent (i := q) (by omega)
      have hxid : x.id < m := by
        have h1 := HU.out.ex.ids q (by have := HU.out.lt; have := HU.out.len; simp; omega)
        rw [eg_set (by have := HU.out.lt; have := HU.out.len; omega), if_neg (by omega), hx] at h1; exact h1
      rw [hx] at p1 p2
      have HX : Hid (eg L (par k) = x) := by rw [hq]; exact hx
      have HQ := hid hq
      have hqn : q < n := by omega
      clear hx hr hq e1 e2
      by_cases hc : cmpE x e ≤ 0
      · have hc1 : decide (cmpE x e ≤ 0) = true := decide_eq_true hc
        go_wp2_with fail
        refine wp_region_tail 8 (by kernel_rfl) (by kernel_rfl) ?_
        simp only [List.take_succ_cons, List.take_zero, List.drop_succ_cons, List.drop_zero]
        repeat still_step
        refine wpStill_nil ?_
        go_wp2_with (first
          | (go_at_call 103; refine (order_any x e _).mono ?_; rintro en w2 ⟨rfl, hb2⟩; have hb3 := below_drewN hb2; obtain ⟨hc2, hf2⟩ := bcell hb3; have HR2 := hid (HR.out.below hb3); have HK2 := hid (HKP.out.trans (Keep.of_below (F := HpF g gw (.slice (some ⟨ge, 0, none⟩) n c)) hb3) (fun _ => .inl)); clear hb2 hb3)
          | (go_at_call 106; refine (put_any g gw m ge c n L wh1 k e _ HR2.out hk hE).mono ?_; rintro en w3 ⟨rfl, hr3, hk3⟩))
        go_end0
        exact ⟨rfl, up_fin HU.out (.inr (by rw [HX.out]; exact cmpE_le.1 hc)) hr3 (HK2.out.trans hk3 (fun _ => .inl)) HE.out HL.out⟩
      · have hc1 : decide (cmpE x e ≤ 0) = false := decide_eq_false hc
        have HC : Hid (e.lt x) := Ent.not_le.1 (fun h => hc (cmpE_le.2 h))
        clear hc
        go_wp2_with fail
        refine wp_region_tail 8 (by kernel_rfl) (by kernel_rfl) ?_
        simp only [List.take_succ_cons, List.take_zero, List.drop_succ_cons, List.drop_zero]
        repeat still_step
        refine wpStill_nil ?_
        go_wp2_with (first
          | (go_at_call 103; refine (order_any x e _).mono ?_; rintro en w2 ⟨rfl, hb2⟩; have hb3 := below_drewN hb2; obtain ⟨hc2, hf2⟩ := bcell hb3; have HR2 := hid (HR.out.below hb3); have HK2 := hid (HKP.out.trans (Keep.of_below (F := HpF g gw (.slice (some ⟨ge, 0, none⟩) n c)) hb3) (fun _ => .inl)); have hs2 := hb3.size; clear hb2 hb3)
          | (go_at_call 106; refine (put_any g gw m ge c n L wh1 k x _ HR2.out hk hxid).mono ?_; rintro en w3 ⟨rfl, hr3, hk3⟩))
        have hlt2 : w.heap.size < w2.heap.size := Nat.lt_of_lt_of_le hlt hs2
        have hnf : ¬ HpF g gw (.slice (some ⟨ge, 0, none⟩) n c) w.heap.size := by
          rintro (h1 | h1 | h1)
          · omega
          · omega
          · simp only [Value.ownBlock, Option.some.injEq] at h1; omega
        have B0 := ((hk3.cell (o := 0) hlt2 hnf).trans (hc2 _ 0 hlt)).trans b0
        have B1 := ((hk3.cell (o := 1) hlt2 hnf).trans (hc2 _ 1 hlt)).trans b1
        have hlt3 := Nat.lt_of_lt_of_le hlt2 hk3.size
        have HU2 : Hid (UpS A i m e (L.set k x) (wh1.set x.id (k : Int)) q) := by
          have := HU.out.step (Nat.pos_of_ne_zero hk0) (by rw [HX.out]; exact HC.out)
          rwa [HX.out, HQ.out] at this
        have HK3 := HK2.out.trans hk3 (fun _ => .inl)
        go_roundw
        case rel => exact ⟨q, _, _, rfl, hr3, HU2, B0, B1, hlt3, HK3⟩
        case measure => simp [intOf]; omega
end Go.Proofs.Ytdhoedohchbagaa
