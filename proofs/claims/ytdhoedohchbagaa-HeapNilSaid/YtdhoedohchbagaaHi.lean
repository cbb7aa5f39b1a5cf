/- Walks: package heap: down. -/
import Derived.Test.YtdhoedohchbagaaHh
import Derived.IntWalk
namespace Go.Proofs.Ytdhoedohchbagaa
open Go.RowKit

def DnPost (g gw m ge c n : Nat) (A : List Ent) (w w' : World) : Prop :=
  ∃ A' wh', HpR w' g gw m (.slice (some ⟨ge, 0, none⟩) n c) n A' wh' ∧ A'.Perm A ∧ HeapQ A' ∧ WhOk A' wh' m ∧ Keep (HpF g gw (.slice (some ⟨ge, 0, none⟩) n c)) w w'
theorem down_fin {g gw m ge c n : Nat} {A L : List Ent} {wh1 : List Int} {k : Nat} {e : Ent} {w w' : World} (hu : DnS A m e L wh1 k) (hd : ∀ j, (j = 2 * k + 1 ∨ j = 2 * k + 2) → j < n → e.le (eg L j)) (hr : HpR w' g gw m (.slice (some ⟨ge, 0, none⟩) n c) n (L.set k e) (wh1.set e.id (k : Int)))
    (hk : Keep (HpF g gw (.slice (some ⟨ge, 0, none⟩) n c)) w w') (hl : A.length = n) : DnPost g gw m ge c n A w w' := by
  obtain ⟨h1, h2, h3, _⟩ := hu.done (fun j hj hjl => hd j hj (by omega))
  exact ⟨_, _, hr, h1, h2, h3, hk⟩

set_option maxRecDepth 20000 in
set_option maxHeartbeats 2000000 in
theorem down_any (g gw m ge c n : Nat) (A : List Ent) (wh : List Int) (i : Nat) (w : World) (h : HpR w g gw m (.slice (some ⟨ge, 0, none⟩) n c) n A wh) (hi : i < n) (hs : DInv A i) (hw : WhEx A wh m i) (hn : n ≤ 100000) :
    Calls Try.prog 107 #[.pointer (some ⟨g, 0, none⟩), .int .i64 (i : Int)] w fun en w' => en = .returned (.tuple #[]) ∧ DnPost g gw m ge c n A w w' := by
  have hlen := h.len
  have hDn := hid (DnS.start (by omega) hs hw)
  have HA := hid h
  have hE := hw.ids i (by omega)
  obtain ⟨e, he⟩ : ∃ e, eg A i = e := ⟨_, rfl⟩
  obtain ⟨e1, e2, -, -⟩ := h.cell_ent hi
  obtain ⟨f0, -, -⟩ := h.fields
  obtain ⟨n1, n2, n3, n4, n5, n6⟩ := h.ne
  rw [he] at hDn e1 e2 hE
  have HL := hid hlen
  clear h hs hw he hlen
  have HK0 : Hid (Keep (HpF g gw (.slice (some ⟨ge, 0, none⟩) n c)) w (w.alloc (.cells #[.int .i64 e.t, .int .i64 (e.id : Int)] 38))) := Keep.alloc _ _ _
  have HR0 : Hid (HpR (w.alloc (.cells #[.int .i64 e.t, .int .i64 (e.id : Int)] 38)) g gw m (.slice (some ⟨ge, 0, none⟩) n c) n A wh) := HA.out.below ((Below.refl _ _).alloc (Nat.le_refl _) _)
  go_enter Try.func107, Try.ntmps107
  go_wp2_with fail
  go_loopw [1] (fun iv wr => ∃ (k : Nat) (L : List Ent) (wh1 : List Int), k < n ∧ iv = .int .i64 (k : Int) ∧ HpR wr g gw m (.slice (some ⟨ge, 0, none⟩) n c) n L wh1 ∧ Hid (DnS A m e L wh1 k) ∧
      wr.cell? ⟨w.heap.size, 0, none⟩ = some (.int .i64 e.t) ∧ wr.cell? ⟨w.heap.size, 1, none⟩ = some (.int .i64 (e.id : Int)) ∧ w.heap.size < wr.heap.size ∧ Keep (HpF g gw (.slice (some ⟨ge, 0, none⟩) n c)) w wr) (fun iv _ => n - (intOf iv).toNat)
  case atStart => exact ⟨i, A, wh, hi, rfl, HR0.out, hDn, by go_simp, by go_simp, by simp, HK0.out⟩
  case round =>
    obtain ⟨k, L, wh1, hk, rfl, hr, HU, b0, b1, hlt, hkp⟩ := hrel
    have HR := hid hr
    have HKP := hid hkp
    obtain ⟨f0, f1, f2⟩ := hr.fields
    obtain ⟨-, -, -, m4, m5, m6⟩ := hr.ne
    clear HR0 HK0 hkp HA n1 n2 n3 hDn e1 e2
    have hidE : ∀ j, j < n → j ≠ k → (eg L j).id < m := by
      intro j hj hjk
      have h1 := HU.out.ex.ids j (by have := HU.out.len; have := HL.out; simp; omega)
      rwa [eg_set (by have := HU.out.len; have := HL.out; omega), if_neg hjk] at h1
    have HID := hid hidE
    clear hidE
    obtain ⟨c1, hc1⟩ : ∃ c1 : Nat, c1 = 2 * k + 1 := ⟨_, rfl⟩
    obtain ⟨c2, hc2⟩ : ∃ c2 : Nat, c2 = c1 + 1 := ⟨_, rfl⟩
    have hC1 : 2 * (k : Int) + 1 = (c1 : Int) := by omega
    have hC2 : (c1 : Int) + 1 = (c2 : Int) := by omega
    have HC1 := hid hc1
    have HC2 := hid hc2
    by_cases h1 : c1 < n
    · have h1d : decide (n ≤ c1) = false := by simp; omega
      obtain ⟨x1, hx1⟩ : ∃ x1, eg L c1 = x1 := ⟨_, rfl⟩
      obtain ⟨r1, r2, -, -⟩ := hr.cell_ent (i := c1) h1
      rw [hx1] at r1 r2
      by_cases h2 : c2 < n
      · have h2d : decide (c2 < n) = true := decide_eq_true h2
        obtain ⟨x2, hx2⟩ : ∃ x2, eg L c2 = x2 := ⟨_, rfl⟩
        obtain ⟨r3, r4, -, -⟩ := hr.cell_ent (i := c2) h2
        rw [hx2] at r3 r4
        have HX1 := hid hx1
        have HX2 := hid hx2
        by_cases hc : cmpE x2 x1 < 0
        · have hcd : decide (cmpE x2 x1 < 0) = true := decide_eq_true hc
          have HC : Hid (x2.lt x1) := cmpE_lt.1 hc
          obtain ⟨b, hb⟩ : ∃ b, b = c2 := ⟨_, rfl⟩
          obtain ⟨x, hx⟩ : ∃ x, x = x2 := ⟨_, rfl⟩
          have hbn : b < n := by omega
          have HBC : Hid (b = 2 * k + 1 ∨ b = 2 * k + 2) := by rw [Hid]; omega
          have HXB : Hid (eg L b = x) := by rw [hb, hx]; exact hx2
          have HMIN : Hid (∀ j, (j = 2 * k + 1 ∨ j = 2 * k + 2) → j < A.length → (eg L b).le (eg L j)) := by
            rintro j (rfl | rfl) hj
            · rw [← hc1, hx1, HXB.out, hx]; exact Ent.le_of_lt HC.out
            · rw [show 2 * k + 2 = b from by omega]; exact Ent.le_refl _
          have HDONE : Hid (e.le x → ∀ j, (j = 2 * k + 1 ∨ j = 2 * k + 2) → j < n → e.le (eg L j)) := by
            intro he j hj hjn
            have := HMIN.out j hj (by have := HL.out; omega)
            rw [HXB.out] at this; exact Ent.le_trans he this
          have hxid : x.id < m := by rw [← HXB.out]; exact HID.out b hbn (by omega)
          have hwr : IntKind.i64.wrap (c2 : Int) = (c2 : Int) := IntWalk.i64_in _ (by omega)
          have h2i : decide ((c2 : Int) < (n : Int)) = true := decide_eq_true (by omega)
          obtain rfl := hb
          obtain rfl := hx
          clear hx1 hx2 hr hc HC
          clear hc1 hc2
          go_wp2_with fail
          refine wp_region_tail 24 (by kernel_rfl) (by kernel_rfl) ?_
          simp only [List.take_succ_cons, List.take_zero, List.drop_succ_cons, List.drop_zero]
          repeat still_step
          refine wpStill_nil ?_
          clear hwr
          go_wp2_with (go_at_call 103; (with_reducible refine (order_any x x1 _).mono ?_); rintro en w2 ⟨rfl, hb2⟩; have hb3 := below_drewN hb2; obtain ⟨hcw2, hfw2⟩ := bcell hb3; have hsw2 := hb3.size; have HRw2 := hid (HR.out.below (hb3)); have HKw2 := hid (HKP.out.trans (Keep.of_below (F := HpF g gw (.slice (some ⟨ge, 0, none⟩) n c)) hb3) (fun _ => .inl)); clear hb2 hb3)
          go_wp2_with fail
          have hbw : (w.heap.size : Nat) < w2.heap.size := Nat.lt_of_lt_of_le hlt hsw2
          have B0 : w2.cell? ⟨w.heap.size, 0, none⟩ = some (.int .i64 e.t) := (hcw2 _ 0 hlt).trans b0
          have B1 : w2.cell? ⟨w.heap.size, 1, none⟩ = some (.int .i64 (e.id : Int)) := (hcw2 _ 1 hlt).trans b1
          obtain ⟨p1, p2, -, -⟩ := HRw2.out.cell_ent (i := b) hbn
          obtain ⟨g0, -, -⟩ := HRw2.out.fields
          obtain ⟨-, -, -, m4', m5', m6'⟩ := HRw2.out.ne
          rw [HXB.out] at p1 p2
          by_cases hd : cmpE e x ≤ 0
          · have hd1 : decide (cmpE e x ≤ 0) = true := decide_eq_true hd
            have HD : Hid (e.le x) := cmpE_le.1 hd
            refine wp_region_tail 8 (by kernel_rfl) (by kernel_rfl) ?_
            simp only [List.take_succ_cons, List.take_zero, List.drop_succ_cons, List.drop_zero]
            repeat still_step
            refine wpStill_nil ?_
            go_wp2_with (first
              | (go_at_call 103; (with_reducible refine (order_any e x _).mono ?_); rintro en w8 ⟨rfl, hb2⟩; have hb3 := below_drewN hb2; obtain ⟨hcw8, hfw8⟩ := bcell hb3; have hsw8 := hb3.size; have HRw8 := hid (HRw2.out.below (hb3)); have HKw8 := hid (HKw2.out.trans (Keep.of_below (F := HpF g gw (.slice (some ⟨ge, 0, none⟩) n c)) hb3) (fun _ => .inl)); clear hb2 hb3)
              | (go_at_call 106; refine (put_any g gw m ge c n L wh1 k e _ HRw8.out hk hE).mono ?_; rintro en w9 ⟨rfl, hr9, hk9⟩))
            go_end0
            exact ⟨rfl, down_fin HU.out (HDONE.out HD.out) hr9 (HKw8.out.trans hk9 (fun _ => .inl)) HL.out⟩
          · have hd1 : decide (cmpE e x ≤ 0) = false := decide_eq_false hd
            have HD : Hid (x.lt e) := Ent.not_le.1 (fun h => hd (cmpE_le.2 h))
            clear hd
            go_wp2_with fail
            refine wp_region_tail 8 (by kernel_rfl) (by kernel_rfl) ?_
            simp only [List.take_succ_cons, List.take_zero, List.drop_succ_cons, List.drop_zero]
            repeat still_step
            refine wpStill_nil ?_
            go_wp2_with (first
              | (go_at_call 103; (with_reducible refine (order_any e x _).mono ?_); rintro en w8 ⟨rfl, hb2⟩; have hb3 := below_drewN hb2; obtain ⟨hcw8, hfw8⟩ := bcell hb3; have hsw8 := hb3.size; have HRw8 := hid (HRw2.out.below (hb3)); have HKw8 := hid (HKw2.out.trans (Keep.of_below (F := HpF g gw (.slice (some ⟨ge, 0, none⟩) n c)) hb3) (fun _ => .inl)); clear hb2 hb3)
              | (go_at_call 106; refine (put_any g gw m ge c n L wh1 k x _ HRw8.out hk hxid).mono ?_; rintro en w9 ⟨rfl, hr9, hk9⟩))
            have hlt8 : w.heap.size < w8.heap.size := Nat.lt_of_lt_of_le hbw hsw8
            have hnf : ¬ HpF g gw (.slice (some ⟨ge, 0, none⟩) n c) w.heap.size := by
              rintro (h1 | h1 | h1)
              · omega
              · omega
              · simp only [Value.ownBlock, Option.some.injEq] at h1; omega
            have C0 := ((hk9.cell (o := 0) hlt8 hnf).trans (hcw8 _ 0 hbw)).trans B0
            have C1 := ((hk9.cell (o := 1) hlt8 hnf).trans (hcw8 _ 1 hbw)).trans B1
            have hlt9 := Nat.lt_of_lt_of_le hlt8 hk9.size
            have HU2 : Hid (DnS A m e (L.set k x) (wh1.set x.id (k : Int)) b) := by
              have := HU.out.step (b := b) (by have := HL.out; omega) HBC.out HMIN.out (by rw [HXB.out]; exact HD.out)
              rwa [HXB.out] at this
            have HK9 := HKw8.out.trans hk9 (fun _ => .inl)
            go_roundw
            case rel => exact ⟨b, _, _, hbn, rfl, hr9, HU2, C0, C1, hlt9, HK9⟩
            case measure => simp [intOf]; have := HBC.out; omega
        · have hcd : decide (cmpE x2 x1 < 0) = false := decide_eq_false hc
          have HC : Hid (x1.le x2) := Ent.not_lt.1 (fun h => hc (cmpE_lt.2 h))
          obtain ⟨b, hb⟩ : ∃ b, b = c1 := ⟨_, rfl⟩
          obtain ⟨x, hx⟩ : ∃ x, x = x1 := ⟨_, rfl⟩
          have hbn : b < n := by omega
          have HBC : Hid (b = 2 * k + 1 ∨ b = 2 * k + 2) := by rw [Hid]; omega
          have HXB : Hid (eg L b = x) := by rw [hb, hx]; exact hx1
          have HMIN : Hid (∀ j, (j = 2 * k + 1 ∨ j = 2 * k + 2) → j < A.length → (eg L b).le (eg L j)) := by
            rintro j (rfl | rfl) hj
            · rw [show 2 * k + 1 = b from by omega]; exact Ent.le_refl _
            · rw [show 2 * k + 2 = c2 from by omega, hx2, HXB.out, hx]; exact HC.out
          have HDONE : Hid (e.le x → ∀ j, (j = 2 * k + 1 ∨ j = 2 * k + 2) → j < n → e.le (eg L j)) := by
            intro he j hj hjn
            have := HMIN.out j hj (by have := HL.out; omega)
            rw [HXB.out] at this; exact Ent.le_trans he this
          have hxid : x.id < m := by rw [← HXB.out]; exact HID.out b hbn (by omega)
          have hwr : IntKind.i64.wrap (c2 : Int) = (c2 : Int) := IntWalk.i64_in _ (by omega)
          have h2i : decide ((c2 : Int) < (n : Int)) = true := decide_eq_true (by omega)
          obtain rfl := hb
          obtain rfl := hx
          clear hx1 hx2 hr hc HC
          clear hc1 hc2
          go_wp2_with fail
          refine wp_region_tail 24 (by kernel_rfl) (by kernel_rfl) ?_
          simp only [List.take_succ_cons, List.take_zero, List.drop_succ_cons, List.drop_zero]
          repeat still_step
          refine wpStill_nil ?_
          clear hwr
          go_wp2_with (go_at_call 103; (with_reducible refine (order_any x2 x _).mono ?_); rintro en w2 ⟨rfl, hb2⟩; have hb3 := below_drewN hb2; obtain ⟨hcw2, hfw2⟩ := bcell hb3; have hsw2 := hb3.size; have HRw2 := hid (HR.out.below (hb3)); have HKw2 := hid (HKP.out.trans (Keep.of_below (F := HpF g gw (.slice (some ⟨ge, 0, none⟩) n c)) hb3) (fun _ => .inl)); clear hb2 hb3)
          go_wp2_with fail
          have hbw : (w.heap.size : Nat) < w2.heap.size := Nat.lt_of_lt_of_le hlt hsw2
          have B0 : w2.cell? ⟨w.heap.size, 0, none⟩ = some (.int .i64 e.t) := (hcw2 _ 0 hlt).trans b0
          have B1 : w2.cell? ⟨w.heap.size, 1, none⟩ = some (.int .i64 (e.id : Int)) := (hcw2 _ 1 hlt).trans b1
          obtain ⟨p1, p2, -, -⟩ := HRw2.out.cell_ent (i := b) hbn
          obtain ⟨g0, -, -⟩ := HRw2.out.fields
          obtain ⟨-, -, -, m4', m5', m6'⟩ := HRw2.out.ne
          rw [HXB.out] at p1 p2
          by_cases hd : cmpE e x ≤ 0
          · have hd1 : decide (cmpE e x ≤ 0) = true := decide_eq_true hd
            have HD : Hid (e.le x) := cmpE_le.1 hd
            refine wp_region_tail 8 (by kernel_rfl) (by kernel_rfl) ?_
            simp only [List.take_succ_cons, List.take_zero, List.drop_succ_cons, List.drop_zero]
            repeat still_step
            refine wpStill_nil ?_
            go_wp2_with (first
              | (go_at_call 103; (with_reducible refine (order_any e x _).mono ?_); rintro en w8 ⟨rfl, hb2⟩; have hb3 := below_drewN hb2; obtain ⟨hcw8, hfw8⟩ := bcell hb3; have hsw8 := hb3.size; have HRw8 := hid (HRw2.out.below (hb3)); have HKw8 := hid (HKw2.out.trans (Keep.of_below (F := HpF g gw (.slice (some ⟨ge, 0, none⟩) n c)) hb3) (fun _ => .inl)); clear hb2 hb3)
              | (go_at_call 106; refine (put_any g gw m ge c n L wh1 k e _ HRw8.out hk hE).mono ?_; rintro en w9 ⟨rfl, hr9, hk9⟩))
            go_end0
            exact ⟨rfl, down_fin HU.out (HDONE.out HD.out) hr9 (HKw8.out.trans hk9 (fun _ => .inl)) HL.out⟩
          · have hd1 : decide (cmpE e x ≤ 0) = false := decide_eq_false hd
            have HD : Hid (x.lt e) := Ent.not_le.1 (fun h => hd (cmpE_le.2 h))
            clear hd
            go_wp2_with fail
            refine wp_region_tail 8 (by kernel_rfl) (by kernel_rfl) ?_
            simp only [List.take_succ_cons, List.take_zero, List.drop_succ_cons, List.drop_zero]
            repeat still_step
            refine wpStill_nil ?_
            go_wp2_with (first
              | (go_at_call 103; (with_reducible refine (order_any e x _).mono ?_); rintro en w8 ⟨rfl, hb2⟩; have hb3 := below_drewN hb2; obtain ⟨hcw8, hfw8⟩ := bcell hb3; have hsw8 := hb3.size; have HRw8 := hid (HRw2.out.below (hb3)); have HKw8 := hid (HKw2.out.trans (Keep.of_below (F := HpF g gw (.slice (some ⟨ge, 0, none⟩) n c)) hb3) (fun _ => .inl)); clear hb2 hb3)
              | (go_at_call 106; refine (put_any g gw m ge c n L wh1 k x _ HRw8.out hk hxid).mono ?_; rintro en w9 ⟨rfl, hr9, hk9⟩))
            have hlt8 : w.heap.size < w8.heap.size := Nat.lt_of_lt_of_le hbw hsw8
            have hnf : ¬ HpF g gw (.slice (some ⟨ge, 0, none⟩) n c) w.heap.size := by
              rintro (h1 | h1 | h1)
              · omega
              · omega
              · simp only [Value.ownBlock, Option.some.injEq] at h1; omega
            have C0 := ((hk9.cell (o := 0) hlt8 hnf).trans (hcw8 _ 0 hbw)).trans B0
            have C1 := ((hk9.cell (o := 1) hlt8 hnf).trans (hcw8 _ 1 hbw)).trans B1
            have hlt9 := Nat.lt_of_lt_of_le hlt8 hk9.size
            have HU2 : Hid (DnS A m e (L.set k x) (wh1.set x.id (k : Int)) b) := by
              have := HU.out.step (b := b) (by have := HL.out; omega) HBC.out HMIN.out (by rw [HXB.out]; exact HD.out)
              rwa [HXB.out] at this
            have HK9 := HKw8.out.trans hk9 (fun _ => .inl)
            go_roundw
            case rel => exact ⟨b, _, _, hbn, rfl, hr9, HU2, C0, C1, hlt9, HK9⟩
            case measure => simp [intOf]; have := HBC.out; omega
      · have h2d : decide (c2 < n) = false := decide_eq_false h2
        obtain ⟨b, hb⟩ : ∃ b, b = c1 := ⟨_, rfl⟩
        obtain ⟨x, hx⟩ : ∃ x, x = x1 := ⟨_, rfl⟩
        have hbn : b < n := by omega
        have HBC : Hid (b = 2 * k + 1 ∨ b = 2 * k + 2) := by rw [Hid]; omega
        have HXB : Hid (eg L b = x) := by rw [hb, hx]; exact hx1
        have HMIN : Hid (∀ j, (j = 2 * k + 1 ∨ j = 2 * k + 2) → j < A.length → (eg L b).le (eg L j)) := by
          rintro j (rfl | rfl) hj
          · rw [show 2 * k + 1 = b from by omega]; exact Ent.le_refl _
          · have := HL.out; omega
        have HDONE : Hid (e.le x → ∀ j, (j = 2 * k + 1 ∨ j = 2 * k + 2) → j < n → e.le (eg L j)) := by
          intro he j hj hjn
          have := HMIN.out j hj (by have := HL.out; omega)
          rw [HXB.out] at this; exact Ent.le_trans he this
        have hxid : x.id < m := by rw [← HXB.out]; exact HID.out b hbn (by omega)
        have hwr : IntKind.i64.wrap (c2 : Int) = (c2 : Int) := IntWalk.i64_in _ (by omega)
        have h2i : decide ((c2 : Int) < (n : Int)) = false := decide_eq_false (by omega)
        obtain rfl := hb
        obtain rfl := hx
        clear hx1 hc1 hc2 hr
        go_wp2_with fail
        go_quiet (fail)
        clear hwr
        generalize hwn : wr.drewN nq = wn
        have HWN : Hid (Below wr.heap.size wr wn) := by rw [← hwn]; exact drewN_below _ nq
        have HRn := hid (HR.out.below HWN.out)
        have HKn := hid (HKP.out.trans (Keep.of_below (F := HpF g gw (.slice (some ⟨ge, 0, none⟩) n c)) HWN.out) (fun _ => .inl))
        have hltn : w.heap.size < wn.heap.size := Nat.lt_of_lt_of_le hlt HWN.out.size
        have b0n := (HWN.out.cell (p := ⟨w.heap.size, 0, none⟩) hlt).trans b0
        have b1n := (HWN.out.cell (p := ⟨w.heap.size, 1, none⟩) hlt).trans b1
        clear hwn
        go_wp2_with fail
        have hbw : (w.heap.size : Nat) < wn.heap.size := hltn
        have B0 : wn.cell? ⟨w.heap.size, 0, none⟩ = some (.int .i64 e.t) := b0n
        have B1 : wn.cell? ⟨w.heap.size, 1, none⟩ = some (.int .i64 (e.id : Int)) := b1n
        obtain ⟨p1, p2, -, -⟩ := HRn.out.cell_ent (i := b) hbn
        obtain ⟨g0, -, -⟩ := HRn.out.fields
        obtain ⟨-, -, -, m4', m5', m6'⟩ := HRn.out.ne
        rw [HXB.out] at p1 p2
        by_cases hd : cmpE e x ≤ 0
        · have hd1 : decide (cmpE e x ≤ 0) = true := decide_eq_true hd
          have HD : Hid (e.le x) := cmpE_le.1 hd
          refine wp_region_tail 8 (by kernel_rfl) (by kernel_rfl) ?_
          simp only [List.take_succ_cons, List.take_zero, List.drop_succ_cons, List.drop_zero]
          repeat still_step
          refine wpStill_nil ?_
          go_wp2_with (first
            | (go_at_call 103; (with_reducible refine (order_any e x _).mono ?_); rintro en w8 ⟨rfl, hb2⟩; have hb3 := below_drewN hb2; obtain ⟨hcw8, hfw8⟩ := bcell hb3; have hsw8 := hb3.size; have HRw8 := hid (HRn.out.below (hb3)); have HKw8 := hid (HKn.out.trans (Keep.of_below (F := HpF g gw (.slice (some ⟨ge, 0, none⟩) n c)) hb3) (fun _ => .inl)); clear hb2 hb3)
            | (go_at_call 106; refine (put_any g gw m ge c n L wh1 k e _ HRw8.out hk hE).mono ?_; rintro en w9 ⟨rfl, hr9, hk9⟩))
          go_end0
          exact ⟨rfl, down_fin HU.out (HDONE.out HD.out) hr9 (HKw8.out.trans hk9 (fun _ => .inl)) HL.out⟩
        · have hd1 : decide (cmpE e x ≤ 0) = false := decide_eq_false hd
          have HD : Hid (x.lt e) := Ent.not_le.1 (fun h => hd (cmpE_le.2 h))
          clear hd
          go_wp2_with fail
          refine wp_region_tail 8 (by kernel_rfl) (by kernel_rfl) ?_
          simp only [List.take_succ_cons, List.take_zero, List.drop_succ_cons, List.drop_zero]
          repeat still_step
          refine wpStill_nil ?_
          go_wp2_with (first
            | (go_at_call 103; (with_reducible refine (order_any e x _).mono ?_); rintro en w8 ⟨rfl, hb2⟩; have hb3 := below_drewN hb2; obtain ⟨hcw8, hfw8⟩ := bcell hb3; have hsw8 := hb3.size; have HRw8 := hid (HRn.out.below (hb3)); have HKw8 := hid (HKn.out.trans (Keep.of_below (F := HpF g gw (.slice (some ⟨ge, 0, none⟩) n c)) hb3) (fun _ => .inl)); clear hb2 hb3)
            | (go_at_call 106; refine (put_any g gw m ge c n L wh1 k x _ HRw8.out hk hxid).mono ?_; rintro en w9 ⟨rfl, hr9, hk9⟩))
          have hlt8 : w.heap.size < w8.heap.size := Nat.lt_of_lt_of_le hbw hsw8
          have hnf : ¬ HpF g gw (.slice (some ⟨ge, 0, none⟩) n c) w.heap.size := by
            rintro (h1 | h1 | h1)
            · omega
            · omega
            · simp only [Value.ownBlock, Option.some.injEq] at h1; omega
          have C0 := ((hk9.cell (o := 0) hlt8 hnf).trans (hcw8 _ 0 hbw)).trans B0
          have C1 := ((hk9.cell (o := 1) hlt8 hnf).trans (hcw8 _ 1 hbw)).trans B1
          have hlt9 := Nat.lt_of_lt_of_le hlt8 hk9.size
          have HU2 : Hid (DnS A m e (L.set k x) (wh1.set x.id (k : Int)) b) := by
            have := HU.out.step (b := b) (by have := HL.out; omega) HBC.out HMIN.out (by rw [HXB.out]; exact HD.out)
            rwa [HXB.out] at this
          have HK9 := HKw8.out.trans hk9 (fun _ => .inl)
          go_roundw
          case rel => exact ⟨b, _, _, hbn, rfl, hr9, HU2, C0, C1, hlt9, HK9⟩
          case measure => simp [intOf]; have := HBC.out; omega
    · have h1d : decide (n ≤ c1) = true := by simp; omega
      have HD : Hid (∀ j, (j = 2 * k + 1 ∨ j = 2 * k + 2) → j < n → e.le (eg L j)) := by intro j hj hjn; omega
      have HP := hid (put_any g gw m ge c n L wh1 k e wr hr hk hE)
      clear hr hc1 hc2
      go_wp2_with (go_at_call 106; refine HP.out.mono ?_; rintro en w9 ⟨rfl, hr9, hk9⟩)
      go_end0
      exact ⟨rfl, down_fin HU.out HD.out hr9 (HKP.out.trans hk9 (fun _ => .inl)) HL.out⟩
end Go.Proofs.Ytdhoedohchbagaa
