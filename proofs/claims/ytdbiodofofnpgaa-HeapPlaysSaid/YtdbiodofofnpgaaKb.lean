/- Walks: package heap: down. Walks: package heap: settle, cut. -/
import Derived.Test.YtdbiodofofnpgaaKa
import Derived.IntWalk
namespace Go.Proofs.Ytdbiodofofnpgaa
open Go.RowKit

def DnPost (g gw m ge c n : Nat) (A : List Ent) (w w' : World) : Prop :=
  ∃ A' wh', HpR w' g gw m (.slice (some ⟨ge, 0, none⟩) n c) n A' wh' ∧ A'.Perm A ∧ HeapQ A' ∧ WhOk A' wh' m ∧ Keep (HpF g gw (.slice (some ⟨ge, 0, none⟩) n c)) w w'
theorem down_fin {g gw m ge c n : Nat} {A L : List Ent} {wh1 : List Int} {k : Nat} {e : Ent} {w w' : World} (hu : DnS A m e L wh1 k) (hd : ∀ j, (j = 2 * k + 1 ∨ j = 2 * k + 2) → j < n → e.le (eg L j)) (hr : HpR w' g gw m (.slice (some ⟨ge, 0, none⟩) n c) n (L.set k e) (wh1.set e.id (k : Int)))
    (hk : Keep (HpF g gw (.slice (some ⟨ge, 0, none⟩) n c)) w w') (hl : A.length = n) : DnPost g gw m ge c n A w w' := by
  obtain ⟨h1, h2, h3, _⟩ := hu.done (fun j hj hjl => hd j hj (by omega))
  exact ⟨_, _, hr, h1, h2, h3, hk⟩

set_option maxRecDepth 20000 in
set_option maxHeartbeats 2000000 in
theorem down_any (g gw m ge c n : Nat) (A : List Ent) (wh : List Int) (i : Nat) (w : World) (h : HpR w g gw m (.slice (some ⟨ge, 0, none⟩) n c) n A wh) (hi : i < n) (hs : DInv A i) (hw : WhEx A wh m i) (hn : n ≤ 100000) :
    Calls Try.prog 126 #[.pointer (some ⟨g, 0, none⟩), .int .i64 (i : Int)] w fun en w' => en = .returned (.tuple #[]) ∧ DnPost g gw m ge c n A w w' := by
  have hlen := h.len
  have hDn := hid (DnS.start (by omega) hs hw)
  have HA := hid h
  have hE := hw.ids i (by omega)
  obtain ⟨e, he⟩ : ∃ e, eg A i = e := ⟨_, rfl⟩
  obtain ⟨e1, e2, -, -⟩ := h.cell_ent hi
  obtain ⟨f0, -, -⟩ := h.fields
  obtain ⟨n1, n2, n3, n4, n5, n6⟩ := h.ne
  rw [he] at hDn e1 e2 hE
  have HL := hid hlen
  clear h hs hw he hlen
  have HK0 : Hid (Keep (HpF g gw (.slice (some ⟨ge, 0, none⟩) n c)) w (w.alloc (.cells #[.int .i64 e.t, .int .i64 (e.id : Int)] 114))) := Keep.alloc _ _ _
  have HR0 : Hid (HpR (w.alloc (.cells #[.int .i64 e.t, .int .i64 (e.id : Int)] 114)) g gw m (.slice (some ⟨ge, 0, none⟩) n c) n A wh) := HA.out.below ((Below.refl _ _).alloc (Nat.le_refl _) _)
  go_enter Try.func126, Try.ntmps126
  go_wp2_with fail
  go_loopw [1] (fun iv wr => ∃ (k : Nat) (L : List Ent) (wh1 : List Int), k < n ∧ iv = .int .i64 (k : Int) ∧ HpR wr g gw m (.slice (some ⟨ge, 0, none⟩) n c) n L wh1 ∧ Hid (DnS A m e L wh1 k) ∧
      wr.cell? ⟨w.heap.size, 0, none⟩ = some (.int .i64 e.t) ∧ wr.cell? ⟨w.heap.size, 1, none⟩ = some (.int .i64 (e.id : Int)) ∧ w.heap.size < wr.heap.size ∧ Keep (HpF g gw (.slice (some ⟨ge, 0, none⟩) n c)) w wr) (fun iv _ => n - (intOf iv).toNat)
  case atStart => exact ⟨i, A, wh, hi, rfl, HR0.out, hDn, by go_simp, by go_simp, by simp, HK0.out⟩
  case round =>
    obtain ⟨k, L, wh1, hk, rfl, hr, HU, b0, b1, hlt, hkp⟩ := hrel
    have HR := hid hr
    have HKP := hid hkp
    obtain ⟨f0, f1, f2⟩ := hr.fields
    obtain ⟨-, -, -, m4, m5, m6⟩ := hr.ne
    clear HR0 HK0 hkp HA n1 n2 n3 hDn e1 e2
    have hidE : ∀ j, j < n → j ≠ k → (eg L j).id < m := by
      intro j hj hjk
      have h1 := HU.out.ex.ids j (by have := HU.out.len; have := HL.out; simp; omega)
      rwa [eg_set (by have := HU.out.len; have := HL.out; omega), if_neg hjk] at h1
    have HID := hid hidE
    clear hidE
    obtain ⟨c1, hc1⟩ : ∃ c1 : Nat, c1 = 2 * k + 1 := ⟨_, rfl⟩
    obtain ⟨c2, hc2⟩ : ∃ c2 : Nat, c2 = c1 + 1 := ⟨_, rfl⟩
    have hC1 : 2 * (k : Int) + 1 = (c1 : Int) := by omega
    have hC2 : (c1 : Int) + 1 = (c2 : Int) := by omega
    have HC1 := hid hc1
    have HC2 := hid hc2
    by_cases h1 : c1 < n
    · have h1d : decide (n ≤ c1) = false := by simp; omega
      obtain ⟨x1, hx1⟩ : ∃ x1, eg L c1 = x1 := ⟨_, rfl⟩
      obtain ⟨r1, r2, -, -⟩ := hr.cell_ent (i := c1) h1
      rw [hx1] at r1 r2
      by_cases h2 : c2 < n
      · have h2d : decide (c2 < n) = true := decide_eq_true h2
        obtain ⟨x2, hx2⟩ : ∃ x2, eg L c2 = x2 := ⟨_, rfl⟩
        obtain ⟨r3, r4, -, -⟩ := hr.cell_ent (i := c2) h2
        rw [hx2] at r3 r4
        have HX1 := hid hx1
        have HX2 := hid hx2
        by_cases hc : cmpE x2 x1 < 0
        · have hcd : decide (cmpE x2 x1 < 0) = true := decide_eq_true hc
          have HC : Hid (x2.lt x1) := cmpE_lt.1 hc
          obtain ⟨b, hb⟩ : ∃ b, b = c2 := ⟨_, rfl⟩
          obtain ⟨x, hx⟩ : ∃ x, x = x2 := ⟨_, rfl⟩
          have hbn : b < n := by omega
          have HBC : Hid (b = 2 * k + 1 ∨ b = 2 * k + 2) := by rw [Hid]; omega
          have HXB : Hid (eg L b = x) := by rw [hb, hx]; exact hx2
          have HMIN : Hid (∀ j, (j = 2 * k + 1 ∨ j = 2 * k + 2) → j < A.length → (eg L b).le (eg L j)) := by
            rintro j (rfl | rfl) hj
            · rw [← hc1, hx1, HXB.out, hx]; exact Ent.le_of_lt HC.out
            · rw [show 2 * k + 2 = b from by omega]; exact Ent.le_refl _
          have HDONE : Hid (e.le x → ∀ j, (j = 2 * k + 1 ∨ j = 2 * k + 2) → j < n → e.le (eg L j)) := by
            intro he j hj hjn
            have := HMIN.out j hj (by have := HL.out; omega)
            rw [HXB.out] at this; exact Ent.le_trans he this
          have hxid : x.id < m := by rw [← HXB.out]; exact HID.out b hbn (by omega)
          have hwr : IntKind.i64.wrap (c2 : Int) = (c2 : Int) := IntWalk.i64_in _ (by omega)
          have h2i : decide ((c2 : Int) < (n : Int)) = true := decide_eq_true (by omega)
          obtain rfl := hb
          obtain rfl := hx
          clear hx1 hx2 hr hc HC
          clear hc1 hc2
          go_wp2_with fail
          refine wp_region_tail 24 (by kernel_rfl) (by kernel_rfl) ?_
          simp only [List.take_succ_cons, List.take_zero, List.drop_succ_cons, List.drop_zero]
          repeat still_step
          refine wpStill_nil ?_
          clear hwr
          go_wp2_with (go_at_call 123; (with_reducible refine (order_any x x1 _).mono ?_); rintro en w2 ⟨rfl, hb2⟩; have hb3 := below_drewN hb2; obtain ⟨hcw2, hfw2⟩ := bcell hb3; have hsw2 := hb3.size; have HRw2 := hid (HR.out.below (hb3)); have HKw2 := hid (HKP.out.trans (Keep.of_below (F := HpF g gw (.slice (some ⟨ge, 0, none⟩) n c)) hb3) (fun _ => .inl)); clear hb2 hb3)
          go_wp2_with fail
          have hbw : (w.heap.size : Nat) < w2.heap.size := Nat.lt_of_lt_of_le hlt hsw2
          have B0 : w2.cell? ⟨w.heap.size, 0, none⟩ = some (.int .i64 e.t) := (hcw2 _ 0 hlt).trans b0
          have B1 : w2.cell? ⟨w.heap.size, 1, none⟩ = some (.int .i64 (e.id : Int)) := (hcw2 _ 1 hlt).trans b1
          obtain ⟨p1, p2, -, -⟩ := HRw2.out.cell_ent (i := b) hbn
          obtain ⟨g0, -, -⟩ := HRw2.out.fields
          obtain ⟨-, -, -, m4', m5', m6'⟩ := HRw2.out.ne
          rw [HXB.out] at p1 p2
          by_cases hd : cmpE e x ≤ 0
          · have hd1 : decide (cmpE e x ≤ 0) = true := decide_eq_true hd
            have HD : Hid (e.le x) := cmpE_le.1 hd
            refine wp_region_tail 8 (by kernel_rfl) (by kernel_rfl) ?_
            simp only [List.take_succ_cons, List.take_zero, List.drop_succ_cons, List.drop_zero]
            repeat still_step
            refine wpStill_nil ?_
            go_wp2_with (first
              | (go_at_call 123; (with_reducible refine (order_any e x _).mono ?_); rintro en w8 ⟨rfl, hb2⟩; have hb3 := below_drewN hb2; obtain ⟨hcw8, hfw8⟩ := bcell hb3; have hsw8 := hb3.size; have HRw8 := hid (HRw2.out.below (hb3)); have HKw8 := hid (HKw2.out.trans (Keep.of_below (F := HpF g gw (.slice (some ⟨ge, 0, none⟩) n c)) hb3) (fun _ => .inl)); clear hb2 hb3)
              | (go_at_call 125; refine (put_any g gw m ge c n L wh1 k e _ HRw8.out hk hE).mono ?_; rintro en w9 ⟨rfl, hr9, hk9⟩))
            go_end0
            exact ⟨rfl, down_fin HU.out (HDONE.out HD.out) hr9 (HKw8.out.trans hk9 (fun _ => .inl)) HL.out⟩
          · have hd1 : decide (cmpE e x ≤ 0) = false := decide_eq_false hd
            have HD : Hid (x.lt e) := Ent.not_le.1 (fun h => hd (cmpE_le.2 h))
            clear hd
            go_wp2_with fail
            refine wp_region_tail 8 (by kernel_rfl) (by kernel_rfl) ?_
            simp only [List.take_succ_cons, List.take_zero, List.drop_succ_cons, List.drop_zero]
            repeat still_step
            refine wpStill_nil ?_
            go_wp2_with (first
              | (go_at_call 123; (with_reducible refine (order_any e x _).mono ?_); rintro en w8 ⟨rfl, hb2⟩; have hb3 := below_drewN hb2; obtain ⟨hcw8, hfw8⟩ := bcell hb3; have hsw8 := hb3.size; have HRw8 := hid (HRw2.out.below (hb3)); have HKw8 := hid (HKw2.out.trans (Keep.of_below (F := HpF g gw (.slice (some ⟨ge, 0, none⟩) n c)) hb3) (fun _ => .inl)); clear hb2 hb3)
              | (go_at_call 125; refine (put_any g gw m ge c n L wh1 k x _ HRw8.out hk hxid).mono ?_; rintro en w9 ⟨rfl, hr9, hk9⟩))
            have hlt8 : w.heap.size < w8.heap.size := Nat.lt_of_lt_of_le hbw hsw8
            have hnf : ¬ HpF g gw (.slice (some ⟨ge, 0, none⟩) n c) w.heap.size := by
              rintro (h1 | h1 | h1)
              · omega
              · omega
              · simp only [Value.ownBlock, Option.some.injEq] at h1; omega
            have C0 := ((hk9.cell (o := 0) hlt8 hnf).trans (hcw8 _ 0 hbw)).trans B0
            have C1 := ((hk9.cell (o := 1) hlt8 hnf).trans (hcw8 _ 1 hbw)).trans B1
            have hlt9 := Nat.lt_of_lt_of_le hlt8 hk9.size
            have HU2 : Hid (DnS A m e (L.set k x) (wh1.set x.id (k : Int)) b) := by
              have := HU.out.step (b := b) (by have := HL.out; omega) HBC.out HMIN.out (by rw [HXB.out]; exact HD.out)
              rwa [HXB.out] at this
            have HK9 := HKw8.out.trans hk9 (fun _ => .inl)
            go_roundw
            case rel => exact ⟨b, _, _, hbn, rfl, hr9, HU2, C0, C1, hlt9, HK9⟩
            case measure => simp [intOf]; have := HBC.out; omega
        · have hcd : decide (cmpE x2 x1 < 0) = false := decide_eq_false hc
          have HC : Hid (x1.le x2) := Ent.not_lt.1 (fun h => hc (cmpE_lt.2 h))
          obtain ⟨b, hb⟩ : ∃ b, b = c1 := ⟨_, rfl⟩
          obtain ⟨x, hx⟩ : ∃ x, x = x1 := ⟨_, rfl⟩
          have hbn : b < n := by omega
          have HBC : Hid (b = 2 * k + 1 ∨ b = 2 * k + 2) := by rw [Hid]; omega
          have HXB : Hid (eg L b = x) := by rw [hb, hx]; exact hx1
          have HMIN : Hid (∀ j, (j = 2 * k + 1 ∨ j = 2 * k + 2) → j < A.length → (eg L b).le (eg L j)) := by
            rintro j (rfl | rfl) hj
            · rw [show 2 * k + 1 = b from by omega]; exact Ent.le_refl _
            · rw [show 2 * k + 2 = c2 from by omega, hx2, HXB.out, hx]; exact HC.out
          have HDONE : Hid (e.le x → ∀ j, (j = 2 * k + 1 ∨ j = 2 * k + 2) → j < n → e.le (eg L j)) := by
            intro he j hj hjn
            have := HMIN.out j hj (by have := HL.out; omega)
            rw [HXB.out] at this; exact Ent.le_trans he this
          have hxid : x.id < m := by rw [← HXB.out]; exact HID.out b hbn (by omega)
          have hwr : IntKind.i64.wrap (c2 : Int) = (c2 : Int) := IntWalk.i64_in _ (by omega)
          have h2i : decide ((c2 : Int) < (n : Int)) = true := decide_eq_true (by omega)
          obtain rfl := hb
          obtain rfl := hx
          clear hx1 hx2 hr hc HC
          clear hc1 hc2
          go_wp2_with fail
          refine wp_region_tail 24 (by kernel_rfl) (by kernel_rfl) ?_
          simp only [List.take_succ_cons, List.take_zero, List.drop_succ_cons, List.drop_zero]
          repeat still_step
          refine wpStill_nil ?_
          clear hwr
          go_wp2_with (go_at_call 123; (with_reducible refine (order_any x2 x _).mono ?_); rintro en w2 ⟨rfl, hb2⟩; have hb3 := below_drewN hb2; obtain ⟨hcw2, hfw2⟩ := bcell hb3; have hsw2 := hb3.size; have HRw2 := hid (HR.out.below (hb3)); have HKw2 := hid (HKP.out.trans (Keep.of_below (F := HpF g gw (.slice (some ⟨ge, 0, none⟩) n c)) hb3) (fun _ => .inl)); clear hb2 hb3)
          go_wp2_with fail
          have hbw : (w.heap.size : Nat) < w2.heap.size := Nat.lt_of_lt_of_le hlt hsw2
          have B0 : w2.cell? ⟨w.heap.size, 0, none⟩ = some (.int .i64 e.t) := (hcw2 _ 0 hlt).trans b0
          have B1 : w2.cell? ⟨w.heap.size, 1, none⟩ = some (.int .i64 (e.id : Int)) := (hcw2 _ 1 hlt).trans b1
          obtain ⟨p1, p2, -, -⟩ := HRw2.out.cell_ent (i := b) hbn
          obtain ⟨g0, -, -⟩ := HRw2.out.fields
          obtain ⟨-, -, -, m4', m5', m6'⟩ := HRw2.out.ne
          rw [HXB.out] at p1 p2
          by_cases hd : cmpE e x ≤ 0
          · have hd1 : decide (cmpE e x ≤ 0) = true := decide_eq_true hd
            have HD : Hid (e.le x) := cmpE_le.1 hd
            refine wp_region_tail 8 (by kernel_rfl) (by kernel_rfl) ?_
            simp only [List.take_succ_cons, List.take_zero, List.drop_succ_cons, List.drop_zero]
            repeat still_step
            refine wpStill_nil ?_
            go_wp2_with (first
              | (go_at_call 123; (with_reducible refine (order_any e x _).mono ?_); rintro en w8 ⟨rfl, hb2⟩; have hb3 := below_drewN hb2; obtain ⟨hcw8, hfw8⟩ := bcell hb3; have hsw8 := hb3.size; have HRw8 := hid (HRw2.out.below (hb3)); have HKw8 := hid (HKw2.out.trans (Keep.of_below (F := HpF g gw (.slice (some ⟨ge, 0, none⟩) n c)) hb3) (fun _ => .inl)); clear hb2 hb3)
              | (go_at_call 125; refine (put_any g gw m ge c n L wh1 k e _ HRw8.out hk hE).mono ?_; rintro en w9 ⟨rfl, hr9, hk9⟩))
            go_end0
            exact ⟨rfl, down_fin HU.out (HDONE.out HD.out) hr9 (HKw8.out.trans hk9 (fun _ => .inl)) HL.out⟩
          · have hd1 : decide (cmpE e x ≤ 0) = false := decide_eq_false hd
            have HD : Hid (x.lt e) := Ent.not_le.1 (fun h => hd (cmpE_le.2 h))
            clear hd
            go_wp2_with fail
            refine wp_region_tail 8 (by kernel_rfl) (by kernel_rfl) ?_
            simp only [List.take_succ_cons, List.take_zero, List.drop_succ_cons, List.drop_zero]
            repeat still_step
            refine wpStill_nil ?_
            go_wp2_with (first
              | (go_at_call 123; (with_reducible refine (order_any e x _).mono ?_); rintro en w8 ⟨rfl, hb2⟩; have hb3 := below_drewN hb2; obtain ⟨hcw8, hfw8⟩ := bcell hb3; have hsw8 := hb3.size; have HRw8 := hid (HRw2.out.below (hb3)); have HKw8 := hid (HKw2.out.trans (Keep.of_below (F := HpF g gw (.slice (some ⟨ge, 0, none⟩) n c)) hb3) (fun _ => .inl)); clear hb2 hb3)
              | (go_at_call 125; refine (put_any g gw m ge c n L wh1 k x _ HRw8.out hk hxid).mono ?_; rintro en w9 ⟨rfl, hr9, hk9⟩))
            have hlt8 : w.heap.size < w8.heap.size := Nat.lt_of_lt_of_le hbw hsw8
            have hnf : ¬ HpF g gw (.slice (some ⟨ge, 0, none⟩) n c) w.heap.size := by
              rintro (h1 | h1 | h1)
              · omega
              · omega
              · simp only [Value.ownBlock, Option.some.injEq] at h1; omega
            have C0 := ((hk9.cell (o := 0) hlt8 hnf).trans (hcw8 _ 0 hbw)).trans B0
            have C1 := ((hk9.cell (o := 1) hlt8 hnf).trans (hcw8 _ 1 hbw)).trans B1
            have hlt9 := Nat.lt_of_lt_of_le hlt8 hk9.size
            have HU2 : Hid (DnS A m e (L.set k x) (wh1.set x.id (k : Int)) b) := by
              have := HU.out.step (b := b) (by have := HL.out; omega) HBC.out HMIN.out (by rw [HXB.out]; exact HD.out)
              rwa [HXB.out] at this
            have HK9 := HKw8.out.trans hk9 (fun _ => .inl)
            go_roundw
            case rel => exact ⟨b, _, _, hbn, rfl, hr9, HU2, C0, C1, hlt9, HK9⟩
            case measure => simp [intOf]; have := HBC.out; omega
      · have h2d : decide (c2 < n) = false := decide_eq_false h2
        obtain ⟨b, hb⟩ : ∃ b, b = c1 := ⟨_, rfl⟩
        obtain ⟨x, hx⟩ : ∃ x, x = x1 := ⟨_, rfl⟩
        have hbn : b < n := by omega
        have HBC : Hid (b = 2 * k + 1 ∨ b = 2 * k + 2) := by rw [Hid]; omega
        have HXB : Hid (eg L b = x) := by rw [hb, hx]; exact hx1
        have HMIN : Hid (∀ j, (j = 2 * k + 1 ∨ j = 2 * k + 2) → j < A.length → (eg L b).le (eg L j)) := by
          rintro j (rfl | rfl) hj
          · rw [show 2 * k + 1 = b from by omega]; exact Ent.le_refl _
          · have := HL.out; omega
        have HDONE : Hid (e.le x → ∀ j, (j = 2 * k + 1 ∨ j = 2 * k + 2) → j < n → e.le (eg L j)) := by
          intro he j hj hjn
          have := HMIN.out j hj (by have := HL.out; omega)
          rw [HXB.out] at this; exact Ent.le_trans he this
        have hxid : x.id < m := by rw [← HXB.out]; exact HID.out b hbn (by omega)
        have hwr : IntKind.i64.wrap (c2 : Int) = (c2 : Int) := IntWalk.i64_in _ (by omega)
        have h2i : decide ((c2 : Int) < (n : Int)) = false := decide_eq_false (by omega)
        obtain rfl := hb
        obtain rfl := hx
        clear hx1 hc1 hc2 hr
        go_wp2_with fail
        go_quiet (fail)
        clear hwr
        generalize hwn : wr.drewN nq = wn
        have HWN : Hid (Below wr.heap.size wr wn) := by rw [← hwn]; exact drewN_below _ nq
        have HRn := hid (HR.out.below HWN.out)
        have HKn := hid (HKP.out.trans (Keep.of_below (F := HpF g gw (.slice (some ⟨ge, 0, none⟩) n c)) HWN.out) (fun _ => .inl))
        have hltn : w.heap.size < wn.heap.size := Nat.lt_of_lt_of_le hlt HWN.out.size
        have b0n := (HWN.out.cell (p := ⟨w.heap.size, 0, none⟩) hlt).trans b0
        have b1n := (HWN.out.cell (p := ⟨w.heap.size, 1, none⟩) hlt).trans b1
        clear hwn
        go_wp2_with fail
        have hbw : (w.heap.size : Nat) < wn.heap.size := hltn
        have B0 : wn.cell? ⟨w.heap.size, 0, none⟩ = some (.int .i64 e.t) := b0n
        have B1 : wn.cell? ⟨w.heap.size, 1, none⟩ = some (.int .i64 (e.id : Int)) := b1n
        obtain ⟨p1, p2, -, -⟩ := HRn.out.cell_ent (i := b) hbn
        obtain ⟨g0, -, -⟩ := HRn.out.fields
        obtain ⟨-, -, -, m4', m5', m6'⟩ := HRn.out.ne
        rw [HXB.out] at p1 p2
        by_cases hd : cmpE e x ≤ 0
        · have hd1 : decide (cmpE e x ≤ 0) = true := decide_eq_true hd
          have HD : Hid (e.le x) := cmpE_le.1 hd
          refine wp_region_tail 8 (by kernel_rfl) (by kernel_rfl) ?_
          simp only [List.take_succ_cons, List.take_zero, List.drop_succ_cons, List.drop_zero]
          repeat still_step
          refine wpStill_nil ?_
          go_wp2_with (first
            | (go_at_call 123; (with_reducible refine (order_any e x _).mono ?_); rintro en w8 ⟨rfl, hb2⟩; have hb3 := below_drewN hb2; obtain ⟨hcw8, hfw8⟩ := bcell hb3; have hsw8 := hb3.size; have HRw8 := hid (HRn.out.below (hb3)); have HKw8 := hid (HKn.out.trans (Keep.of_below (F := HpF g gw (.slice (some ⟨ge, 0, none⟩) n c)) hb3) (fun _ => .inl)); clear hb2 hb3)
            | (go_at_call 125; refine (put_any g gw m ge c n L wh1 k e _ HRw8.out hk hE).mono ?_; rintro en w9 ⟨rfl, hr9, hk9⟩))
          go_end0
          exact ⟨rfl, down_fin HU.out (HDONE.out HD.out) hr9 (HKw8.out.trans hk9 (fun _ => .inl)) HL.out⟩
        · have hd1 : decide (cmpE e x ≤ 0) = false := decide_eq_false hd
          have HD : Hid (x.lt e) := Ent.not_le.1 (fun h => hd (cmpE_le.2 h))
          clear hd
          go_wp2_with fail
          refine wp_region_tail 8 (by kernel_rfl) (by kernel_rfl) ?_
          simp only [List.take_succ_cons, List.take_zero, List.drop_succ_cons, List.drop_zero]
          repeat still_step
          refine wpStill_nil ?_
          go_wp2_with (first
            | (go_at_call 123; (with_reducible refine (order_any e x _).mono ?_); rintro en w8 ⟨rfl, hb2⟩; have hb3 := below_drewN hb2; obtain ⟨hcw8, hfw8⟩ := bcell hb3; have hsw8 := hb3.size; have HRw8 := hid (HRn.out.below (hb3)); have HKw8 := hid (HKn.out.trans (Keep.of_below (F := HpF g gw (.slice (some ⟨ge, 0, none⟩) n c)) hb3) (fun _ => .inl)); clear hb2 hb3)
            | (go_at_call 125; refine (put_any g gw m ge c n L wh1 k x _ HRw8.out hk hxid).mono ?_; rintro en w9 ⟨rfl, hr9, hk9⟩))
          have hlt8 : w.heap.size < w8.heap.size := Nat.lt_of_lt_of_le hbw hsw8
          have hnf : ¬ HpF g gw (.slice (some ⟨ge, 0, none⟩) n c) w.heap.size := by
            rintro (h1 | h1 | h1)
            · omega
            · omega
            · simp only [Value.ownBlock, Option.some.injEq] at h1; omega
          have C0 := ((hk9.cell (o := 0) hlt8 hnf).trans (hcw8 _ 0 hbw)).trans B0
          have C1 := ((hk9.cell (o := 1) hlt8 hnf).trans (hcw8 _ 1 hbw)).trans B1
          have hlt9 := Nat.lt_of_lt_of_le hlt8 hk9.size
          have HU2 : Hid (DnS A m e (L.set k x) (wh1.set x.id (k : Int)) b) := by
            have := HU.out.step (b := b) (by have := HL.out; omega) HBC.out HMIN.out (by rw [HXB.out]; exact HD.out)
            rwa [HXB.out] at this
          have HK9 := HKw8.out.trans hk9 (fun _ => .inl)
          go_roundw
          case rel => exact ⟨b, _, _, hbn, rfl, hr9, HU2, C0, C1, hlt9, HK9⟩
          case measure => simp [intOf]; have := HBC.out; omega
    · have h1d : decide (n ≤ c1) = true := by simp; omega
      have HD : Hid (∀ j, (j = 2 * k + 1 ∨ j = 2 * k + 2) → j < n → e.le (eg L j)) := by intro j hj hjn; omega
      have HP := hid (put_any g gw m ge c n L wh1 k e wr hr hk hE)
      clear hr hc1 hc2
      go_wp2_with (go_at_call 125; refine HP.out.mono ?_; rintro en w9 ⟨rfl, hr9, hk9⟩)
      go_end0
      exact ⟨rfl, down_fin HU.out HD.out hr9 (HKP.out.trans hk9 (fun _ => .inl)) HL.out⟩
end Go.Proofs.Ytdbiodofofnpgaa
namespace Go.Proofs.Ytdbiodofofnpgaa
open Go.RowKit

set_option maxRecDepth 20000 in
set_option maxHeartbeats 800000 in
theorem settle_any (g gw m ge c n : Nat) (A : List Ent) (wh : List Int) (i : Nat) (w : World) (h : HpR w g gw m (.slice (some ⟨ge, 0, none⟩) n c) n A wh) (hi : i < n) (hs : SInv A i) (hw : WhEx A wh m i) (hn : n ≤ 100000) :
    Calls Try.prog 103 #[.pointer (some ⟨g, 0, none⟩), .int .i64 (i : Int)] w fun en w' => en = .returned (.tuple #[]) ∧ DnPost g gw m ge c n A w w' := by
  have hlen := h.len
  have HUP := hid (up_any g gw m ge c n A wh i w h hi hs hw hn)
  have hE := hw.ids i (by omega)
  obtain ⟨e, he⟩ : ∃ e, eg A i = e := ⟨_, rfl⟩
  obtain ⟨e1, e2, -, -⟩ := h.cell_ent hi
  obtain ⟨f0, -, -⟩ := h.fields
  rw [he] at e1 e2 hE
  have HE := hid he
  have HL := hid hlen
  clear h hs hw he hlen
  go_enter Try.func103, Try.ntmps103
  go_wp2_with fail
  refine HUP.out.mono ?_
  rintro en w2 ⟨rfl, A', wh', i', hr2, hp2, hi2, he2, hs2, ho2, hu2, hw2, hk2⟩
  have hl2 := hr2.len
  have HDN := hid (down_any g gw m ge c n A' wh' i' w2 hr2 hi2 ⟨hs2, ho2⟩ (hw2.ex i') hn)
  obtain ⟨f0', f1', -⟩ := hr2.fields
  obtain ⟨q1, -⟩ := hr2.cell_wh (i := e.id) hE
  have hwg : wg wh' e.id = (i' : Int) := by
    have := hw2.at (j := i') (by omega)
    rwa [he2, HE.out] at this
  rw [hwg] at q1
  have HP := hid hp2
  have HK := hid hk2
  clear hr2 hp2 hs2 ho2 hu2 hw2 he2 hwg hl2 hk2 HUP
  go_wp2_with fail
  refine HDN.out.mono ?_
  rintro en w3 ⟨rfl, A3, wh3, hr3, hp3, hh3, hw3, hk3⟩
  have HPOST : DnPost g gw m ge c n A w w3 := ⟨A3, wh3, hr3, hp3.trans HP.out, hh3, hw3, HK.out.trans hk3 (fun _ => .inl)⟩
  clear HDN hr3 hp3 hh3 hw3 hk3
  go_wp2_with fail
  go_end0
  exact ⟨rfl, HPOST⟩

theorem HpR.setL {w : World} {g gw m : Nat} {v v' : Value} {n n' : Nat} {L L' : List Ent} {wh : List Int} (h : HpR w g gw m v n L wh) (hr : w.ownsRow 0 114 2 v' n' (entCells L')) :
    HpR (w.setCell ⟨g, 0, none⟩ v') g gw m v' n' L' wh :=
  ⟨h.blk.set 0 v', own_kept_set hr ⟨g, 0, none⟩ v' (blk_ne h.blk hr (by decide)), own_kept_set h.whe ⟨g, 0, none⟩ v' (blk_ne h.blk h.whe (by decide))⟩

def CutPost (g gw m ge c n : Nat) (l : List Ent) (w w' : World) : Prop :=
  ∃ A' wh', HpR w' g gw m (.slice (some ⟨ge, 0, none⟩) n c) n A' wh' ∧ HeapIs A' wh' m l ∧ Keep (HpF g gw (.slice (some ⟨ge, 0, none⟩) n c)) w w'

set_option maxRecDepth 20000 in
set_option maxHeartbeats 800000 in
theorem cut_last (g gw m ge c N n : Nat) (A : List Ent) (wh : List Int) (l : List Ent) (w : World) (h : HpR w g gw m (.slice (some ⟨ge, 0, none⟩) N c) N A wh) (hh : HeapIs A wh m l) (hc : N ≤ c) (hN : N = n + 1) (hn : N ≤ 100000) :
    Calls Try.prog 101 #[.pointer (some ⟨g, 0, none⟩), .int .i64 (n : Int)] w fun en w' => en = .returned (.tuple #[]) ∧ CutPost g gw m ge c n (cutE l (eg A n).id) w w' := by
  have hlen := h.len
  have hE := hh.where_.ids n (by omega)
  have HI := hid (hh.cutLast (n := n) (by omega))
  obtain ⟨e, he⟩ : ∃ e, eg A n = e := ⟨_, rfl⟩
  obtain ⟨e1, e2, -, -⟩ := h.cell_ent (i := n) (by omega)
  obtain ⟨f0, f1, f2⟩ := h.fields
  obtain ⟨n1, n2, n3, n4, n5, n6⟩ := h.ne
  obtain ⟨q1, q2⟩ := h.cell_wh (i := e.id) (by rw [← he]; exact hE)
  rw [he] at e1 e2 hE HI
  have h2 := h.setWh e.id (-1)
  have hr3 := own_cut h2.row n (by omega) (by omega)
  rw [← entCells_take] at hr3
  have h3 := (h2.setL hr3).below ((Below.refl _ _).alloc (Nat.le_refl _) (.cells #[.int .i64 e.t, .int .i64 (e.id : Int)] 114))
  have H4 := hid h3
  have HE := hid he
  rw [he]
  have hlt : n < N := by omega
  have hcn : n ≤ c := by omega
  have hNn : (N : Int) - 1 = (n : Int) := by omega
  clear h hh he hlen h2 h3 hr3 hN
  go_enter Try.func101, Try.ntmps101
  go_wp2_with fail
  refine wp_region_tail 13 (by kernel_rfl) (by kernel_rfl) ?_
  simp only [List.take_succ_cons, List.take_zero, List.drop_succ_cons, List.drop_zero]
  repeat still_step
  refine wpStill_nil ?_
  go_wp2_with fail
  go_end0
  refine ⟨rfl, _, _, H4.out.below (drewN_below _ 1), HI.out, ?_⟩
  have k1 : Keep (HpF g gw (.slice (some ⟨ge, 0, none⟩) n c)) w _ := Keep.setCell _ w ⟨gw, e.id, none⟩ (.int .i64 (-1)) (.inr (.inl rfl))
  have k2 := k1.trans (Keep.setCell (HpF g gw (.slice (some ⟨ge, 0, none⟩) n c)) _ ⟨g, 0, none⟩ (.slice (some ⟨ge, 0, none⟩) n c) (.inl rfl)) (fun _ => .inl)
  have k3 := k2.trans (Keep.alloc (HpF g gw (.slice (some ⟨ge, 0, none⟩) n c)) _ (.cells #[.int .i64 e.t, .int .i64 (e.id : Int)] 114)) (fun _ => .inl)
  exact k3.trans (Keep.drewN (HpF g gw (.slice (some ⟨ge, 0, none⟩) n c)) _ 1) (fun _ => .inl)

set_option maxRecDepth 20000 in
set_option maxHeartbeats 800000 in
theorem cut_mid (g gw m ge c N n i : Nat) (A : List Ent) (wh : List Int) (l : List Ent) (w : World) (h : HpR w g gw m (.slice (some ⟨ge, 0, none⟩) N c) N A wh) (hh : HeapIs A wh m l) (hc : N ≤ c) (hN : N = n + 1) (hi : i < n) (hn : N ≤ 100000) :
    Calls Try.prog 101 #[.pointer (some ⟨g, 0, none⟩), .int .i64 (i : Int)] w fun en w' => en = .returned (.tuple #[]) ∧ CutPost g gw m ge c n (cutE l (eg A i).id) w w' := by
  have hlen := h.len
  have hE := hh.where_.ids n (by omega)
  have hX := hh.where_.ids i (by omega)
  obtain ⟨hs1, hw1, hp1⟩ := hh.cutMid (n := n) (by omega) hi
  obtain ⟨e, he⟩ : ∃ e, eg A n = e := ⟨_, rfl⟩
  obtain ⟨x, hx⟩ : ∃ x, eg A i = x := ⟨_, rfl⟩
  obtain ⟨e1, e2, -, -⟩ := h.cell_ent (i := n) (by omega)
  obtain ⟨x1, x2, -, -⟩ := h.cell_ent (i := i) (by omega)
  obtain ⟨f0, f1, f2⟩ := h.fields
  obtain ⟨n1, n2, n3, n4, n5, n6⟩ := h.ne
  obtain ⟨q1, q2⟩ := h.cell_wh (i := x.id) (by rw [← hx]; exact hX)
  rw [he] at e1 e2 hE hs1 hw1 hp1
  rw [hx] at x1 x2 hX hw1 hp1
  have HH := hid hh
  have HS1 := hid hs1
  have HW1 := hid hw1
  have HP1 := hid hp1
  have h2 := h.setWh x.id (-1)
  have hr3 := own_cut h2.row n (by omega) (by omega)
  rw [← entCells_take] at hr3
  have h3 := (h2.setL hr3).below ((Below.refl _ _).alloc (Nat.le_refl _) (.cells #[.int .i64 e.t, .int .i64 (e.id : Int)] 114))
  have H4 := hid (h3.below (drewN_below _ 1))
  have HP := hid (put_any g gw m ge c n (A.take n) (wh.set x.id (-1)) i e _ H4.out hi hE)
  have K4 : Hid (Keep (HpF g gw (.slice (some ⟨ge, 0, none⟩) n c)) w ((((w.setCell ⟨gw, x.id, none⟩ (.int .i64 (-1))).setCell ⟨g, 0, none⟩ (.slice (some ⟨ge, 0, none⟩) n c)).alloc (.cells #[.int .i64 e.t, .int .i64 (e.id : Int)] 114)).drewN 1)) := by
    have k1 : Keep (HpF g gw (.slice (some ⟨ge, 0, none⟩) n c)) w _ := Keep.setCell _ w ⟨gw, x.id, none⟩ (.int .i64 (-1)) (.inr (.inl rfl))
    have k2 := k1.trans (Keep.setCell (HpF g gw (.slice (some ⟨ge, 0, none⟩) n c)) _ ⟨g, 0, none⟩ (.slice (some ⟨ge, 0, none⟩) n c) (.inl rfl)) (fun _ => .inl)
    have k3 := k2.trans (Keep.alloc (HpF g gw (.slice (some ⟨ge, 0, none⟩) n c)) _ (.cells #[.int .i64 e.t, .int .i64 (e.id : Int)] 114)) (fun _ => .inl)
    exact k3.trans (Keep.drewN (HpF g gw (.slice (some ⟨ge, 0, none⟩) n c)) _ 1) (fun _ => .inl)
  have HX := hid hx
  have HL := hid hlen
  rw [hx]
  have hlt : n < N := by omega
  have hiN : i < N := by omega
  have hcn : n ≤ c := by omega
  have hNn : (N : Int) - 1 = (n : Int) := by omega
  have HN := hid hN
  clear h hh he hx hlen h2 h3 hr3 hN hs1 hw1 hp1
  go_enter Try.func101, Try.ntmps101
  go_wp2_with fail
  refine wp_region_tail 13 (by kernel_rfl) (by kernel_rfl) ?_
  simp only [List.take_succ_cons, List.take_zero, List.drop_succ_cons, List.drop_zero]
  repeat still_step
  refine wpStill_nil ?_
  go_wp2_with (go_at_call 125; refine HP.out.mono ?_; rintro en w5 ⟨rfl, hr5, hk5⟩; have HC := hid (settle_any g gw m ge c n _ _ i w5 hr5 hi HS1.out (HW1.out.ex i) (by omega)); have HK5 := hid (K4.out.trans hk5 (fun _ => .inl)); clear hr5 hk5 HP)
  refine HC.out.mono ?_
  rintro en w6 ⟨rfl, A6, wh6, hr6, hp6, hh6, hw6, hk6⟩
  have HR : CutPost g gw m ge c n (cutE l x.id) w w6 := by
    have hcut := HeapIs.cut (A' := A6) (wh' := wh6) HH.out (i := i) (by rw [HX.out]; exact hp6.trans HP1.out) hh6 hw6
    rw [HX.out] at hcut
    exact ⟨A6, wh6, hr6, hcut, HK5.out.trans hk6 (fun _ => .inl)⟩
  clear HC hr6 hp6 hh6 hw6 hk6
  go_wp2_with fail
  go_end0
  exact ⟨rfl, HR⟩

theorem cut_any (g gw m ge c N n i : Nat) (A : List Ent) (wh : List Int) (l : List Ent) (w : World) (h : HpR w g gw m (.slice (some ⟨ge, 0, none⟩) N c) N A wh) (hh : HeapIs A wh m l) (hc : N ≤ c) (hN : N = n + 1) (hi : i < N) (hn : N ≤ 100000) :
    Calls Try.prog 101 #[.pointer (some ⟨g, 0, none⟩), .int .i64 (i : Int)] w fun en w' => en = .returned (.tuple #[]) ∧ CutPost g gw m ge c n (cutE l (eg A i).id) w w' := by
  by_cases e : i = n
  · subst e; exact cut_last g gw m ge c N i A wh l w h hh hc hN hn
  · exact cut_mid g gw m ge c N n i A wh l w h hh hc hN (by omega) hn
end Go.Proofs.Ytdbiodofofnpgaa
