/- Walks: the reference's 'Same' of two like lists, its 'Least'; the tests 'Void', 'Empty' of package lang. -/
import Derived.Test.YtmcacdegikgmnaaWi
import Derived.Test.YtmcacdegikgmnaaPlain
import Derived.Shelf.Abstract
namespace Go.Proofs.Ytmcacdegikgmnaa
open Go.RowKit

set_option maxHeartbeats 400000 in
theorem same_any (A B : Option Addr) (n c d : Nat) (l : List Int) (w : World) (hl : l.length = n) (hn : n ≤ 1000001) (hr : Rd w A (intCells l)) (hr2 : Rd w B (intCells l)) :
    Calls Try.prog 28 #[.slice A n c, .slice B n d] w fun e w' => e = .returned (.bool true) ∧ Below w.heap.size w w' := by
  have HL := hid hl; clear hl
  go_enter Try.func28, Try.ntmps28
  go_wp2
  go_loopw [5] (fun i wr => ∃ (k : Nat), k ≤ n ∧ i = .int .i64 k ∧ Below w.heap.size w wr) (fun i _ => n - (intOf i).toNat)
  case atStart => exact ⟨0, by omega, rfl, Below.refl _ _⟩
  case round =>
    obtain ⟨k, hk, rfl, hb⟩ := hrel
    by_cases hlt : k < n
    · have hkl : k < l.length := by rw [HL.out]; exact hlt
      obtain ⟨b, off, rfl, hbl, hc⟩ := (hr.below hb).at (by rw [intCells_length]; omega)
      obtain ⟨b2, off2, rfl, hbl2, hc2⟩ := (hr2.below hb).at (by rw [intCells_length]; omega)
      have h0 := hc k _ (intCells_get l k hkl)
      have h02 := hc2 k _ (intCells_get l k hkl)
      generalize l[k]'hkl = x at *
      clear hc hc2 hkl hr hr2
      go_wp2
      go_region
      go_wp2
      go_roundw
      case rel => exact ⟨k + 1, by omega, by go_num, hb.drew⟩
      case measure => simp [intOf]; omega
    · go_wp2
      go_ret
      exact ⟨rfl, hb⟩

set_option maxHeartbeats 400000 in
theorem leastR_any (A : Option Addr) (n c : Nat) (l : List Item) (w : World) (hl : l.length = n) (hn : n ≤ 1000000) (hr : Rd w A (itemCells l)) :
    Calls Try.prog 34 #[.slice A n c] w fun e w' => e = .returned (.int .i64 (leastM l : Int)) ∧ Below w.heap.size w w' := by
  have HL := hid hl; clear hl
  go_enter Try.func34, Try.ntmps34
  go_wp2
  go_loopw [3, 4] (fun v i wr => ∃ (k : Nat), k ≤ n ∧ i = .int .i64 k ∧ v = .int .i64 (leastM (l.take k) : Int) ∧ Below w.heap.size w wr) (fun _ i _ => n - (intOf i).toNat)
  case atStart => exact ⟨0, by omega, rfl, rfl, Below.refl _ _⟩
  case round =>
    obtain ⟨k, hk, rfl, rfl, hb⟩ := hrel
    by_cases hlt : k < n
    · obtain ⟨b, off, rfl, hbl, hc⟩ := (hr.below hb).at (by rw [itemCells_length, HL.out]; omega)
      have HK : Hid (k < l.length) := by rw [HL.out]; exact hlt
      obtain ⟨d0, d1, d2, d3, d4⟩ := item_at hc k HK.out
      have hle : leastM (l.take k) ≤ k := by unfold leastM; exact Nat.le_trans (List.length_filter_le _ _) (by simp; omega)
      have HS : Hid (leastM (l.take (k + 1)) = leastM (l.take k) + if (l[k]'HK.out).run then 0 else 1) := by
        rw [Hid, List.take_succ_eq_append_getElem HK.out]
        unfold leastM
        rw [List.filter_append]
        cases h : (l[k]'HK.out).run <;> simp [h]
      have HB := hid hb
      clear hc hr hb
      generalize l[k]'HK.out = x at *
      generalize leastM (l.take k) = q at *
      cases hrun : x.run
      · rw [hrun] at d0 HS
        clear hrun
        go_wp2
        go_roundw
        case rel => exact ⟨k + 1, by omega, by go_num, by rw [HS.out]; go_num, HB.out⟩
        case measure => simp [intOf]; omega
      · rw [hrun] at d0 HS
        clear hrun
        go_wp2
        go_roundw
        case rel => exact ⟨k + 1, by omega, by go_num, by rw [HS.out]; rfl, HB.out⟩
        case measure => simp [intOf]; omega
    · go_wp2
      go_ret
      have hkk : l.take k = l := List.take_of_length_le (by rw [HL.out]; omega)
      rw [hkk]
      exact ⟨rfl, hb⟩

/-! ### Tests handed over as function values -/
theorem voidF_any (x : Item) (w : World) : Calls Try.prog 59 #[x.val] w fun e w' => e = .returned (.bool (!x.run && x.set == BSet.zero)) ∧ Below w.heap.size w w' := by
  have hb : ∀ cs, Below w.heap.size w (w.alloc (.cells cs 42)) := fun cs => (Below.refl _ _).alloc (Nat.le_refl _) _
  have HB := hid hb
  clear hb
  have heq : ∀ W, (Op.equalIn 10000 40 (.agg #[w64 x.set.w0, w64 x.set.w1, w64 x.set.w2, w64 x.set.w3]) (.agg #[.int .u64 0, .int .u64 0, .int .u64 0, .int .u64 0])).run Try.prog W = .ok (x.set == BSet.zero) W := fun W => Try.eqSet x.set BSet.zero W
  unfold Item.val
  generalize (x.set == BSet.zero) = z at *
  obtain ⟨r, x0, x1, x2, x3⟩ := x
  simp only at *
  go_enter Try.func59, Try.ntmps59
  cases r
  · go_wp2
    go_ret
    exact ⟨rfl, HB.out _⟩
  · go_wp2
    go_ret
    exact ⟨rfl, HB.out _⟩

theorem emptyF_any (x : Item) (w : World) : Calls Try.prog 60 #[x.val] w fun e w' => e = .returned (.bool (!x.run)) ∧ Below w.heap.size w w' := by
  have hb : ∀ cs, Below w.heap.size w (w.alloc (.cells cs 42)) := fun cs => (Below.refl _ _).alloc (Nat.le_refl _) _
  have HB := hid hb
  clear hb
  unfold Item.val
  obtain ⟨r, x0, x1, x2, x3⟩ := x
  simp only at *
  go_enter Try.func60, Try.ntmps60
  go_wp2
  go_ret
  exact ⟨rfl, HB.out _⟩

set_option maxHeartbeats 400000 in
theorem indexFunc_any (F : Nat) (T : Item → Bool) (hE : ∀ args W, (callFunc F args).run Try.prog W = .ok (.enter F args) W) (hF : ∀ x W, Calls Try.prog F #[Item.val x] W fun e W' => e = .returned (.bool (T x)) ∧ Below W.heap.size W W')
    (A : Option Addr) (n c : Nat) (l : List Item) (w : World) (hl : l.length = n) (hn : n ≤ 1000000) (hr : Rd w A (itemCells l)) :
    Calls Try.prog 70 #[.slice A n c, .func (.func F) #[] #[]] w fun e w' => ∃ i : Int, e = .returned (.int .i64 i) ∧ Hid ((l.any T = true ∧ 0 ≤ i) ∨ (l.any T = false ∧ i = -1)) ∧ Below w.heap.size w w' := by
  have HL := hid hl; clear hl
  have HF := hid hF; clear hF
  go_enter Try.func70, Try.ntmps70
  go_wp2
  go_loopw [8] (fun i wr => ∃ (k : Nat), k ≤ n ∧ i = .int .i64 k ∧ Hid ((l.take k).any T = false) ∧ Below w.heap.size w wr) (fun i _ => n - (intOf i).toNat)
  case atStart => exact ⟨0, by omega, rfl, rfl, Below.refl _ _⟩
  case round =>
    obtain ⟨k, hk, rfl, HA, hb⟩ := hrel
    by_cases hlt : k < n
    · obtain ⟨b, off, rfl, hbl, hc⟩ := (hr.below hb).at (by rw [itemCells_length, HL.out]; omega)
      have HK : Hid (k < l.length) := by rw [HL.out]; exact hlt
      obtain ⟨d0, d1, d2, d3, d4⟩ := item_at hc k HK.out
      have HS : Hid ((l.take (k + 1)).any T = T (l[k]'HK.out)) := by
        rw [Hid, List.take_succ_eq_append_getElem HK.out, List.any_append, HA.out]; simp
      have HT : Hid (T (l[k]'HK.out) = true → l.any T = true) := fun h => List.any_eq_true.2 ⟨_, List.getElem_mem _, h⟩
      have HB := hid hb
      clear hc hr hb
      generalize l[k]'HK.out = x at *
      have HX : Hid (Item.val x = .agg #[.bool x.run, w64 x.set.w0, w64 x.set.w1, w64 x.set.w2, w64 x.set.w3]) := rfl
      go_wp2_with fail
      refine (HF.out x _).mono ?_
      rintro e w1 ⟨rfl, hb1⟩
      have HB1 := hid (HB.out.trans (hb1.mono HB.out.size))
      clear hb1 d0 d1 d2 d3 d4
      cases ht : T x
      · have HS2 : Hid ((l.take (k + 1)).any T = false) := by rw [Hid, HS.out, ht]
        clear ht
        go_wp2_with fail
        go_roundw
        case rel => exact ⟨k + 1, by omega, by go_num, HS2, HB1.out⟩
        case measure => simp [intOf]; omega
      · have HT2 := hid (HT.out ht)
        clear ht
        go_wp2_with fail
        go_ret
        exact ⟨k, rfl, .inl ⟨HT2.out, by omega⟩, HB1.out⟩
    · have hkk : l.take k = l := List.take_of_length_le (by rw [HL.out]; omega)
      rw [hkk] at HA
      go_wp2
      go_ret
      exact ⟨-1, rfl, .inr ⟨HA.out, rfl⟩, hb⟩

set_option maxHeartbeats 400000 in
theorem containsFunc_any (F : Nat) (T : Item → Bool) (hE : ∀ args W, (callFunc F args).run Try.prog W = .ok (.enter F args) W) (hF : ∀ x W, Calls Try.prog F #[Item.val x] W fun e W' => e = .returned (.bool (T x)) ∧ Below W.heap.size W W')
    (A : Option Addr) (n c : Nat) (l : List Item) (w : World) (hl : l.length = n) (hn : n ≤ 1000000) (hr : Rd w A (itemCells l)) :
    Calls Try.prog 58 #[.slice A n c, .func (.func F) #[] #[]] w fun e w' => e = .returned (.bool (l.any T)) ∧ Below w.heap.size w w' := by
  have HL := hid hl; clear hl
  have HF := hid hF; have HE := hid hE; clear hF hE
  go_enter Try.func58, Try.ntmps58
  go_wp2_with fail
  refine (indexFunc_any F T HE.out HF.out A n c l _ HL.out hn hr).mono ?_
  rintro e w1 ⟨i, rfl, HI, hb1⟩
  rcases HI.out with ⟨h1, h2⟩ | ⟨h1, rfl⟩
  · have H1 := hid h1
    clear h1 HI
    go_wp2
    go_ret
    exact ⟨by rw [H1.out]; rfl, hb1⟩
  · have H1 := hid h1
    clear h1 HI
    go_wp2
    go_ret
    exact ⟨by rw [H1.out]; rfl, hb1⟩

theorem bytes_empty (s : BSet) : (bytesM s).isEmpty = (s == BSet.zero) := by
  rw [Bool.eq_iff_iff, List.isEmpty_iff, beq_iff_eq]
  constructor
  · intro h
    refine BSet.ext_has fun b hb => ?_
    have h0 : BSet.zero.has b = false := by
      unfold BSet.has BSet.zero BSet.word; split <;> simp
    rw [h0]
    cases hh : s.has b with
    | false => rfl
    | true =>
      have hm := (mem_bytesM s (UInt8.ofNat b)).2 (by rwa [UInt8.toNat_ofNat_of_lt' hb])
      rw [h] at hm; cases hm
  · rintro rfl
    refine List.eq_nil_iff_forall_not_mem.2 fun c hc => ?_
    have := (mem_bytesM BSet.zero c).1 hc
    have h0 : BSet.zero.has c.toNat = false := by
      unfold BSet.has BSet.zero BSet.word; split <;> simp
    rw [h0] at this; cases this
theorem voidM_eq (l : List Item) : l.any (fun x => !x.run && x.set == BSet.zero) = voidM l := by
  unfold voidM; congr 1; funext x; rw [bytes_empty]
theorem matchR_nil (l : List Item) : matchR l [] = !(l.any fun x => !x.run) := by
  induction l with
  | nil => rfl
  | cons x l ih =>
    cases hr : x.run with
    | false => simp [matchR, hr]
    | true => simp [matchR, hr, ih]
theorem void_none (l : List Item) (s : List UInt8) (h : matchR l s = true) : voidM l = false := by
  induction l generalizing s with
  | nil => rfl
  | cons x l ih =>
    have e : voidM (x :: l) = ((!x.run && (bytesM x.set).isEmpty) || voidM l) := rfl
    rw [e]
    cases hr : x.run with
    | true =>
      simp only [matchR, hr, if_true, List.any_eq_true] at h
      obtain ⟨i, _, hm⟩ := h
      rw [ih _ hm]; rfl
    | false =>
      cases s with
      | nil => simp [matchR, hr] at h
      | cons c r =>
        simp only [matchR, hr, Bool.false_eq_true, if_false, Bool.and_eq_true] at h
        rw [ih _ h.2]
        have hm := (mem_bytesM x.set c).2 h.1
        cases hb : bytesM x.set with
        | nil => rw [hb] at hm; cases hm
        | cons _ _ => rfl
theorem least_le (l : List Item) (s : List UInt8) (h : matchR l s = true) : leastM l ≤ s.length := by
  induction l generalizing s with
  | nil => simp [leastM]
  | cons x l ih =>
    cases hr : x.run with
    | true =>
      simp only [matchR, hr, if_true, List.any_eq_true] at h
      obtain ⟨i, _, hm⟩ := h
      have := ih _ hm
      simp [leastM, hr] at this ⊢; omega
    | false =>
      cases s with
      | nil => simp [matchR, hr] at h
      | cons c r =>
        simp only [matchR, hr, Bool.false_eq_true, if_false, Bool.and_eq_true] at h
        have := ih _ h.2
        simp [leastM, hr] at this ⊢; omega

set_option maxHeartbeats 400000 in
theorem voidC_any (A : Option Addr) (n c : Nat) (l : List Item) (w : World) (hl : l.length = n) (hn : n ≤ 1000000) (hr : Rd w A (itemCells l)) :
    Calls Try.prog 35 #[.slice A n c] w fun e w' => e = .returned (.bool (voidM l)) ∧ Below w.heap.size w w' := by
  have HL := hid hl; clear hl
  go_enter Try.func35, Try.ntmps35
  go_wp2_with fail
  refine (containsFunc_any 59 _ (enters_of Try.func59 (by kernel_rfl) rfl) voidF_any A n c l _ HL.out hn hr).mono ?_
  rw [voidM_eq]
  rintro e w1 ⟨rfl, hb1⟩
  go_wp2
  go_ret
  exact ⟨rfl, hb1⟩

set_option maxHeartbeats 400000 in
theorem emptyC_any (A : Option Addr) (n c : Nat) (l : List Item) (w : World) (hl : l.length = n) (hn : n ≤ 1000000) (hr : Rd w A (itemCells l)) :
    Calls Try.prog 36 #[.slice A n c] w fun e w' => e = .returned (.bool (matchM l [])) ∧ Below w.heap.size w w' := by
  have HL := hid hl; clear hl
  have HM : Hid (matchM l [] = !(l.any fun x => !x.run)) := by rw [Hid, matchM_eq, matchR_nil]
  go_enter Try.func36, Try.ntmps36
  go_wp2_with fail
  refine (containsFunc_any 60 _ (enters_of Try.func60 (by kernel_rfl) rfl) emptyF_any A n c l _ HL.out hn hr).mono ?_
  rintro e w1 ⟨rfl, hb1⟩
  go_wp2
  go_ret
  exact ⟨by rw [HM.out]; rfl, hb1⟩
end Go.Proofs.Ytmcacdegikgmnaa
