/- Regions that draw their order and whose calls only make new blocks: one walk of the order of the text. No program in sight. Walks: the text of a pattern of plain bytes: glob.Plain, the reference's sign and Plain. -/
import Derived.Test.YtgiffdgicmdmgaaMa
import Derived.BigQuiet
import Derived.Test.YtgiffdgicmdmgaaMh
namespace Go.Proofs.Ytgiffdgicmdmgaa
open Go.RowKit

/-- The worlds that are as w is below block B. -/
def BW (B : Nat) (w : World) : Type := {w' : World // Below B w w'}
instance BW.nonempty {B : Nat} {w : World} : Nonempty (BW B w) := ⟨⟨w, Below.refl B w⟩⟩
theorem BW.below {B : Nat} {w : World} (q : BW B w) : Below B w q.1 := q.2
theorem BW.cellAt {B : Nat} {w : World} {g i : Nat} {v : Value} (hg : g < B) (h : w.cell? ⟨g, i, none⟩ = some v) (q : BW B w) : q.1.cell? ⟨g, i, none⟩ = some v := (World.cell?_of_block (q.2.block g hg)).trans h

theorem wp_region_below {P : Program} {id : Nat} {Q : Exit → Act → World → Prop} {a : Act} {w : World} {l : List Oper} (B : Nat) (hm : P.follows .mixedOrders = true) (hB : Region.lexB .any l.toArray = true)
    (h : wpQuiet P l.toArray (fun w' => ∃ q : BW B w, w' = q.1) (fun a' => ∀ w', (∃ q : BW B w, w' = q.1) → Q .normal a' w') l a) : (Code.region id l.toArray true).wp P Q a w :=
  wp_region_quiet (C := fun w' => ∃ q : BW B w, w' = q.1) hm hB ⟨⟨w.drewN 1, ⟨rfl, rfl, rfl, Nat.le_refl _, fun _ _ => rfl⟩⟩, rfl⟩ (by simpa using h)
/-- A call that only makes new blocks, inside such a region. -/
theorem callBW {P : Program} {f : Nat} {args : Array Value} {v : Value} {B : Nat} {w : World} (hB : B ≤ w.heap.size) (h : ∀ W, Calls P f args W fun e w' => e = .returned v ∧ Below W.heap.size W w') (q : BW B w) :
    Calls P f args q.1 fun e w'' => e = .returned v ∧ ∃ q' : BW B w, w'' = q'.1 :=
  (h q.1).mono fun _ w'' ⟨he, hb⟩ => ⟨he, ⟨⟨w'', q.2.trans (hb.mono (Nat.le_trans hB q.2.size))⟩, rfl⟩⟩
end Go.Proofs.Ytgiffdgicmdmgaa
namespace Go.Proofs.Ytgiffdgicmdmgaa
open Go.RowKit PopT

theorem strOf_append' (a b : List Nat) : strOf (a ++ b) = strOf a ++ strOf b := by
  unfold strOf
  rw [List.map_append]
  apply ByteArray.ext
  simp
/-- The text of some bytes as patterns. -/
def plainM (l : List UInt8) : List Nat := l.flatMap fun c => gsignM c.toNat
theorem plain_succ (l : List UInt8) (k : Nat) (h : k < l.length) : plainM (l.take (k + 1)) = plainM (l.take k) ++ gsignM (l[k]).toNat := by
  unfold plainM
  rw [List.take_succ_eq_append_getElem h, List.flatMap_append]; simp
theorem plain_len (l : List UInt8) : (plainM l).length ≤ 2 * l.length := by
  unfold plainM
  induction l with
  | nil => simp
  | cons x l ih =>
    have := gsignM_le x.toNat
    rw [List.flatMap_cons, List.length_append, List.length_cons]; omega
theorem gsignM_byte (c : Nat) (h : c < 256) : ∀ d ∈ gsignM c, d < 256 := by
  unfold gsignM
  split
  · intro d hd; simp at hd; omega
  · intro d hd; simp at hd; omega
theorem plain_byte (l : List UInt8) : ∀ d ∈ plainM l, d < 256 := by
  intro d hd
  obtain ⟨x, _, hx⟩ := List.mem_flatMap.1 hd
  exact gsignM_byte x.toNat (UInt8.toNat_lt _) d hx

set_option maxRecDepth 20000 in
set_option maxHeartbeats 1000000 in
theorem gplain_any (s : ByteArray) (w : World) (hs : s.size ≤ 100000) :
    Calls Try.prog 44 #[.string s] w fun e w' => e = .returned (.string (strOf (plainM s.data.toList))) ∧ Below w.heap.size w w' := by
  have HLL : Hid (s.data.toList.length = s.size) := by rw [Hid]; simp
  have HBY := hid (plain_byte s.data.toList)
  obtain ⟨L, hL⟩ : ∃ L, s.data.toList = L := ⟨_, rfl⟩
  have hget : ∀ k (h : k < s.size) (h' : k < L.length), (s[k]).toNat = (L[k]).toNat := by
    intro k h h'
    subst hL
    rfl
  rw [hL] at HLL HBY ⊢
  clear hL
  have HGET := hid hget
  clear hget
  have HS0 := hid (Lib.fresh_isBuilder 97 5 w)
  go_enter Try.func44, Try.ntmps44
  go_wp2_with fail
  go_loopw [7] (fun iv wr => ∃ (k : Nat), k ≤ s.size ∧ iv = .int .i64 (k : Int) ∧ Lib.IsBuilder 97 5 w.heap.size w.heap.size (u8Cells (plainM (L.take k))) wr ∧ Below w.heap.size w wr) (fun iv _ => s.size - (intOf iv).toNat)
  case atStart => exact ⟨0, by omega, rfl, HS0.out, (Below.refl _ _).alloc (Nat.le_refl _) _⟩
  case round =>
    obtain ⟨k, hk, rfl, hsb, hb⟩ := hrel
    have HS := hid hsb; have HB := hid hb
    clear hsb hb HS0
    by_cases hlt : k < s.size
    · have hkl : k < L.length := by rw [HLL.out]; exact hlt
      have HSU := hid (plain_succ L k hkl)
      have HDL : Hid ((plainM (L.take k)).length ≤ 200000) := by
        have h1 := plain_len (L.take k)
        rw [List.length_take] at h1
        rw [Hid]; omega
      have hgk := HGET.out k hlt hkl
      obtain ⟨c, hc⟩ : ∃ c, (L[k]'hkl).toNat = c := ⟨_, rfl⟩
      rw [hc] at hgk HSU
      obtain ⟨D, hD⟩ : ∃ D, plainM (L.take k) = D := ⟨_, rfl⟩
      rw [hD] at HS HSU HDL
      clear hc hD hkl
      go_wp2_with fail
      refine (gsign_any w.heap.size w.heap.size D c wr HS.out (by have := HDL.out; omega)).mono ?_
      rintro e w4 ⟨rfl, hs4, hb4⟩
      have HS4 := hid hs4
      have HB4 : Hid (Below w.heap.size w w4) := HB.out.trans hb4
      clear hs4 hb4 HS HB
      go_wp2_with fail
      go_roundw
      case rel => exact ⟨k + 1, by omega, by go_num, by rw [HSU.out]; exact .inr HS4.out, HB4.out⟩
      case measure => simp [intOf]; omega
    · obtain rfl : k = s.size := by omega
      have HS9 : Hid (Lib.IsBuilder 97 5 w.heap.size w.heap.size (Lib.byteCells ((plainM L).map UInt8.ofNat)) wr) := by
        rw [Hid, ← u8Cells_of _ HBY.out]
        have := HS.out
        rwa [List.take_of_length_le (by rw [HLL.out]; exact Nat.le_refl _)] at this
      have hs9 : w.heap.size ≤ wr.heap.size := HB.out.size
      clear HS
      go_wp2_with fail
      refine (bstring_any _ _ _ _ HS9.out hs9).mono ?_
      rintro e w9 ⟨rfl, hb9⟩
      have HB9 := hid (HB.out.trans hb9)
      clear hb9
      go_wp2_with fail
      go_ret
      exact ⟨rfl, HB9.out⟩

theorem one_toList' (u : UInt8) : (⟨#[u]⟩ : ByteArray).toList = [u] := by
  simp [ByteArray.toList, ByteArray.toList.loop, ByteArray.size, ByteArray.get!]

set_option maxRecDepth 20000 in
set_option maxHeartbeats 1000000 in
theorem gsignR_any (c : Nat) (hc : c < 256) (w : World) :
    Calls Try.prog 65 #[.string (strOf [c])] w fun e w' => e = .returned (.string (strOf (gsignM c))) ∧ w = w' := by
  obtain ⟨S, hS⟩ : ∃ S, strOf [c] = S := ⟨_, rfl⟩
  have hl : S.toList = [UInt8.ofNat c] := by rw [← hS]; exact one_toList' _
  have HS : ∀ d : Nat, d < 256 → ((S.toList = [UInt8.ofNat d]) ↔ c = d) := by
    intro d hd
    rw [hl]
    constructor
    · intro h
      injection h with h _
      have := congrArg UInt8.toNat h
      rwa [UInt8.toNat_ofNat_of_lt' hc, UInt8.toNat_ofNat_of_lt' hd] at this
    · rintro rfl; rfl
  have HSQ : Hid (strOf [37, c] = (⟨#[37]⟩ : ByteArray) ++ S) := by rw [Hid, ← hS]; rfl
  have HST := hid hS
  have k42 := HS 42 (by omega)
  have k63 := HS 63 (by omega)
  have k91 := HS 91 (by omega)
  have k93 := HS 93 (by omega)
  have k37 := HS 37 (by omega)
  rw [show UInt8.ofNat 42 = 42 from rfl] at k42
  rw [show UInt8.ofNat 63 = 63 from rfl] at k63
  rw [show UInt8.ofNat 91 = 91 from rfl] at k91
  rw [show UInt8.ofNat 93 = 93 from rfl] at k93
  rw [show UInt8.ofNat 37 = 37 from rfl] at k37
  have hz : S.size = 1 := by rw [← hS]; rfl
  rw [hS]
  clear HS hS hl
  by_cases h0 : c = 42
  · have hr : Hid (gsignM c = [37, c]) := by rw [Hid, gsignM, if_pos (by omega)]
    have z42 : S.toList = [42] := k42.2 h0
    clear k42 k63 k91 k93 k37 h0
    go_enter Try.func65, Try.ntmps65
    go_wp2_with fail
    go_ret
    exact ⟨by rw [hr.out, HSQ.out]; rfl, rfl⟩
  · skip
    by_cases h1 : c = 63
    · have hr : Hid (gsignM c = [37, c]) := by rw [Hid, gsignM, if_pos (by omega)]
      have z42 : ¬ S.toList = [42] := fun hh => h0 (k42.1 hh)
      have y42 : (S.toList == [42]) = false := by rw [beq_eq_false_iff_ne]; exact z42
      have z63 : S.toList = [63] := k63.2 h1
      clear k42 k63 k91 k93 k37 h0 h1
      go_enter Try.func65, Try.ntmps65
      go_wp2_with fail
      go_ret
      exact ⟨by rw [hr.out, HSQ.out]; rfl, rfl⟩
    · skip
      by_cases h2 : c = 91
      · have hr : Hid (gsignM c = [37, c]) := by rw [Hid, gsignM, if_pos (by omega)]
        have z42 : ¬ S.toList = [42] := fun hh => h0 (k42.1 hh)
        have y42 : (S.toList == [42]) = false := by rw [beq_eq_false_iff_ne]; exact z42
        have z63 : ¬ S.toList = [63] := fun hh => h1 (k63.1 hh)
        have y63 : (S.toList == [63]) = false := by rw [beq_eq_false_iff_ne]; exact z63
        have z91 : S.toList = [91] := k91.2 h2
        clear k42 k63 k91 k93 k37 h0 h1 h2
        go_enter Try.func65, Try.ntmps65
        go_wp2_with fail
        go_ret
        exact ⟨by rw [hr.out, HSQ.out]; rfl, rfl⟩
      · skip
        by_cases h3 : c = 93
        · have hr : Hid (gsignM c = [37, c]) := by rw [Hid, gsignM, if_pos (by omega)]
          have z42 : ¬ S.toList = [42] := fun hh => h0 (k42.1 hh)
          have y42 : (S.toList == [42]) = false := by rw [beq_eq_false_iff_ne]; exact z42
          have z63 : ¬ S.toList = [63] := fun hh => h1 (k63.1 hh)
          have y63 : (S.toList == [63]) = false := by rw [beq_eq_false_iff_ne]; exact z63
          have z91 : ¬ S.toList = [91] := fun hh => h2 (k91.1 hh)
          have y91 : (S.toList == [91]) = false := by rw [beq_eq_false_iff_ne]; exact z91
          have z93 : S.toList = [93] := k93.2 h3
          clear k42 k63 k91 k93 k37 h0 h1 h2 h3
          go_enter Try.func65, Try.ntmps65
          go_wp2_with fail
          go_ret
          exact ⟨by rw [hr.out, HSQ.out]; rfl, rfl⟩
        · skip
          by_cases h4 : c = 37
          · have hr : Hid (gsignM c = [37, c]) := by rw [Hid, gsignM, if_pos (by omega)]
            have z42 : ¬ S.toList = [42] := fun hh => h0 (k42.1 hh)
            have y42 : (S.toList == [42]) = false := by rw [beq_eq_false_iff_ne]; exact z42
            have z63 : ¬ S.toList = [63] := fun hh => h1 (k63.1 hh)
            have y63 : (S.toList == [63]) = false := by rw [beq_eq_false_iff_ne]; exact z63
            have z91 : ¬ S.toList = [91] := fun hh => h2 (k91.1 hh)
            have y91 : (S.toList == [91]) = false := by rw [beq_eq_false_iff_ne]; exact z91
            have z93 : ¬ S.toList = [93] := fun hh => h3 (k93.1 hh)
            have y93 : (S.toList == [93]) = false := by rw [beq_eq_false_iff_ne]; exact z93
            have z37 : S.toList = [37] := k37.2 h4
            clear k42 k63 k91 k93 k37 h0 h1 h2 h3 h4
            go_enter Try.func65, Try.ntmps65
            go_wp2_with fail
            go_ret
            exact ⟨by rw [hr.out, HSQ.out]; rfl, rfl⟩
          · skip
            have hr : Hid (gsignM c = [c]) := by rw [Hid, gsignM, if_neg (by omega)]
            have z42 : ¬ S.toList = [42] := fun hh => h0 (k42.1 hh)
            have y42 : (S.toList == [42]) = false := by rw [beq_eq_false_iff_ne]; exact z42
            have z63 : ¬ S.toList = [63] := fun hh => h1 (k63.1 hh)
            have y63 : (S.toList == [63]) = false := by rw [beq_eq_false_iff_ne]; exact z63
            have z91 : ¬ S.toList = [91] := fun hh => h2 (k91.1 hh)
            have y91 : (S.toList == [91]) = false := by rw [beq_eq_false_iff_ne]; exact z91
            have z93 : ¬ S.toList = [93] := fun hh => h3 (k93.1 hh)
            have y93 : (S.toList == [93]) = false := by rw [beq_eq_false_iff_ne]; exact z93
            have z37 : ¬ S.toList = [37] := fun hh => h4 (k37.1 hh)
            have y37 : (S.toList == [37]) = false := by rw [beq_eq_false_iff_ne]; exact z37
            clear k42 k63 k91 k93 k37 h0 h1 h2 h3 h4
            go_enter Try.func65, Try.ntmps65
            go_wp2_with fail
            go_ret
            exact ⟨by rw [hr.out, HST.out]; rfl, rfl⟩

set_option maxRecDepth 20000 in
set_option maxHeartbeats 1000000 in
theorem plainR_any (s : ByteArray) (w : World) (hs : s.size ≤ 100000) :
    Calls Try.prog 45 #[.string s] w fun e w' => e = .returned (.string (strOf (plainM s.data.toList))) ∧ w = w' := by
  have HLL : Hid (s.data.toList.length = s.size) := by rw [Hid]; simp
  obtain ⟨L, hL⟩ : ∃ L, s.data.toList = L := ⟨_, rfl⟩
  have hget : ∀ k (h : k < s.size) (h' : k < L.length), s.extract k (k + 1) = strOf [(L[k]).toNat] := by
    intro k h h'
    subst hL
    apply ByteArray.ext
    rw [ByteArray.data_extract]
    show _ = (List.map UInt8.ofNat [((s.data.toList)[k]).toNat]).toArray
    rw [List.map_cons, List.map_nil, UInt8.ofNat_toNat]
    apply Array.ext'
    rw [Array.toList_extract, List.extract_eq_take_drop, Nat.add_sub_cancel_left, List.drop_eq_getElem_cons h']
    rfl
  rw [hL] at HLL ⊢
  clear hL
  have HGET := hid hget
  clear hget
  go_enter Try.func45, Try.ntmps45
  go_wp2_with fail
  go_loopw [3, 4] (fun sv iv wr => ∃ (k : Nat), k ≤ s.size ∧ iv = .int .i64 (k : Int) ∧ sv = .string (strOf (plainM (L.take k))) ∧ wr = w) (fun _ iv _ => s.size - (intOf iv).toNat)
  case atStart => exact ⟨0, by omega, rfl, rfl, rfl⟩
  case round =>
    obtain ⟨k, hk, rfl, rfl, rfl⟩ := hrel
    obtain ⟨D, hD⟩ : ∃ D, plainM (L.take k) = D := ⟨_, rfl⟩
    by_cases hlt : k < s.size
    · have hkl : k < L.length := by rw [HLL.out]; exact hlt
      have HSU := hid (plain_succ L k hkl)
      have hdl : (strOf D).size ≤ 200000 := by
        have h1 := plain_len (L.take k)
        rw [List.length_take, hD] at h1
        rw [strOf_size']; omega
      have hgk := HGET.out k hlt hkl
      have hc8 := UInt8.toNat_lt (L[k]'hkl)
      obtain ⟨c, hc⟩ : ∃ c, (L[k]'hkl).toNat = c := ⟨_, rfl⟩
      rw [hc] at hgk HSU hc8
      have hgl : (strOf (gsignM c)).size ≤ 2 := by rw [strOf_size']; exact gsignM_le c
      have C1 := hid (fun W => gsignR_any c hc8 W)
      rw [← hgk] at C1
      have HAP : Hid (strOf (plainM (L.take (k + 1))) = strOf D ++ strOf (gsignM c)) := by rw [Hid, HSU.out, strOf_append', hD]
      rw [hD]
      obtain ⟨DS, hDS⟩ : ∃ S, strOf D = S := ⟨_, rfl⟩
      obtain ⟨GS, hGS⟩ : ∃ S, strOf (gsignM c) = S := ⟨_, rfl⟩
      rw [hDS] at hdl HAP ⊢
      rw [hGS] at hgl HAP C1
      clear hc hD hkl HSU hgk hDS hGS
      go_wp2_with fail
      refine (C1.out _).mono ?_
      rintro e w4 ⟨rfl, rfl⟩
      go_wp2_with fail
      go_roundw
      case rel => exact ⟨k + 1, by omega, by go_num, by rw [HAP.out], by trivial⟩
      case measure => simp [intOf]; omega
    · obtain rfl : k = s.size := by omega
      have HD2 : Hid (D = plainM L) := by rw [Hid, ← hD, List.take_of_length_le (by rw [HLL.out]; exact Nat.le_refl _)]
      rw [hD]
      clear hD
      go_wp2_with fail
      go_ret
      exact ⟨by rw [← HD2.out]; rfl, rfl⟩
end Go.Proofs.Ytgiffdgicmdmgaa
