/- Walks: a table's methods that a caller sees. Walks: 'Compile' of package table. Walks: arms.compile. Walks: arms.New. Walks: a byte fed to several patterns. Walks: no patterns; Fed, Len; layer 10's lives; the law ArmsNil. -/
import Derived.Test.YtpkkfdmhbbipoaaGreatMh
import Derived.Test.YtpkkfdmhbbipoaaGreatMb
import Derived.Test.YtpkkfdmhbbipoaaGreatMf
import Derived.Test.YtpkkfdmhbbipoaaGreatMa
namespace Go.Proofs.YtpkkfdmhbbipoaaGreat
open Go.RowKit
/-! ### No table -/
def oneW (k : Nat) : BitVec 64 := bv fun j => decide (j = k)
theorem oneW_toNat (k : Nat) (h : k < 64) : (oneW k).toNat = 2 ^ k := by
 have : oneW k = BitVec.ofNat 64 (2 ^ k) := by
  refine bv_ext fun j hj => ?_
  unfold oneW
  rw [bv_bit _ _ hj, BitVec.getLsbD_ofNat, Nat.testBit_two_pow]
  simp [hj]; omega
 rw [this, BitVec.toNat_ofNat]
 exact Nat.mod_eq_of_lt (Nat.pow_lt_pow_right (by omega) h)
theorem w_one (k : Nat) (h : k < 64) : IntKind.u64.wrap (2 ^ k) = ((oneW k).toNat : Int) := by
 have h1 : 2 ^ k < 2 ^ 64 := Nat.pow_lt_pow_right (by omega) h
 rw [oneW_toNat k h, IntKind.wrap_u64, show ((2 : Int) ^ k) = ((2 ^ k : Nat) : Int) from by rw [Int.natCast_pow]; rfl]
 generalize 2 ^ k = q at *
 omega
def partW (f : Nat → Bool) (k : Nat) : BitVec 64 := bv fun j => decide (j < k) && f j
theorem part_set (f : Nat → Bool) (k : Nat) (hf : f k = true) : partW f (k + 1) = partW f k ||| oneW k := by
 refine bv_ext fun j hj => ?_
 unfold partW oneW
 rw [BitVec.getLsbD_or, bv_bit _ _ hj, bv_bit _ _ hj, bv_bit _ _ hj]
 by_cases h : j = k
 ·subst h; simp [hf]
 ·simp [h, show j < k + 1 ↔ j < k by omega]
theorem part_keep (f : Nat → Bool) (k : Nat) (hf : f k = false) : partW f (k + 1) = partW f k := by
 refine bv_ext fun j hj => ?_
 unfold partW
 rw [bv_bit _ _ hj, bv_bit _ _ hj]
 by_cases h : j = k
 ·subst h; simp [hf]
 ·simp [show j < k + 1 ↔ j < k by omega]
theorem part_zero (f : Nat → Bool) : partW f 0 = 0 := by
 refine bv_ext fun j hj => ?_
 unfold partW
 rw [bv_bit _ _ hj]; simp
theorem part_all (f : Nat → Bool) (n : Nat) (h : ∀ j, n ≤ j → f j = false) : partW f n = bv f := by
 refine bv_ext fun j hj => ?_
 unfold partW
 rw [bv_bit _ _ hj, bv_bit _ _ hj]
 by_cases hn : j < n
 ·simp [hn]
 ·simp [h j (by omega)]
def TbP (w : World) (g n : Nat) (r : BitVec 64) (h : Nat → BitVec 64) : Prop :=
 ∃ cs, Blk w g 257 cs ∧ cs[0]? = some (.int .i64 (n : Int)) ∧ cs[1]? = some (w64 r) ∧ ∀ b, b < 256 → cs[2 + b]? = some (w64 (h b))
theorem TbP.setR {w : World} {g n : Nat} {r : BitVec 64} {h : Nat → BitVec 64} (t : TbP w g n r h) (r' : BitVec 64) : TbP (w.setCell ⟨g, 1, none⟩ (w64 r')) g n r' h := by
 obtain ⟨cs, hb, h0, h1, h2⟩ := t
 refine ⟨_, hb.set 1 (w64 r'), ?_, ?_, fun b hb => ?_⟩
 ·rw [Array.getElem?_setIfInBounds_ne (by omega)]; exact h0
 ·have := (Array.getElem?_eq_some_iff.1 h1).1
  rw [Array.getElem?_setIfInBounds_self_of_lt this]
 ·rw [Array.getElem?_setIfInBounds_ne (by omega)]; exact h2 b hb
theorem TbP.setH {w : World} {g n : Nat} {r : BitVec 64} {h : Nat → BitVec 64} (t : TbP w g n r h) (b : Nat) (hb : b < 256) (x : BitVec 64) : TbP (w.setCell ⟨g, 2 + b, none⟩ (w64 x)) g n r (fun j => if j = b then x else h j) := by
 obtain ⟨cs, hbk, h0, h1, h2⟩ := t
 refine ⟨_, hbk.set (2 + b) (w64 x), ?_, ?_, fun j hj => ?_⟩
 ·rw [Array.getElem?_setIfInBounds_ne (by omega)]; exact h0
 ·rw [Array.getElem?_setIfInBounds_ne (by omega)]; exact h1
 ·by_cases e : j = b
  ·subst e
   have := (Array.getElem?_eq_some_iff.1 (h2 j hj)).1
   rw [Array.getElem?_setIfInBounds_self_of_lt this]; simp
  ·rw [Array.getElem?_setIfInBounds_ne (by omega)]; simp only [e, if_false]; exact h2 j hj
theorem TbP.below {B : Nat} {w w' : World} {g n : Nat} {r : BitVec 64} {h : Nat → BitVec 64} (t : TbP w g n r h) (hb : Below B w w') (hg : g < B) : TbP w' g n r h := by
 obtain ⟨cs, hbk, h0, h1, h2⟩ := t
 exact ⟨cs, hbk.below hb hg, h0, h1, h2⟩
theorem Tryz.zeroTab : ((List.range 257).all fun b => match Tryz.zeroCells257[1 + b]? with | some (.int .u64 0) => true | _ => false) = true := by kernel_rfl
theorem zero_at (b : Nat) (h : b < 257) : Tryz.zeroCells257[1 + b]? = some (.int .u64 0) := by
 have := List.all_eq_true.1 Tryz.zeroTab b (List.mem_range.2 h)
 revert this
 generalize Tryz.zeroCells257[1 + b]? = o
 intro this
 split at this
 ·rfl
 ·cases this
theorem zero_table (w : World) (n : Nat) : TbP (w.alloc (.cells (Tryz.zeroCells257.setIfInBounds 0 (.int .i64 (n : Int))) 257)) w.heap.size n 0 (fun _ => 0) := by
 refine ⟨_, Blk.new w _ _, ?_, ?_, fun b hb => ?_⟩
 ·rw [Array.getElem?_setIfInBounds_self_of_lt (by rw [Tryz.zeroCells257_size]; omega)]
 ·rw [Array.getElem?_setIfInBounds_ne (by omega)]; exact zero_at 0 (by omega)
 ·rw [Array.getElem?_setIfInBounds_ne (by omega)]
  have := zero_at (b + 1) (by omega)
  rwa [show 1 + (b + 1) = 2 + b from by omega] at this
set_option maxRecDepth 100000 in
set_option maxHeartbeats 2000000 in
theorem compileB_any (A : Option Addr) (n c : Nat) (l : List Item) (w : World) (hl : l.length = n) (hn : n ≤ 1000000) (hr : Rd w A (itemCells l)) :
  Calls Tryz.prog 209 #[.slice A n c] w fun e w' => (goodM l = false ∧ e = .returned (.tuple #[.pointer none, .int .i64 2]) ∨ goodM l = true ∧ matchM l [] = true ∧ e = .returned (.tuple #[.pointer none, .int .i64 9]) ∨
   goodM l = true ∧ matchM l [] = false ∧ ∃ g, e = .returned (.tuple #[.pointer (some ⟨g, 0, none⟩), .int .i64 0]) ∧ Tb w' g l ∧ w.heap.size ≤ g ∧ ∃ cs, Blk w' g 257 cs) ∧ Below w.heap.size w w' := by
 have HL := hid hl; clear hl
 go_enter Tryz.func209, Tryz.ntmps209
 go_wp2_with fail
 refine (goodC_any A n c l _ HL.out hn hr).mono ?_
 rintro e w1 ⟨rfl, hb1⟩
 cases hg : goodM l
 ·have HG := hid hg
  clear hg
  go_wp2
  go_ret2
  exact ⟨.inl ⟨HG.out, rfl⟩, hb1⟩
 have HG := hid hg
 clear hg
 go_wp2_with fail
 refine (emptyC_any A n c l _ HL.out hn (hr.below hb1)).mono ?_
 rintro e w2 ⟨rfl, hb2⟩
 have hb3 := hb1.trans (hb2.mono hb1.size)
 clear hb1 hb2
 by_cases hm : matchM l [] = true
 ·have HM := hid hm
  rw [hm]
  clear hm
  go_wp2
  go_ret2
  exact ⟨.inr (.inl ⟨HG.out, HM.out, rfl⟩), hb3⟩
 have hm : matchM l [] = false := by simpa using hm
 rw [hm]
 have HM := hid hm
 clear hm
 have HB3 := hid hb3
 have HR3 := hid (hr.below hb3)
 have HR0 := hid hr
 clear hr hb3
 have HN := hid (good_has l HG.out).2
 rw [HL.out] at HN
 have HT0 : Hid (TbP (w2.alloc (.cells (Tryz.zeroCells257.setIfInBounds 0 (.int .i64 (n : Int))) 257)) w2.heap.size n (partW (runB l) 0) (fun b => partW (hasB l b) 0)) := by
  simp only [part_zero]
  exact zero_table w2 n
 have HB4 : Hid (Below w.heap.size w (w2.alloc (.cells (Tryz.zeroCells257.setIfInBounds 0 (.int .i64 (n : Int))) 257))) := HB3.out.alloc HB3.out.size _
 have HS4 : Hid (w2.heap.size + 1 ≤ (w2.alloc (.cells (Tryz.zeroCells257.setIfInBounds 0 (.int .i64 (n : Int))) 257)).heap.size) := by simp [Hid]
 have HS3 := hid HB3.out.size
 clear HR3
 go_wp2_with fail
 go_loopw [22] (fun i wr => ∃ (k : Nat), k ≤ n ∧ i = .int .i64 k ∧ TbP wr w2.heap.size n (partW (runB l) k) (fun b => partW (hasB l b) k) ∧ Below w.heap.size w wr ∧ w2.heap.size + 1 ≤ wr.heap.size) (fun i _ => n - (intOf i).toNat)
 case atStart => exact ⟨0, by omega, rfl, HT0.out, HB4.out, HS4.out⟩
 case round =>
  obtain ⟨k, hk, rfl, htb, hb, hsz⟩ := hrel
  obtain ⟨wo, rfl⟩ : ∃ wo : World, wo = wr := ⟨wr, rfl⟩
  by_cases hlt : k < n
  ·obtain ⟨b, off, rfl, hbl, hc⟩ := (HR0.out.below hb).at (by rw [itemCells_length, HL.out]; omega)
   have HK : Hid (k < l.length) := by rw [HL.out]; exact hlt
   obtain ⟨d0, d1, d2, d3, d4⟩ := item_at hc k HK.out
   have HRA := hid (runB_at l k HK.out)
   have HHA : Hid (∀ b, hasB l b k = (l[k]'HK.out).set.has b) := fun b => hasB_at l b k HK.out
   generalize l[k]'HK.out = x at *
   have hk64 : k < 64 := by have := HN.out; omega
   have kb := w_one k hk64
   have hgl : w2.heap.size < wo.heap.size := by omega
   have hgne : ¬ w2.heap.size = wo.heap.size := by omega
   have HTB := hid htb
   obtain ⟨cs, hbk, c0, c1, c2⟩ := htb
   have q1 : wo.cell? ⟨w2.heap.size, 1, none⟩ = some (w64 (partW (runB l) k)) := (hbk.cell 1).trans c1
   have qf := hbk.frozen 1
   have HB := hid hb
   have hs3 := HS3.out
   clear hc hb hbk c0 c1 c2 HT0 HB4 HS4
   cases hrun : x.run
   ·rw [hrun] at d0 HRA
    have HP := hid (part_keep (runB l) k HRA.out)
    clear hrun
    obtain ⟨W0, hW0⟩ : ∃ W0, W0 = wo.alloc (.cells #[.bool false, w64 x.set.w0, w64 x.set.w1, w64 x.set.w2, w64 x.set.w3] 251) := ⟨_, rfl⟩
    have HTA : Hid (TbP W0 w2.heap.size n (partW (runB l) (k + 1)) (fun b => partW (hasB l b) k)) := by
     rw [hW0, HP.out]
     exact HTB.out.below ((Below.refl wo.heap.size wo).alloc (Nat.le_refl _) _) hgl
    have HBA : Hid (Below w.heap.size w W0) := by rw [hW0]; exact HB.out.alloc HB.out.size _
    have HBK : Hid (Blk W0 wo.heap.size 251 #[.bool false, w64 x.set.w0, w64 x.set.w1, w64 x.set.w2, w64 x.set.w3]) := by rw [hW0]; exact Blk.new _ _ _
    have HSA : Hid (wo.heap.size + 1 ≤ W0.heap.size) := by rw [hW0]; simp [Hid]
    have HWE : Hid (W0 = wo.alloc (.cells #[.bool false, w64 x.set.w0, w64 x.set.w1, w64 x.set.w2, w64 x.set.w3] 251)) := hW0
    clear hW0
    go_wp2_with fail
    rw [← HWE.out]
    clear HWE HTB d0 d1 d2 d3 d4 q1 qf kb HP
    go_loopw [40] (fun i wx => ∃ (t : Nat), t ≤ 256 ∧ i = .int .i64 t ∧ TbP wx w2.heap.size n (partW (runB l) (k + 1)) (fun b => if b < t then partW (hasB l b) (k + 1) else partW (hasB l b) k) ∧
      Blk wx wo.heap.size 251 #[.bool false, w64 x.set.w0, w64 x.set.w1, w64 x.set.w2, w64 x.set.w3] ∧ Below w.heap.size w wx ∧ wo.heap.size + 1 ≤ wx.heap.size) (fun i _ => 256 - (intOf i).toNat)
    case atStart => exact ⟨0, by omega, rfl, by simpa using HTA.out, HBK.out, HBA.out, HSA.out⟩
    case round =>
     obtain ⟨t, ht, rfl, htx, hbx, hbw, hsx⟩ := hrel
     by_cases hlt2 : t < 256
     ·have e1 := hbx.cell 1
      have e2 := hbx.cell 2
      have e3 := hbx.cell 3
      have e4 := hbx.cell 4
      have k1 : IntKind.u8.wrap (t : Int) = (t : Int) := by rw [IntKind.wrap_u8]; omega
      have HTX := hid htx; have HBX := hid hbx; have HBW := hid hbw
      clear htx hbx hbw
      have HPB : Hid (x.set.has t = hasB l t k) := (HHA.out t).symm
      have hgx : w2.heap.size < wr.heap.size := by omega
      go_wp2_with fail
      refine (hasC_any x.set t hlt2 _).mono ?_
      rw [HPB.out]
      rintro e w5 ⟨rfl, hb5⟩
      have HTY := hid (HTX.out.below hb5 hgx)
      have HBY := hid (HBX.out.below hb5 (by omega))
      have HBV := hid (HBW.out.trans (hb5.mono HBW.out.size))
      have hs5 := hb5.size
      have hgy : w2.heap.size < w5.heap.size := by omega
      clear hb5 e1 e2 e3 e4 k1 HTX HBX HBW
      cases hh : hasB l t k
      ·have HPK : Hid ((fun b => if b < t + 1 then partW (hasB l b) (k + 1) else partW (hasB l b) k) = (fun b => if b < t then partW (hasB l b) (k + 1) else partW (hasB l b) k)) := by
        refine funext fun b => ?_
        by_cases h1 : b = t
        ·subst h1; simp [part_keep (hasB l b) k hh]
        ·simp [show b < t + 1 ↔ b < t by omega]
       clear hh
       go_wp2_with fail
       go_roundw
       case rel => exact ⟨t + 1, by omega, by go_num, by rw [HPK.out]; exact HTY.out, HBY.out, HBV.out, by omega⟩
       case measure => simp [intOf]; omega
      ·have HPS := hid (part_set (hasB l t) k hh)
       have HPK : Hid ((fun j => if j = t then partW (hasB l t) (k + 1) else (fun b => if b < t then partW (hasB l b) (k + 1) else partW (hasB l b) k) j) = (fun b => if b < t + 1 then partW (hasB l b) (k + 1) else partW (hasB l b) k)) := by
        refine funext fun b => ?_
        by_cases h1 : b = t
        ·subst h1; simp
        ·simp [h1, show b < t + 1 ↔ b < t by omega]
       have ko2 := w_or (partW (hasB l t) k) (oneW k)
       rw [← HPS.out] at ko2
       obtain ⟨cs, hbk, c0, c1, c2⟩ := HTY.out
       have q2 : w5.cell? ⟨w2.heap.size, 2 + t, none⟩ = some (w64 (partW (hasB l t) k)) := by
        rw [hbk.cell (2 + t), c2 t hlt2]; simp
       have qg := hbk.frozen (2 + t)
       have k2 : (0 : Int) ≤ (t : Int) := by omega
       have k3 : (t : Int) < 256 := by omega
       have HTZ := hid (HTY.out.setH t hlt2 (partW (hasB l t) (k + 1)))
       rw [HPK.out] at HTZ
       clear hh hbk c0 c1 c2 HPS HPK
       go_wp2_with fail
       go_region
       clear q2 qg ko2
       go_wp2_with fail
       go_roundw
       case rel => exact ⟨t + 1, by omega, by go_num, HTZ.out, (HBY.out.set_far (by omega)), (HBV.out.setCell (by omega) _).drew, by simp; omega⟩
       case measure => simp [intOf]; omega
     ·have htt : t = 256 := by omega
      subst htt
      have HTE : Hid (TbP wr w2.heap.size n (partW (runB l) (k + 1)) (fun b => partW (hasB l b) (k + 1))) := by
       obtain ⟨cs, hbk, c0, c1, c2⟩ := htx
       exact ⟨cs, hbk, c0, c1, fun b hb => by rw [c2 b hb]; simp [hb]⟩
      have HBW := hid hbw
      clear htx hbx hbw
      go_wp2_with fail
      go_roundw
      case rel => exact ⟨k + 1, by omega, by go_num, HTE.out, HBW.out, by omega⟩
      case measure => simp [intOf]; omega
   ·rw [hrun] at d0 HRA
    have HP := hid (part_set (runB l) k HRA.out)
    have ko := w_or (partW (runB l) k) (oneW k)
    rw [← HP.out] at ko
    clear hrun
    obtain ⟨W0, hW0⟩ : ∃ W0, W0 = (wo.setCell ⟨w2.heap.size, 1, none⟩ (w64 (partW (runB l) (k + 1)))).alloc (.cells #[.bool true, w64 x.set.w0, w64 x.set.w1, w64 x.set.w2, w64 x.set.w3] 251) := ⟨_, rfl⟩
    have HTA : Hid (TbP W0 w2.heap.size n (partW (runB l) (k + 1)) (fun b => partW (hasB l b) k)) := by
     rw [hW0]
     exact (HTB.out.setR _).below ((Below.refl _ _).alloc (Nat.le_refl _) _) (by simpa using hgl)
    have HBA : Hid (Below w.heap.size w W0) := by rw [hW0]; exact (HB.out.setCell (by simp; omega) _).alloc (by simpa using HB.out.size) _
    have HBK : Hid (Blk W0 wo.heap.size 251 #[.bool true, w64 x.set.w0, w64 x.set.w1, w64 x.set.w2, w64 x.set.w3]) := by
     rw [hW0]
     have := Blk.new (wo.setCell ⟨w2.heap.size, 1, none⟩ (w64 (partW (runB l) (k + 1)))) 251 #[.bool true, w64 x.set.w0, w64 x.set.w1, w64 x.set.w2, w64 x.set.w3]
     simpa [Hid] using this
    have HSA : Hid (wo.heap.size + 1 ≤ W0.heap.size) := by rw [hW0]; simp [Hid]
    have HWE : Hid (W0 = (wo.setCell ⟨w2.heap.size, 1, none⟩ (w64 (partW (runB l) (k + 1)))).alloc (.cells #[.bool true, w64 x.set.w0, w64 x.set.w1, w64 x.set.w2, w64 x.set.w3] 251)) := hW0
    clear hW0
    go_wp2_with fail
    rw [← HWE.out]
    clear HWE HTB d0 d1 d2 d3 d4 q1 qf kb HP
    go_loopw [40] (fun i wx => ∃ (t : Nat), t ≤ 256 ∧ i = .int .i64 t ∧ TbP wx w2.heap.size n (partW (runB l) (k + 1)) (fun b => if b < t then partW (hasB l b) (k + 1) else partW (hasB l b) k) ∧
      Blk wx wo.heap.size 251 #[.bool true, w64 x.set.w0, w64 x.set.w1, w64 x.set.w2, w64 x.set.w3] ∧ Below w.heap.size w wx ∧ wo.heap.size + 1 ≤ wx.heap.size) (fun i _ => 256 - (intOf i).toNat)
    case atStart => exact ⟨0, by omega, rfl, by simpa using HTA.out, HBK.out, HBA.out, HSA.out⟩
    case round =>
     obtain ⟨t, ht, rfl, htx, hbx, hbw, hsx⟩ := hrel
     by_cases hlt2 : t < 256
     ·have e1 := hbx.cell 1
      have e2 := hbx.cell 2
      have e3 := hbx.cell 3
      have e4 := hbx.cell 4
      have k1 : IntKind.u8.wrap (t : Int) = (t : Int) := by rw [IntKind.wrap_u8]; omega
      have HTX := hid htx; have HBX := hid hbx; have HBW := hid hbw
      clear htx hbx hbw
      have HPB : Hid (x.set.has t = hasB l t k) := (HHA.out t).symm
      have hgx : w2.heap.size < wr.heap.size := by omega
      go_wp2_with fail
      refine (hasC_any x.set t hlt2 _).mono ?_
      rw [HPB.out]
      rintro e w5 ⟨rfl, hb5⟩
      have HTY := hid (HTX.out.below hb5 hgx)
      have HBY := hid (HBX.out.below hb5 (by omega))
      have HBV := hid (HBW.out.trans (hb5.mono HBW.out.size))
      have hs5 := hb5.size
      have hgy : w2.heap.size < w5.heap.size := by omega
      clear hb5 e1 e2 e3 e4 k1 HTX HBX HBW
      cases hh : hasB l t k
      ·have HPK : Hid ((fun b => if b < t + 1 then partW (hasB l b) (k + 1) else partW (hasB l b) k) = (fun b => if b < t then partW (hasB l b) (k + 1) else partW (hasB l b) k)) := by
        refine funext fun b => ?_
        by_cases h1 : b = t
        ·subst h1; simp [part_keep (hasB l b) k hh]
        ·simp [show b < t + 1 ↔ b < t by omega]
       clear hh
       go_wp2_with fail
       go_roundw
       case rel => exact ⟨t + 1, by omega, by go_num, by rw [HPK.out]; exact HTY.out, HBY.out, HBV.out, by omega⟩
       case measure => simp [intOf]; omega
      ·have HPS := hid (part_set (hasB l t) k hh)
       have HPK : Hid ((fun j => if j = t then partW (hasB l t) (k + 1) else (fun b => if b < t then partW (hasB l b) (k + 1) else partW (hasB l b) k) j) = (fun b => if b < t + 1 then partW (hasB l b) (k + 1) else partW (hasB l b) k)) := by
        refine funext fun b => ?_
        by_cases h1 : b = t
        ·subst h1; simp
        ·simp [h1, show b < t + 1 ↔ b < t by omega]
       have ko2 := w_or (partW (hasB l t) k) (oneW k)
       rw [← HPS.out] at ko2
       obtain ⟨cs, hbk, c0, c1, c2⟩ := HTY.out
       have q2 : w5.cell? ⟨w2.heap.size, 2 + t, none⟩ = some (w64 (partW (hasB l t) k)) := by
        rw [hbk.cell (2 + t), c2 t hlt2]; simp
       have qg := hbk.frozen (2 + t)
       have k2 : (0 : Int) ≤ (t : Int) := by omega
       have k3 : (t : Int) < 256 := by omega
       have HTZ := hid (HTY.out.setH t hlt2 (partW (hasB l t) (k + 1)))
       rw [HPK.out] at HTZ
       clear hh hbk c0 c1 c2 HPS HPK
       go_wp2_with fail
       go_region
       clear q2 qg ko2
       go_wp2_with fail
       go_roundw
       case rel => exact ⟨t + 1, by omega, by go_num, HTZ.out, (HBY.out.set_far (by omega)), (HBV.out.setCell (by omega) _).drew, by simp; omega⟩
       case measure => simp [intOf]; omega
     ·have htt : t = 256 := by omega
      subst htt
      have HTE : Hid (TbP wr w2.heap.size n (partW (runB l) (k + 1)) (fun b => partW (hasB l b) (k + 1))) := by
       obtain ⟨cs, hbk, c0, c1, c2⟩ := htx
       exact ⟨cs, hbk, c0, c1, fun b hb => by rw [c2 b hb]; simp [hb]⟩
      have HBW := hid hbw
      clear htx hbx hbw
      go_wp2_with fail
      go_roundw
      case rel => exact ⟨k + 1, by omega, by go_num, HTE.out, HBW.out, by omega⟩
      case measure => simp [intOf]; omega
  ·have hkn : k = n := by omega
   obtain ⟨cs, hbk, c0, c1, c2⟩ := htb
   have HTF : Hid (Tb wo w2.heap.size l) := by
    refine ⟨by omega, by rw [HL.out]; exact (hbk.cell 0).trans c0, ?_, fun b hb => ?_⟩
    ·refine (hbk.cell 1).trans ?_
     rw [c1, hkn, part_all (runB l) n (fun j hj => runB_out l j (by rw [HL.out]; exact hj))]; rfl
    ·refine (hbk.cell (2 + b)).trans ?_
     rw [c2 b hb]
     simp only [hkn]
     rw [part_all (hasB l b) n (fun j hj => hasB_out l b j (by rw [HL.out]; exact hj))]; rfl
   have HBK9 := hid hbk
   clear hbk c0 c1 c2
   have HB := hid hb
   clear hb HT0 HB4 HS4
   go_wp2_with fail
   go_ret2
   exact ⟨.inr (.inr ⟨HG.out, HM.out, _, rfl, HTF.out, HS3.out, _, HBK9.out⟩), HB.out⟩
open PopT
theorem parseM_good' (p : ByteArray) : goodM (parseM p).1 = true := by
 obtain ⟨h1, h2⟩ := parseP_good p 61 [] 0 (by simp) (by omega) (by simp)
 unfold goodM
 rw [Bool.and_eq_true, List.all_eq_true, decide_eq_true_iff]
 refine ⟨fun x hx => ?_, by have : (parseM p).1.length ≤ 60 := h1; omega⟩
 have := h2 x hx
 cases hr : x.run
 ·rfl
 ·rw [this hr]; rfl
theorem parseM_len' (p : ByteArray) : (parseM p).1.length ≤ 60 := (parseP_good p 61 [] 0 (by simp) (by omega) (by simp)).1
def TbT (w : World) (g : Nat) (l : List Item) : Prop := Tb w g l ∧ ∃ cs, Blk w g 257 cs
def ArmR (R : List Item × Nat × Nat) (w : World) (e : Ending) (w' : World) : Prop :=
 Below w.heap.size w w' ∧ ((R.2.2 ≠ 0 ∧ e = .returned (.tuple #[.pointer none, .int .i64 (R.2.1 : Nat), .int .i64 (R.2.2 : Nat)])) ∨
  (R.2.2 = 0 ∧ matchM R.1 [] = true ∧ e = .returned (.tuple #[.pointer none, .int .i64 0, .int .i64 9])) ∨
  (R.2.2 = 0 ∧ matchM R.1 [] = false ∧ ∃ g, e = .returned (.tuple #[.pointer (some ⟨g, 0, none⟩), .int .i64 0, .int .i64 0]) ∧ TbT w' g R.1 ∧ w.heap.size ≤ g))
set_option maxRecDepth 20000 in
set_option maxHeartbeats 1600000 in
theorem armc_any (p : ByteArray) (hp : p.size ≤ 1000000) (w : World) :
  Calls Tryz.prog 192 #[.string p] w fun e w' => ArmR (parseM p) w e w' := by
 have C1 := hid (parse_any p hp w)
 have HG := hid (parseM_good' p)
 have HLN := hid (parseM_len' p)
 obtain ⟨⟨l, a, e⟩, hR⟩ : ∃ R, parseM p = R := ⟨_, rfl⟩
 rw [hR] at C1 HG HLN ⊢
 simp only at HG HLN
 obtain ⟨n, hn⟩ : ∃ n, l.length = n := ⟨_, rfl⟩
 have HN := hid hn
 obtain ⟨Q, hQ⟩ : ∃ Q, ArmR (l, a, e) w = Q := ⟨_, rfl⟩
 rw [show (fun e' w' => ArmR (l, a, e) w e' w') = Q from hQ]
 have HQ := hid hQ
 clear hR hQ
 go_enter Tryz.func192, Tryz.ntmps192
 go_wp2_with fail
 refine C1.out.mono ?_
 rintro en w1 ⟨A1, c1, rfl, hown1, hb1⟩
 simp only at hown1
 have HR1 := hid (Rd_of_own hown1)
 have HB1 := hid hb1
 clear hown1 hb1 C1
 simp only [hn]
 rw [hn] at HLN
 clear hn
 by_cases he : e = 0
 ·subst he
  have hln : n ≤ 60 := HLN.out
  have C2 := hid (compileB_any A1 n c1 l w1 HN.out (by omega) HR1.out)
  go_wp2_with fail
  refine C2.out.mono ?_
  rintro en w2 ⟨hres, hb2⟩
  have HB2 := hid (HB1.out.trans (hb2.mono HB1.out.size))
  have hsz := HB1.out.size
  rcases hres with ⟨hg, -⟩ | ⟨-, hm, rfl⟩ | ⟨-, hm, g, rfl, ht, hgl, hcs⟩
  ·exact absurd (HG.out.symm.trans hg) (by decide)
  ·have HM := hid hm
   clear hm hb2 C2
   go_wp2_with fail
   go_ret3
   rw [← HQ.out]
   exact ⟨HB2.out, .inr (.inl ⟨rfl, HM.out, rfl⟩)⟩
  ·have HM := hid hm; have HT := hid ht; have HCS := hid hcs
   clear hm ht hcs hb2 C2
   go_wp2_with fail
   go_ret3
   rw [← HQ.out]
   exact ⟨HB2.out, .inr (.inr ⟨rfl, HM.out, g, rfl, ⟨HT.out, HCS.out⟩, by omega⟩)⟩
 ·have he0 : ((e : Int) == 0) = false := by rw [beq_eq_false_iff_ne]; omega
  go_wp2_with fail
  go_ret3
  rw [← HQ.out]
  exact ⟨HB1.out, .inl ⟨he, rfl⟩⟩
structure ArmS where
 g : Nat
 l : List Item
 x : BitVec 64
def ArmS.cells (a : ArmS) : List Value := [.pointer (some ⟨a.g, 0, none⟩), w64 a.x]
def armCells (ar : List ArmS) : List Value := ar.flatMap ArmS.cells
def ArmsAt (base : Nat) (w : World) (b : Nat) (ar : List ArmS) (fed : Int) : Prop :=
 base ≤ b ∧ (∃ A c, Blk w b 216 #[.slice A ar.length c, .int .i64 fed] ∧ w.ownsRow base 222 2 (.slice A ar.length c) ar.length (armCells ar)) ∧ ∀ a ∈ ar, TbT w a.g a.l ∧ 0 ≤ a.g
def newGo : List ByteArray → Nat → List (List Item) → List (List Item) × Nat × Nat
 | [], _, acc => (acc, 0, 0)
 | p :: ps, i, acc => if (parseM p).2.2 ≠ 0 then ([], i, (parseM p).2.2) else if matchM (parseM p).1 [] = true then ([], i, 9) else newGo ps (i + 1) (acc ++ [(parseM p).1])
def newM (ps : List ByteArray) : List (List Item) × Nat × Nat := if 8 < ps.length then ([], 0, 4) else newGo ps 0 []
def textCells (ps : List ByteArray) : List Value := ps.map Value.string
def stepA (c : Nat) (a : ArmS) : ArmS := ⟨a.g, a.l, seekW a.l a.x c⟩
def doneA (a : ArmS) : Bool := doneW a.l a.x
def toldA (ds : List Bool) : Nat := if ds.any id = true then ds.findIdx id else 0
def fedTo (c : Nat) (ar : List ArmS) (k : Nat) : List ArmS := (ar.take k).map (stepA c) ++ ar.drop k
def TK (w w' : World) : Prop := ∀ (k : Nat) (cs : Array Value) (t : TypeId) (l : Nat × Nat), w.heap[k]? = some (.cells cs t l) → t ≠ 216 → t ≠ 222 → w'.heap[k]? = w.heap[k]?
def AF (w : World) (b k : Nat) : Prop := k = b ∨ ∃ v, w.cell? ⟨b, 0, none⟩ = some v ∧ v.ownBlock = some k
def AK (b : Nat) (w w' : World) : Prop := b < w.heap.size ∧ (∀ k, k < w.heap.size → ¬ AF w b k → w'.heap[k]? = w.heap[k]?) ∧ ∀ k, AF w' b k → AF w b k ∨ w.heap.size ≤ k
def FB (base b : Nat) (w w' : World) : Prop := Below base w w' ∧ TK w w' ∧ AK b w w'
theorem callBW2 {P : Program} {f : Nat} {args : Array Value} {v : Value} {B : Nat} {w : World} (hB : B ≤ w.heap.size) (h : ∀ q : BW B w, Calls P f args q.1 fun e w' => e = .returned v ∧ Below q.1.heap.size q.1 w') (q : BW B w) :
  Calls P f args q.1 fun e w'' => e = .returned v ∧ ∃ q' : BW B w, w'' = q'.1 :=
 (h q).mono fun _ w'' ⟨he, hb⟩ => ⟨he, ⟨⟨w'', q.2.trans (hb.mono (Nat.le_trans hB q.2.size))⟩, rfl⟩⟩
end Go.Proofs.YtpkkfdmhbbipoaaGreat
