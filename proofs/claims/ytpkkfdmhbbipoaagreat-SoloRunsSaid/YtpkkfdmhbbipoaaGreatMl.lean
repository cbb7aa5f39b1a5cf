/- Walks: a table's methods that a caller sees. Walks: 'Compile' of package table. Walks: arms.compile. Walks: arms.New. Walks: a byte fed to several patterns. Walks: no patterns; Fed, Len; layer 10's lives; the law ArmsNil. -/
import Derived.Test.YtpkkfdmhbbipoaaGreatMh
import Derived.Test.YtpkkfdmhbbipoaaGreatMb
import Derived.Test.YtpkkfdmhbbipoaaGreatMf
import Derived.Test.YtpkkfdmhbbipoaaGreatMa
namespace Go.Proofs.YtpkkfdmhbbipoaaGreat
set_option maxRecDepth 100000
set_option maxHeartbeats 4000000
open Go.RowKit
theorem Tb.drewN {w : World} {g : Nat} {l : List Zm} (h : Tb w g l) (n : Nat) : Tb (w.drewN n) g l := by
 simpa [Tb] using h
theorem Zgg (g : Nat) (l : List Zm) (w : World) (hn : l.length ≤ 60) (ht : Tb w g l) :
  Calls Tryz.prog 210 #[.pointer (some ⟨g, 0, none⟩)] w fun e w' => e = .returned (w64 (Wy l)) ∧ w = w' := by
 have HC : Hid (∀ W, Tb W g l → Calls Tryz.prog 223 #[.pointer (some ⟨g, 0, none⟩), .int .u64 1] W fun e w' => e = .returned (w64 (Wy l)) ∧ W = w') := fun W h => Za9 g l 1 W hn h;go_enter Tryz.func210, Tryz.ntmps210;go_wp2_with fail;refine (HC.out _ ht).mono ?_;rintro e w1 ⟨rfl, rfl⟩
 go_wp2
 go_ret;exact ⟨rfl, rfl⟩
theorem Ze9 (g : Nat) (l : List Zm) (w : World) (hn : l.length ≤ 60) (ht : Tb w g l) :
  Calls Tryz.prog 193 #[.pointer (some ⟨g, 0, none⟩)] w fun e w' => e = .returned (w64 (Wy l)) ∧ w = w' := by
 go_enter Tryz.func193, Tryz.ntmps193;go_wp2_with fail;refine (Zgg g l _ hn ht).mono ?_;rintro e w1 ⟨rfl, rfl⟩
 go_wp2
 go_ret;exact ⟨rfl, rfl⟩
theorem Zoq (g : Nat) (l : List Zm) (x : BitVec 64) (b : Nat) (w : World) (hn : l.length ≤ 60) (hb : b < 256) (ht : Tb w g l) :
  Calls Tryz.prog 226 #[.pointer (some ⟨g, 0, none⟩), w64 x, .int .u8 (b : Int)] w fun e w' => e = .returned (w64 (Zbi l x b)) ∧ Below w.heap.size w w' := by
 have HT := hid ht;obtain ⟨h0, h1, h2, h3⟩ := ht;have h4 := h3 b hb;have hb0 : (0 : Int) ≤ (b : Int) := aa
 have hb1 : (b : Int) < 256 := aa
 clear h3;obtain ⟨y, hy⟩ : ∃ y, y = Qp l x := ⟨_, rfl⟩;obtain ⟨z1, hz1⟩ : ∃ z1, z1 = y &&& Mh l := ⟨_, rfl⟩;obtain ⟨z2, hz2⟩ : ∃ z2, z2 = y &&& Zj6 l b := ⟨_, rfl⟩;obtain ⟨t, htt⟩ : ∃ t, t = z2 <<< 1 := ⟨_, rfl⟩;obtain ⟨u, hu⟩ : ∃ u, u = z1 ||| t := ⟨_, rfl⟩;have ka1 := Zl1 y (Mh l);have ka2 := Zl1 y (Zj6 l b);have ks := Zoe z2;have ko := Zn7 z1 t;have HS : Hid (Zbi l x b = Qp l u) := by rw [Hid, hu, htt, hz1, hz2, hy]; rfl
 rw [← hz1] at ka1;rw [← hz2] at ka2;rw [← htt] at ks;rw [← hu] at ko;have HC1 : Hid (∀ W, Tb W g l → Calls Tryz.prog 223 #[.pointer (some ⟨g, 0, none⟩), w64 x] W fun e w' => e = .returned (w64 y) ∧ W = w') := fun W h => by rw [hy]; exact Za9 g l x W hn h
 have HC2 : Hid (∀ W, Tb W g l → Calls Tryz.prog 223 #[.pointer (some ⟨g, 0, none⟩), w64 u] W fun e w' => e = .returned (w64 (Zbi l x b)) ∧ W = w') := fun W h => by rw [HS.out]; exact Za9 g l u W hn h
 clear hz1 hz2 htt hu hy HS;generalize Zbi l x b = res at *;go_enter Tryz.func226, Tryz.ntmps226;go_wp2_with fail;refine (HC1.out _ HT.out).mono ?_;rintro e w1 ⟨rfl, rfl⟩;go_wp2_with fail
 go_quiet (first | (go_at_call 223; exact Calls.quiet_of_same ((HC2.out _ (HT.drewN _)).mono fun _ _ h => ⟨h.1, h.2.symm⟩)))
 go_wp2
 go_ret;exact ⟨rfl, ⟨rfl, rfl, rfl, Nat.le_refl _, fun _ _ => rfl⟩⟩
theorem Zot (g : Nat) (l : List Zm) (x : BitVec 64) (b : Nat) (w : World) (hn : l.length ≤ 60) (hb : b < 256) (ht : Tb w g l) :
  Calls Tryz.prog 213 #[.pointer (some ⟨g, 0, none⟩), w64 x, .int .u8 (b : Int)] w fun e w' => e = .returned (w64 (Zdj l x b)) ∧ Below w.heap.size w w' := by
 obtain ⟨z, hz⟩ : ∃ z, z = Zdj l x b := ⟨_, rfl⟩;have ko := Zn7 (Zbi l x b) (Wy l);rw [show Zbi l x b ||| Wy l = z from hz.symm] at ko;rw [← hz];clear hz;have HS : Hid (∀ W, Tb W g l → Calls Tryz.prog 226 #[.pointer (some ⟨g, 0, none⟩), w64 x, .int .u8 (b : Int)] W fun e w' => e = .returned (w64 (Zbi l x b)) ∧ Below W.heap.size W w') := fun W h => Zoq g l x b W hn hb h;have HB : Hid (∀ W, Tb W g l → Calls Tryz.prog 210 #[.pointer (some ⟨g, 0, none⟩)] W fun e w' => e = .returned (w64 (Wy l)) ∧ W = w') := fun W h => Zgg g l W hn h;generalize Zbi l x b = s1 at *;generalize Wy l = s2 at *;go_enter Tryz.func213, Tryz.ntmps213;go_wp2_with fail;refine (HS.out _ ht).mono ?_;rintro e w1 ⟨rfl, hb1⟩;go_wp2_with fail;refine (HB.out _ (ht.below hb1)).mono ?_;rintro e w2 ⟨rfl, rfl⟩
 go_wp2
 go_ret;exact ⟨rfl, hb1⟩
theorem Zp3 (g : Nat) (l : List Zm) (x : BitVec 64) (w : World) (hn : l.length ≤ 60) (ht : Tb w g l) :
  Calls Tryz.prog 214 #[.pointer (some ⟨g, 0, none⟩), w64 x] w fun e w' => e = .returned (.bool (Mj l x)) ∧ Below w.heap.size w w' := by
 have HT := hid ht;obtain ⟨h0, h1, h2, _⟩ := ht;have HC : Hid (∀ W, Tb W g l → Calls Tryz.prog 223 #[.pointer (some ⟨g, 0, none⟩), w64 x] W fun e w' => e = .returned (w64 (Qp l x)) ∧ W = w') := fun W h => Za9 g l x W hn h;have HB := hid (Zoj (Qp l x) l.length);have HD : Hid (Mj l x = (Qp l x).getLsbD l.length) := rfl;generalize Qp l x = y at *;go_enter Tryz.func214, Tryz.ntmps214;go_wp2_with fail
 go_quiet (first | (go_at_call 223; exact Calls.quiet_of_same ((HC.out _ (HT.drewN _)).mono fun _ _ h => ⟨h.1, h.2.symm⟩)))
 go_wp2
 go_ret;exact ⟨by rw [HD.out, ← HB.out]; rfl, ⟨rfl, rfl, rfl, Nat.le_refl _, fun _ _ => rfl⟩⟩
/-! ### No table -/
def Zia (k : Nat) : BitVec 64 := bv fun j => decide (j = k)
theorem Zk5 (k : Nat) (h : k < 64) : (Zia k).toNat = 2 ^ k := by
 have : Zia k = BitVec.ofNat 64 (2 ^ k) := by
  refine Zbt fun j hj => ?_;unfold Zia;rw [Jq _ _ hj, BitVec.getLsbD_ofNat, Nat.testBit_two_pow];simp [hj]; omega
 rw [this, BitVec.toNat_ofNat];exact Nat.mod_eq_of_lt (Nat.pow_lt_pow_right aa h)
theorem Zr8 (k : Nat) (h : k < 64) : IntKind.u64.wrap (2 ^ k) = ((Zia k).toNat : Int) := by
 have h1 : 2 ^ k < 2 ^ 64 := Nat.pow_lt_pow_right aa h;rw [Zk5 k h, IntKind.wrap_u64, show ((2 : Int) ^ k) = ((2 ^ k : Nat) : Int) from by rw [Int.natCast_pow]; rfl];generalize 2 ^ k = q at *;omega
def Xx (f : Nat → Bool) (k : Nat) : BitVec 64 := bv fun j => decide (j < k) && f j
theorem Ziq (f : Nat → Bool) (k : Nat) (hf : f k = true) : Xx f (k + 1) = Xx f k ||| Zia k := by
 refine Zbt fun j hj => ?_;unfold Xx Zia;rw [BitVec.getLsbD_or, Jq _ _ hj, Jq _ _ hj, Jq _ _ hj];by_cases h : j = k
 ·subst h; simp [hf]
 ·simp [h, show j < k + 1 ↔ j < k by omega]
theorem Zgp (f : Nat → Bool) (k : Nat) (hf : f k = false) : Xx f (k + 1) = Xx f k := by
 refine Zbt fun j hj => ?_;unfold Xx;rw [Jq _ _ hj, Jq _ _ hj];by_cases h : j = k
 ·subst h; simp [hf]
 ·simp [show j < k + 1 ↔ j < k by omega]
theorem Zm6 (f : Nat → Bool) : Xx f 0 = 0 := by
 refine Zbt fun j hj => ?_;unfold Xx;rw [Jq _ _ hj]; simp
theorem Zir (f : Nat → Bool) (n : Nat) (h : ∀ j, n ≤ j → f j = false) : Xx f n = bv f := by
 refine Zbt fun j hj => ?_;unfold Xx;rw [Jq _ _ hj, Jq _ _ hj];by_cases hn : j < n
 ·simp [hn]
 ·simp [h j aa]
def TbP (w : World) (g n : Nat) (r : BitVec 64) (h : Nat → BitVec 64) : Prop :=
 ∃ cs, Blk w g 257 cs ∧ cs[0]? = some (.int .i64 (n : Int)) ∧ cs[1]? = some (w64 r) ∧ ∀ b, b < 256 → cs[2 + b]? = some (w64 (h b))
theorem TbP.setR {w : World} {g n : Nat} {r : BitVec 64} {h : Nat → BitVec 64} (t : TbP w g n r h) (r' : BitVec 64) : TbP (w.setCell ⟨g, 1, none⟩ (w64 r')) g n r' h := by
 obtain ⟨cs, hb, h0, h1, h2⟩ := t;refine ⟨_, hb.set 1 (w64 r'), ?_, ?_, fun b hb => ?_⟩
 ·rw [Array.getElem?_setIfInBounds_ne aa]; exact h0
 ·have := (Array.getElem?_eq_some_iff.1 h1).1
  rw [Array.getElem?_setIfInBounds_self_of_lt this]
 ·rw [Array.getElem?_setIfInBounds_ne aa]; exact h2 b hb
theorem TbP.setH {w : World} {g n : Nat} {r : BitVec 64} {h : Nat → BitVec 64} (t : TbP w g n r h) (b : Nat) (hb : b < 256) (x : BitVec 64) : TbP (w.setCell ⟨g, 2 + b, none⟩ (w64 x)) g n r (fun j => if j = b then x else h j) := by
 obtain ⟨cs, hbk, h0, h1, h2⟩ := t;refine ⟨_, hbk.set (2 + b) (w64 x), ?_, ?_, fun j hj => ?_⟩
 ·rw [Array.getElem?_setIfInBounds_ne aa]; exact h0
 ·rw [Array.getElem?_setIfInBounds_ne aa]; exact h1
 ·by_cases e : j = b
  ·subst e
   have := (Array.getElem?_eq_some_iff.1 (h2 j hj)).1;rw [Array.getElem?_setIfInBounds_self_of_lt this]; simp
  ·rw [Array.getElem?_setIfInBounds_ne aa]; simp only [e, if_false]; exact h2 j hj
theorem TbP.below {B : Nat} {w w' : World} {g n : Nat} {r : BitVec 64} {h : Nat → BitVec 64} (t : TbP w g n r h) (hb : Below B w w') (hg : g < B) : TbP w' g n r h := by
 obtain ⟨cs, hbk, h0, h1, h2⟩ := t;exact ⟨cs, hbk.below hb hg, h0, h1, h2⟩
theorem Zh2 : ((List.range 257).all fun b => match Tryz.zeroCells257[1 + b]? with | some (.int .u64 0) => true | _ => false) = true := by kernel_rfl
theorem Zl6 (b : Nat) (h : b < 257) : Tryz.zeroCells257[1 + b]? = some (.int .u64 0) := by
 have := List.all_eq_true.1 Zh2 b (List.mem_range.2 h)
 revert this
 generalize Tryz.zeroCells257[1 + b]? = o;intro this;split at this
 ·rfl
 ·cases this
theorem Zkd (w : World) (n : Nat) : TbP (w.alloc (.cells (Tryz.zeroCells257.setIfInBounds 0 (.int .i64 (n : Int))) 257)) w.heap.size n 0 (fun _ => 0) := by
 refine ⟨_, Blk.new w _ _, ?_, ?_, fun b hb => ?_⟩
 ·rw [Array.getElem?_setIfInBounds_self_of_lt (by rw [Tryz.zeroCells257_size]; omega)]
 ·rw [Array.getElem?_setIfInBounds_ne aa]; exact Zl6 0 aa
 ·rw [Array.getElem?_setIfInBounds_ne aa]
  have := Zl6 (b + 1) aa;rwa [show 1 + (b + 1) = 2 + b from aa] at this
theorem N8{P:Prop}(h:P:=by
 obtain ⟨t, ht, rfl, htx, hbx, hbw, hsx⟩ := hrel;by_cases hlt2 : t < 256
 ·have e1 := hbx.cell 1
  have e2 := hbx.cell 2;have e3 := hbx.cell 3;have e4 := hbx.cell 4;have k1 : IntKind.u8.wrap (t : Int) = (t : Int) := by rw [IntKind.wrap_u8]; omega
  have HTX := hid htx; have HBX := hid hbx; have HBW := hid hbw;clear htx hbx hbw;have HPB : Hid (x.set.has t = Ur l t k) := (HHA.out t).symm;have hgx : w2.heap.size < wr.heap.size := aa
  go_wp2_with fail;refine (Zpo x.set t hlt2 _).mono ?_;rw [HPB.out];rintro e w5 ⟨rfl, hb5⟩;have HTY := hid (HTX.below hb5 hgx);have HBY := hid (HBX.below hb5 aa);have HBV := bt HBW hb5;have hs5 := hb5.size;have hgy : w2.heap.size < w5.heap.size := aa
  clear hb5 e1 e2 e3 e4 k1 HTX HBX HBW;cases hh : Ur l t k
  ·have HPK : Hid ((fun b => if b < t + 1 then Xx (Ur l b) (k + 1) else Xx (Ur l b) k) = (fun b => if b < t then Xx (Ur l b) (k + 1) else Xx (Ur l b) k)) := by
    refine funext fun b => ?_;by_cases h1 : b = t
    ·subst h1; simp [Zgp (Ur l b) k hh]
    ·simp [show b < t + 1 ↔ b < t by omega]
   clear hh;go_wp2_with fail;go_roundw
   case rel => exact ⟨t + 1, aa, aw, by rw [HPK.out]; exact HTY.out, HBY.out, HBV.out, aa⟩
   case measure => simp [intOf]; omega
  ·have HPS := hid (Ziq (Ur l t) k hh)
   have HPK : Hid ((fun j => if j = t then Xx (Ur l t) (k + 1) else (fun b => if b < t then Xx (Ur l b) (k + 1) else Xx (Ur l b) k) j) = (fun b => if b < t + 1 then Xx (Ur l b) (k + 1) else Xx (Ur l b) k)) := by
    refine funext fun b => ?_;by_cases h1 : b = t
    ·subst h1; simp
    ·simp [h1, show b < t + 1 ↔ b < t by omega]
   have ko2 := Zn7 (Xx (Ur l t) k) (Zia k);rw [← HPS.out] at ko2;obtain ⟨cs, hbk, c0, c1, c2⟩ := HTY.out
   have q2 : w5.cell? ⟨w2.heap.size, 2 + t, none⟩ = some (w64 (Xx (Ur l t) k)) := by
    rw [hbk.cell (2 + t), c2 t hlt2]; simp
   have qg := hbk.frozen (2 + t);have k2 : (0 : Int) ≤ (t : Int) := aa
   have k3 : (t : Int) < 256 := aa
   have HTZ := hid (HTY.setH t hlt2 (Xx (Ur l t) (k + 1)));rw [HPK.out] at HTZ;clear hh hbk c0 c1 c2 HPS HPK;go_wp2_with fail
   go_region
   clear q2 qg ko2;go_wp2_with fail;go_roundw
   case rel => exact ⟨t + 1, aa, aw, HTZ.out, (HBY.set_far aa), (HBV.setCell aa _).drew, af⟩
   case measure => simp [intOf]; omega
 ·have htt : t = 256 := by omega
  subst htt
  have HTE : Hid (TbP wr w2.heap.size n (Xx (Uf l) (k + 1)) (fun b => Xx (Ur l b) (k + 1))) := by
   obtain ⟨cs, hbk, c0, c1, c2⟩ := htx;exact ⟨cs, hbk, c0, c1, fun b hb => by rw [c2 b hb]; simp [hb]⟩
  have HBW := hid hbw;clear htx hbx hbw;go_wp2_with fail;go_roundw
  case rel => exact ⟨k + 1, aa, aw, HTE.out, HBW.out, aa⟩
  case measure => simp [intOf]; omega):P:=h
theorem Zhy (A : Option Addr) (n c : Nat) (l : List Zm) (w : World) (hl : l.length = n) (hn : n ≤ 1000000) (hr : Rd w A (Yb l)) :
  Calls Tryz.prog 209 #[.slice A n c] w fun e w' => (Kp l = false ∧ e = .returned (.tuple #[.pointer none, .int .i64 2]) ∨ Kp l = true ∧ Wz l [] = true ∧ e = .returned (.tuple #[.pointer none, .int .i64 9]) ∨
   Kp l = true ∧ Wz l [] = false ∧ ∃ g, e = .returned (.tuple #[.pointer (some ⟨g, 0, none⟩), .int .i64 0]) ∧ Tb w' g l ∧ w.heap.size ≤ g ∧ ∃ cs, Blk w' g 257 cs) ∧ Below w.heap.size w w' := by
 have HL := hid hl; clear hl;go_enter Tryz.func209, Tryz.ntmps209;go_wp2_with fail;refine (Zns A n c l _ HL.out hn hr).mono ?_;rintro e w1 ⟨rfl, hb1⟩;cases hg : Kp l
 ·have HG := hid hg
  clear hg
  go_wp2
  go_ret2
  exact ⟨.inl ⟨HG.out, rfl⟩, hb1⟩
 have HG := hid hg;clear hg;go_wp2_with fail;refine (Zlo A n c l _ HL.out hn (hr.below hb1)).mono ?_;rintro e w2 ⟨rfl, hb2⟩;have hb3 := hb1.trans (hb2.mono hb1.size);clear hb1 hb2;by_cases hm : Wz l [] = true
 ·have HM := hid hm
  rw [hm];clear hm
  go_wp2
  go_ret2
  exact ⟨.inr (.inl ⟨HG.out, HM.out, rfl⟩), hb3⟩
 have hm : Wz l [] = false := by simpa using hm
 rw [hm];have HM := hid hm;clear hm;have HB3 := hid hb3;have HR3 := hid (hr.below hb3);have HR0 := hid hr;clear hr hb3;have HN := hid (Ze6 l HG.out).2;rw [HL.out] at HN
 have HT0 : Hid (TbP (w2.alloc (.cells (Tryz.zeroCells257.setIfInBounds 0 (.int .i64 (n : Int))) 257)) w2.heap.size n (Xx (Uf l) 0) (fun b => Xx (Ur l b) 0)) := by
  simp only [Zm6];exact Zkd w2 n
 have HB4 : Hid (Below w.heap.size w (w2.alloc (.cells (Tryz.zeroCells257.setIfInBounds 0 (.int .i64 (n : Int))) 257))) := HB3.alloc HB3.size _;have HS4 : Hid (w2.heap.size + 1 ≤ (w2.alloc (.cells (Tryz.zeroCells257.setIfInBounds 0 (.int .i64 (n : Int))) 257)).heap.size) := by simp [Hid]
 have HS3 := hid HB3.size;clear HR3;go_wp2_with fail
 go_loopw [22] (fun i wr => ∃ (k : Nat), k ≤ n ∧ i = .int .i64 k ∧ TbP wr w2.heap.size n (Xx (Uf l) k) (fun b => Xx (Ur l b) k) ∧ Below w.heap.size w wr ∧ w2.heap.size + 1 ≤ wr.heap.size) (fun i _ => n - (intOf i).toNat)
 case atStart => exact ⟨0, aa, rfl, HT0.out, HB4.out, HS4.out⟩
 case round =>
  obtain ⟨k, hk, rfl, htb, hb, hsz⟩ := hrel;obtain ⟨wo, rfl⟩ : ∃ wo : World, wo = wr := ⟨wr, rfl⟩;by_cases hlt : k < n
  ·obtain ⟨b, off, rfl, hbl, hc⟩ := (HR0.below hb).at jh
   have HK : Hid (k < l.length) := by rw [HL.out]; exact hlt
   obtain ⟨d0, d1, d2, d3, d4⟩ := Zem hc k HK.out;have HRA := hid (Zb9 l k HK.out);have HHA : Hid (∀ b, Ur l b k = (l[k]'HK.out).set.has b) := fun b => Zg9 l b k HK.out;generalize l[k]'HK.out = x at *;have hk64 : k < 64 := lg
   have kb := Zr8 k hk64;have hgl : w2.heap.size < wo.heap.size := aa
   have hgne : ¬ w2.heap.size = wo.heap.size := aa
   have HTB := hid htb;obtain ⟨cs, hbk, c0, c1, c2⟩ := htb;have q1 : wo.cell? ⟨w2.heap.size, 1, none⟩ = some (w64 (Xx (Uf l) k)) := (hbk.cell 1).trans c1;have qf := hbk.frozen 1;have HB := hid hb;have hs3 := HS3.out;clear hc hb hbk c0 c1 c2 HT0 HB4 HS4;cases hrun : x.run
   ·rw [hrun] at d0 HRA
    have HP := hid (Zgp (Uf l) k HRA.out);clear hrun;obtain ⟨W0, hW0⟩ : ∃ W0, W0 = wo.alloc (.cells #[.bool false, w64 x.set.w0, w64 x.set.w1, w64 x.set.w2, w64 x.set.w3] 251) := ⟨_, rfl⟩
    have HTA : Hid (TbP W0 w2.heap.size n (Xx (Uf l) (k + 1)) (fun b => Xx (Ur l b) k)) := by
     rw [hW0, HP.out];exact HTB.below ((Below.refl wo.heap.size wo).alloc (Nat.le_refl _) _) hgl
    have HBA : Hid (Below w.heap.size w W0) := by rw [hW0]; exact HB.alloc HB.size _
    have HBK : Hid (Blk W0 wo.heap.size 251 #[.bool false, w64 x.set.w0, w64 x.set.w1, w64 x.set.w2, w64 x.set.w3]) := by rw [hW0]; exact Blk.new _ _ _
    have HSA : Hid (wo.heap.size + 1 ≤ W0.heap.size) := by rw [hW0]; simp [Hid]
    have HWE : Hid (W0 = wo.alloc (.cells #[.bool false, w64 x.set.w0, w64 x.set.w1, w64 x.set.w2, w64 x.set.w3] 251)) := hW0;clear hW0;go_wp2_with fail;rw [← HWE.out];clear HWE HTB d0 d1 d2 d3 d4 q1 qf kb HP
    go_loopw [40] (fun i wx => ∃ (t : Nat), t ≤ 256 ∧ i = .int .i64 t ∧ TbP wx w2.heap.size n (Xx (Uf l) (k + 1)) (fun b => if b < t then Xx (Ur l b) (k + 1) else Xx (Ur l b) k) ∧
      Blk wx wo.heap.size 251 #[.bool false, w64 x.set.w0, w64 x.set.w1, w64 x.set.w2, w64 x.set.w3] ∧ Below w.heap.size w wx ∧ wo.heap.size + 1 ≤ wx.heap.size) (fun i _ => 256 - (intOf i).toNat)
    case atStart => exact ⟨0, aa, rfl, by simpa using HTA.out, HBK.out, HBA.out, HSA.out⟩
    case round =>
     exact N8
   ·rw [hrun] at d0 HRA
    have HP := hid (Ziq (Uf l) k HRA.out);have ko := Zn7 (Xx (Uf l) k) (Zia k);rw [← HP.out] at ko;clear hrun;obtain ⟨W0, hW0⟩ : ∃ W0, W0 = (wo.setCell ⟨w2.heap.size, 1, none⟩ (w64 (Xx (Uf l) (k + 1)))).alloc (.cells #[.bool true, w64 x.set.w0, w64 x.set.w1, w64 x.set.w2, w64 x.set.w3] 251) := ⟨_, rfl⟩
    have HTA : Hid (TbP W0 w2.heap.size n (Xx (Uf l) (k + 1)) (fun b => Xx (Ur l b) k)) := by
     rw [hW0];exact (HTB.setR _).below ((Below.refl _ _).alloc (Nat.le_refl _) _) (by simpa using hgl)
    have HBA : Hid (Below w.heap.size w W0) := by rw [hW0]; exact (HB.setCell af _).alloc (by simpa using HB.size) _
    have HBK : Hid (Blk W0 wo.heap.size 251 #[.bool true, w64 x.set.w0, w64 x.set.w1, w64 x.set.w2, w64 x.set.w3]) := by
     rw [hW0];have := Blk.new (wo.setCell ⟨w2.heap.size, 1, none⟩ (w64 (Xx (Uf l) (k + 1)))) 251 #[.bool true, w64 x.set.w0, w64 x.set.w1, w64 x.set.w2, w64 x.set.w3];simpa [Hid] using this
    have HSA : Hid (wo.heap.size + 1 ≤ W0.heap.size) := by rw [hW0]; simp [Hid]
    have HWE : Hid (W0 = (wo.setCell ⟨w2.heap.size, 1, none⟩ (w64 (Xx (Uf l) (k + 1)))).alloc (.cells #[.bool true, w64 x.set.w0, w64 x.set.w1, w64 x.set.w2, w64 x.set.w3] 251)) := hW0;clear hW0;go_wp2_with fail;rw [← HWE.out];clear HWE HTB d0 d1 d2 d3 d4 q1 qf kb HP
    go_loopw [40] (fun i wx => ∃ (t : Nat), t ≤ 256 ∧ i = .int .i64 t ∧ TbP wx w2.heap.size n (Xx (Uf l) (k + 1)) (fun b => if b < t then Xx (Ur l b) (k + 1) else Xx (Ur l b) k) ∧
      Blk wx wo.heap.size 251 #[.bool true, w64 x.set.w0, w64 x.set.w1, w64 x.set.w2, w64 x.set.w3] ∧ Below w.heap.size w wx ∧ wo.heap.size + 1 ≤ wx.heap.size) (fun i _ => 256 - (intOf i).toNat)
    case atStart => exact ⟨0, aa, rfl, by simpa using HTA.out, HBK.out, HBA.out, HSA.out⟩
    case round =>
     exact N8
  ·have hkn : k = n := by omega
   obtain ⟨cs, hbk, c0, c1, c2⟩ := htb
   have HTF : Hid (Tb wo w2.heap.size l) := by
    refine ⟨aa, by rw [HL.out]; exact (hbk.cell 0).trans c0, ?_, fun b hb => ?_⟩
    ·refine (hbk.cell 1).trans ?_
     rw [c1, hkn, Zir (Uf l) n (fun j hj => Zcf l j (by rw [HL.out]; exact hj))]; rfl
    ·refine (hbk.cell (2 + b)).trans ?_
     rw [c2 b hb];simp only [hkn];rw [Zir (Ur l b) n (fun j hj => Zpp l b j (by rw [HL.out]; exact hj))]; rfl
   have HBK9 := hid hbk;clear hbk c0 c1 c2;have HB := hid hb;clear hb HT0 HB4 HS4;go_wp2_with fail
   go_ret2
   exact ⟨.inr (.inr ⟨HG.out, HM.out, _, rfl, HTF.out, HS3.out, _, HBK9.out⟩), HB.out⟩
open PopT
theorem Zcs (p : ByteArray) : Kp (Xg p).1 = true := by
 obtain ⟨h1, h2⟩ := Zdv p 61 [] 0 ah aa ah;unfold Kp;rw [Bool.and_eq_true, List.all_eq_true, decide_eq_true_iff];refine ⟨fun x hx => ?_, by have : (Xg p).1.length ≤ 60 := h1; omega⟩;have := h2 x hx;cases hr : x.run
 ·rfl
 ·rw [this hr]; rfl
theorem Gu (p : ByteArray) : (Xg p).1.length ≤ 60 := (Zdv p 61 [] 0 ah aa ah).1
def TbT (w : World) (g : Nat) (l : List Zm) : Prop := Tb w g l ∧ ∃ cs, Blk w g 257 cs
def Zro (R : List Zm × Nat × Nat) (w : World) (e : Ending) (w' : World) : Prop :=
 Below w.heap.size w w' ∧ ((R.2.2 ≠ 0 ∧ e = .returned (.tuple #[.pointer none, .int .i64 (R.2.1 : Nat), .int .i64 (R.2.2 : Nat)])) ∨
  (R.2.2 = 0 ∧ Wz R.1 [] = true ∧ e = .returned (.tuple #[.pointer none, .int .i64 0, .int .i64 9])) ∨
  (R.2.2 = 0 ∧ Wz R.1 [] = false ∧ ∃ g, e = .returned (.tuple #[.pointer (some ⟨g, 0, none⟩), .int .i64 0, .int .i64 0]) ∧ TbT w' g R.1 ∧ w.heap.size ≤ g))
theorem Zi1 (p : ByteArray) (hp : p.size ≤ 1000000) (w : World) :
  Calls Tryz.prog 192 #[p] w fun e w' => Zro (Xg p) w e w' := by
 have C1 := hid (Zm7 p hp w);have HG := hid (Zcs p);have HLN := hid (Gu p);obtain ⟨⟨l, a, e⟩, hR⟩ : ∃ R, Xg p = R := ⟨_, rfl⟩;rw [hR] at C1 HG HLN ⊢;simp only at HG HLN;obtain ⟨n, hn⟩ := nE (l.length);have HN := hid hn;obtain ⟨Q, hQ⟩ := nE (Zro (l, a, e) w);rw [show (fun e' w' => Zro (l, a, e) w e' w') = Q from hQ];have HQ := hid hQ;clear hR hQ;go_enter Tryz.func192, Tryz.ntmps192;go_wp2_with fail;refine C1.mono ?_;rintro en w1 ⟨A1, c1, rfl, hown1, hb1⟩;simp only at hown1;have HR1 := hid (Xw hown1);have HB1 := hid hb1;clear hown1 hb1 C1;simp only [hn];rw [hn] at HLN;clear hn;by_cases he : e = 0
 ·subst he
  have hln : n ≤ 60 := HLN.out;have C2 := hid (Zhy A1 n c1 l w1 HN.out aa HR1.out);go_wp2_with fail;refine C2.mono ?_;rintro en w2 ⟨hres, hb2⟩;have HB2 := bt HB1 hb2;have hsz := HB1.size;rcases hres with ⟨hg, -⟩ | ⟨-, hm, rfl⟩ | ⟨-, hm, g, rfl, ht, hgl, hcs⟩
  ·exact absurd (HG.symm.trans hg) ac
  ·have HM := hid hm
   clear hm hb2 C2;go_wp2_with fail
   go_ret3
   rw [← HQ.out];exact ⟨HB2.out, .inr (.inl ⟨rfl, HM.out, rfl⟩)⟩
  ·have HM := hid hm; have HT := hid ht; have HCS := hid hcs
   clear hm ht hcs hb2 C2;go_wp2_with fail
   go_ret3
   rw [← HQ.out];exact ⟨HB2.out, .inr (.inr ⟨rfl, HM.out, g, rfl, ⟨HT.out, HCS.out⟩, aa⟩)⟩
 ·have he0 : ((e : Int) == 0) = false := bF aa
  go_wp2_with fail
  go_ret3
  rw [← HQ.out];exact ⟨HB1.out, .inl ⟨he, rfl⟩⟩
structure Xq where
 g : Nat
 l : List Zm
 x : BitVec 64
def Xq.cells (a : Xq) : List Value := [.pointer (some ⟨a.g, 0, none⟩), w64 a.x]
def Wg (ar : List Xq) : List Value := ar.flatMap Xq.cells
theorem Mn (a b : List Xq) : Wg (a ++ b) = Wg a ++ Wg b := by simp [Wg]
theorem Zei (a : List Xq) : (Wg a).length = a.length * 2 := by
 induction a with
 | nil => rfl
 | cons x a ih => rw [show Wg (x :: a) = x.cells ++ Wg a from rfl, List.length_append, ih]; simp [Xq.cells]; omega
theorem Zcv : (Tryz.prog.info? 222).map (fun i => (i.zero, i.size, i.bytes)) = some (some (.agg #[.pointer none, .int .u64 0]), 2, 16) := by kernel_rfl
def Yv (base : Nat) (w : World) (b : Nat) (ar : List Xq) (fed : Int) : Prop :=
 base ≤ b ∧ (∃ A c, Blk w b 216 #[.slice A ar.length c, fed] ∧ w.ownsRow base 222 2 (.slice A ar.length c) ar.length (Wg ar)) ∧ ∀ a ∈ ar, TbT w a.g a.l ∧ 0 ≤ a.g
theorem TbT.keep {w w' : World} {g : Nat} {l : List Zm} (h : TbT w g l) (hb : w'.heap[g]? = w.heap[g]?) (hs : w.heap.size ≤ w'.heap.size) : TbT w' g l := by
 obtain ⟨⟨h0, h1, h2, h3⟩, cs, hk⟩ := h;exact ⟨⟨Nat.lt_of_lt_of_le h0 hs, (World.cell?_of_block hb).trans h1, (World.cell?_of_block hb).trans h2, fun c hc => (World.cell?_of_block hb).trans (h3 c hc)⟩, cs, hb.trans hk⟩
theorem Yv.below {base b : Nat} {w w' : World} {ar : List Xq} {fed : Int} (h : Yv base w b ar fed) (hb : Below w.heap.size w w') : Yv base w' b ar fed := by
 obtain ⟨h0, ⟨A, c, hk, ho⟩, ht⟩ := h;exact ⟨h0, ⟨A, c, hk.below hb hk.lt, Yc ho hb⟩, fun a ha => ⟨(ht a ha).1.keep (hb.block _ (ht a ha).1.1.1) hb.size, (ht a ha).2⟩⟩
def Vz : List ByteArray → Nat → List (List Zm) → List (List Zm) × Nat × Nat
 | [], _, acc => (acc, 0, 0)
 | p :: ps, i, acc => if (Xg p).2.2 ≠ 0 then ([], i, (Xg p).2.2) else if Wz (Xg p).1 [] = true then ([], i, 9) else Vz ps (i + 1) (acc ++ [(Xg p).1])
def Uz (ps : List ByteArray) : List (List Zm) × Nat × Nat := if 8 < ps.length then ([], 0, 4) else Vz ps 0 []
def Zrm (R : List (List Zm) × Nat × Nat) (w : World) (e : Ending) (w' : World) : Prop :=
 Below w.heap.size w w' ∧ ((R.2.2 ≠ 0 ∧ e = .returned (.tuple #[.pointer none, .int .i64 (R.2.1 : Nat), .int .i64 (R.2.2 : Nat)])) ∨
  (R.2.2 = 0 ∧ ∃ b ar, e = .returned (.tuple #[.pointer (some ⟨b, 0, none⟩), .int .i64 0, .int .i64 0]) ∧ Yv w.heap.size w' b ar 0 ∧ ar.map Xq.l = R.1 ∧ ∀ a ∈ ar, a.x = Wy a.l ∧ a.l.length ≤ 60 ∧ w.heap.size ≤ a.g))
def Yj (ps : List ByteArray) : List Value := ps.map Value.string
theorem N108{P:Prop}(h:P:=by
 rintro rfl;rcases hf5 with h | h
 ·exact HNB.out h
 ·omega):P:=h
theorem N52{P:Prop}(h:P:=by
 rw [← hw3];intro a ha;rcases List.mem_append.1 ha with ha | ha
 ·obtain ⟨h1, h2⟩ := HTB.out a ha
  exact ⟨h1.keep rfl (Nat.le_refl _), h2⟩
 ·rw [List.mem_singleton] at ha; subst ha; exact ⟨HT.keep rfl (Nat.le_refl _), Nat.zero_le _⟩):P:=h
theorem N33{P:Prop}(h:P:=by
 intro a ha;obtain ⟨h1, h2⟩ := HTB3.out a ha;obtain ⟨cs, hcs⟩ := h1.2;have hne := Vl hcs HO3.out ac
 have hnb : a.g ≠ w.heap.size := by
  intro he;rw [he] at hcs;have h3 := hcs.symm.trans HK3.out;injection h3 with h3
  injection h3 with _ h3
  exact absurd h3 ac
 have hw5 : TbT w5 a.g a.l := h1.keep (hk5.block a.g h1.1.1 hne) hk5.size;exact ⟨hw5.keep (Below.heap_setCell w5 ⟨w.heap.size, 0, none⟩ _ a.g hnb) ah, h2⟩):P:=h
theorem Zqx (A : Option Addr) (n c : Nat) (ps : List ByteArray) (w : World) (hl : ps.length = n) (hp : ∀ p ∈ ps, p.size ≤ 1000000) (hr : Rd w A (Yj ps)) :
  Calls Tryz.prog 166 #[.slice A n c] w fun e w' => Zrm (Uz ps) w e w' := by
 have HL := hid hl; have HP := hid hp; have HRD := hid hr;have HNM : Hid (Uz ps = if 8 < n then ([], 0, 4) else Vz ps 0 []) := by rw [Hid, Uz, hl]
 obtain ⟨R, hR⟩ := nE (Uz ps);rw [hR] at HNM ⊢;obtain ⟨Q, hQ⟩ := nE (Zrm R w);rw [show (fun e' w' => Zrm R w e' w') = Q from hQ];have HQ := hid hQ;clear hR hQ hl hp hr;by_cases h8 : 8 < n
 ·have HE : Hid (R = ([], 0, 4)) := by rw [Hid, HNM.out, if_pos h8]
  clear HNM;go_enter Tryz.func166, Tryz.ntmps166;go_wp2_with fail
  go_ret3
  rw [← HQ.out, HE.out];exact ⟨Below.refl _ _, .inl ⟨(show (4 : Nat) ≠ 0 by decide), rfl⟩⟩
 ·have HE : Hid (Vz ps 0 [] = R) := by rw [Hid, HNM.out, if_neg h8]
  clear HNM
  have HA0 : Hid (Yv w.heap.size (w.alloc (.cells #[.slice none 0 0, .int .i64 0] 216)) w.heap.size [] 0) :=
   ⟨Nat.le_refl _, ⟨none, 0, Blk.new w _ _, ⟨rfl, .inl ⟨rfl, rfl⟩⟩⟩, fun a ha => by cases ha⟩
  go_enter Tryz.func166, Tryz.ntmps166;go_wp2_with fail
  go_loopw [18] (fun iv wr => ∃ (k : Nat) (ar : List Xq), k ≤ n ∧ ar.length = k ∧ iv = .int .i64 (k : Int) ∧ Vz (ps.drop k) k (ar.map Xq.l) = R ∧ (∀ a ∈ ar, a.x = Wy a.l ∧ a.l.length ≤ 60 ∧ w.heap.size ≤ a.g) ∧ Yv w.heap.size wr w.heap.size ar 0 ∧ Below w.heap.size w wr) (fun iv _ => n - (intOf iv).toNat)
  case atStart => exact ⟨0, [], aa, rfl, rfl, HE.out, (fun a ha => absurd ha ah), HA0.out, (Below.refl _ _).alloc (Nat.le_refl _) _⟩
  case round =>
   obtain ⟨k, ar, hk, hal, rfl, hgo, hst, hat, hb⟩ := hrel;have HGO := hid hgo; have HST := hid hst; have HAT := hid hat; have HB := hid hb; have HAL := hid hal;clear hgo hst hat hal HA0 HE;by_cases hlt : k < n
   ·have hkl : k < ps.length := by rw [HL.out]; exact hlt
    obtain ⟨b, off, rfl, hbl, hc⟩ := (HRD.below hb).at (by rw [Yj, List.length_map, HL.out]; omega);have d0 : wr.cell? ⟨b, off + k, none⟩ = some (.string (ps[k]'hkl)) := hc k _ (by rw [Yj, List.getElem?_map, List.getElem?_eq_getElem hkl]; rfl);have HC := hid (fun W => Zi1 (ps[k]'hkl) (HP.out _ (List.getElem_mem hkl)) W)
    have HGO2 : Hid (R = if (Xg (ps[k]'hkl)).2.2 ≠ 0 then ([], k, (Xg (ps[k]'hkl)).2.2) else if Wz (Xg (ps[k]'hkl)).1 [] = true then ([], k, 9) else Vz (ps.drop (k + 1)) (k + 1) (ar.map Xq.l ++ [(Xg (ps[k]'hkl)).1])) := by
     rw [Hid, ← HGO.out, List.drop_eq_getElem_cons hkl, Vz]
    have HLN := hid (Gu (ps[k]'hkl));obtain ⟨p, hpp⟩ := nE (ps[k]'hkl);rw [hpp] at d0 HC HGO2 HLN;obtain ⟨⟨l, a, e⟩, hPM⟩ : ∃ P, Xg p = P := ⟨_, rfl⟩;rw [hPM] at HC HGO2 HLN;simp only at HGO2 HLN;clear hpp hPM hc hb hkl;go_wp2_with fail;refine (HC.out _).mono ?_;rintro en w2 ⟨hb2, hres⟩;have HB2 := bt HB hb2;have HAT2 := hid (HAT.below hb2);have hs2 := HB.size;clear hb2 HAT HC d0;rcases hres with ⟨he, rfl⟩ | ⟨he, hm, rfl⟩ | ⟨he, hm, g, rfl, ht, hgl⟩
    ·have he' : e ≠ 0 := he
     have he0 : ((e : Int) == 0) = false := bF aa;have HE : Hid (R = ([], k, e)) := by rw [Hid, HGO2.out, if_pos he']
     have HE' := hid he';clear he he' HGO2 HGO;go_wp2_with fail
     go_ret3
     rw [← HQ.out, HE.out];exact ⟨HB2.out, .inl ⟨HE'.out, rfl⟩⟩
    ·have he' : e = 0 := he
     have HE : Hid (R = ([], k, 9)) := by rw [Hid, HGO2.out, if_neg aa, if_pos hm]
     clear he he' hm HGO2 HGO;go_wp2_with fail
     go_ret3
     rw [← HQ.out, HE.out];exact ⟨HB2.out, .inl ⟨(show (9 : Nat) ≠ 0 by decide), rfl⟩⟩
    ·have he' : e = 0 := he
     have HE : Hid (Vz (ps.drop (k + 1)) (k + 1) ((ar ++ [(⟨g, l, Wy l⟩ : Xq)]).map Xq.l) = R) := by rw [Hid, HGO2.out, if_neg aa, if_neg (by rw [hm]; decide), List.map_append]; rfl
     have ht' : TbT w2 g l := ht;have HT := hid ht';have hln : l.length ≤ 60 := HLN.out;have HGL0 : Hid (w.heap.size ≤ g) := Nat.le_trans HB.size hgl
     have HSTN : Hid (∀ a ∈ ar ++ [(⟨g, l, Wy l⟩ : Xq)], a.x = Wy a.l ∧ a.l.length ≤ 60 ∧ w.heap.size ≤ a.g) := by
      intro a ha;rcases List.mem_append.1 ha with ha | ha
      ·exact HST.out a ha
      ·rw [List.mem_singleton] at ha; subst ha; exact ⟨rfl, hln, HGL0.out⟩
     obtain ⟨hbb, ⟨A2, c2, hk2, ho2⟩, htb⟩ := HAT2.out;rw [HAL.out] at hk2 ho2;have HK2 := hid hk2; have HO2 := hid ho2; have HTB := hid htb;have q0 := cA hk2 0 (.slice A2 k c2) rfl;have f0 := hk2.frozen 0;have hlt2 := hk2.lt;have HNB : Hid ((Value.slice A2 k c2).ownBlock ≠ some w.heap.size) := Vl hk2 ho2 ac;have HGL := hid hgl;have HS := hid (fun (n : Nat) => Ze9 g l (w2.drewN n) hln (ht'.1.drewN n));clear he he' hm ht ht' HGO2 HGO hbb hk2 ho2 htb HST HLN HAT2 hgl;go_wp2_with fail;refine Zx (.val 0 (.val 1 (.val 2 (.val 3 (.val 5 (.val 6 (.two 4 (.op 7 (.val 8 (.op 9 (.op 10 (.val 11 (.val 12 (.op 13 (.nil)))))))) 7 (.val 8 (.two 4 (.op 9 (.op 10 (.val 11 (.val 12 (.op 13 (.nil)))))) 9 (.op 4 (.op 10 (.val 11 (.val 12 (.op 13 (.nil))))))))))))))) ab ab ?_;obtain ⟨w3, hw3⟩ := nE (w2.drewN 1);have HK3 : Hid (Blk w3 w.heap.size 216 #[.slice A2 k c2, .int .i64 0]) := hw3 ▸ HK2.out;have HO3 : Hid (w3.ownsRow w.heap.size 222 2 (.slice A2 k c2) k (Wg ar)) := hw3 ▸ HO2.out
     have HTB3 : Hid (∀ a ∈ ar ++ [(⟨g, l, Wy l⟩ : Xq)], TbT w3 a.g a.l ∧ 0 ≤ a.g) := by
      exact N52
     have HB3 : Hid (Below w.heap.size w w3) := hw3 ▸ HB2.trans ((Zq w2 1).mono HB2.size);have HS3 : Hid (Calls Tryz.prog 193 #[.pointer (some ⟨g, 0, none⟩)] w3 fun e w' => e = .returned (w64 (Wy l)) ∧ w3 = w') := hw3 ▸ HS.out 1;rw [hw3];clear hw3 HK2 HO2 HTB HT HB2 HS q0 f0 hlt2 HGL;obtain ⟨x, hx⟩ := nE (Wy l);rw [hx] at HS3;have HX := hid hx;clear hx;have q0 := cA HK3.out 0 (.slice A2 k c2) rfl;have hlt3 := HK3.lt;have q0' : (w3.alloc (.cells #[.pointer (some ⟨g, 0, none⟩), w64 x] 222)).cell? ⟨w.heap.size, 0, none⟩ = some (.slice A2 k c2) := (HK3.alloc _).cell 0;have hs3 : w.heap.size ≤ w3.heap.size := aa
     iterate 6 (refine Zb rfl ?_; go_big_quiet_step (fail); refine wpQuiet_nil ?_)
     focus
      refine Zj rfl rfl ?_ ?_
      focus
       skip
       go_wp2_with fail;refine Zc rfl ?_;go_wp2_with fail;refine HS3.mono ?_;rintro en w4 ⟨rfl, rfl⟩;go_wp2_with fail;refine Zb rfl ?_
       go_big_quiet_step (fail)
       refine wpQuiet_nil ?_
      rotate_left 1
      focus
       skip
       go_wp2_with fail;refine HS3.mono ?_;rintro en w4 ⟨rfl, rfl⟩;go_wp2_with fail;refine Zb rfl ?_
       go_big_quiet_step (fail)
       refine wpQuiet_nil ?_;refine Zj rfl rfl ?_ ?_
       focus
        skip
        go_wp2_with fail
       rotate_left 1
       focus
        skip
        go_wp2_with fail
      all_goals
       refine Zc rfl ?_;go_wp2_with fail;refine Zc rfl ?_;go_wp2_with (at_builtin; refine Wb _ rfl _ _ 214 rfl w.heap.size 222 _ 2 16 Tryz.underlying214 Zcv rfl ac _ _ _ rfl HO3.out 1 [.pointer (some ⟨g, 0, none⟩), w64 x] rfl rfl rfl ?_ ac hs3 ?_)
       ·omega
       intro g5 c5 w5 hown5 hk5 hf5;have HK5 := hid (hk5.blk HK3.out HNB.out)
       have hg5 : g5 ≠ w.heap.size := by
        exact N108
       have r0 := cA HK5.out 0 (.slice A2 k c2) rfl;have rf := HK5.frozen 0;have hlt5 := HK5.lt;have hs5 := hk5.size
       have HN5 : Hid (Yv w.heap.size (w5.setCell ⟨w.heap.size, 0, none⟩ (.slice (some ⟨g5, 0, none⟩) (k + 1) c5)) w.heap.size (ar ++ [(⟨g, l, Wy l⟩ : Xq)]) 0) := by
        have hlen : (ar ++ [(⟨g, l, Wy l⟩ : Xq)]).length = k + 1 := jn
        refine ⟨Nat.le_refl _, ⟨some ⟨g5, 0, none⟩, c5, ?_, ?_⟩, ?_⟩
        ·rw [hlen]; exact HK5.set 0 _
        ·rw [hlen, Mn]
         have h := Yo hown5 ⟨w.heap.size, 0, none⟩ (.slice (some ⟨g5, 0, none⟩) (k + 1) c5) gj;simpa [Wg, Xq.cells, HX.out] using h
        ·exact N33
       have HB5 : Hid (Below w.heap.size w (w5.setCell ⟨w.heap.size, 0, none⟩ (.slice (some ⟨g5, 0, none⟩) (k + 1) c5))) := (HB3.trans (hk5.below hs3 (fun k hk => (HO3.lt k hk).1))).setCell (Nat.le_refl _) _;clear hown5 hk5 hf5;go_wp2_with fail
       iterate 2 (refine Zb rfl ?_; go_big_quiet_step (fail); refine wpQuiet_nil ?_)
       refine Zc rfl ?_;go_wp2_with fail;refine Yi ?_;go_wp2_with fail;go_roundw
       case rel => exact ⟨k + 1, ar ++ [(⟨g, l, Wy l⟩ : Xq)], aa, jn, aw, HE.out, HSTN.out, HN5.out, HB5.out⟩
       case measure => simp [intOf]; omega
   ·have hkn : k = n := by omega
    have HE : Hid (R = (ar.map Xq.l, 0, 0)) := by rw [Hid, ← HGO.out, List.drop_of_length_le bj, Vz]
    clear hb;go_wp2_with fail
    go_ret3
    rw [← HQ.out, HE.out];exact ⟨HB.out, .inr ⟨rfl, _, ar, rfl, HAT.out, rfl, HST.out⟩⟩
def Ng (c : Nat) (a : Xq) : Xq := ⟨a.g, a.l, Zdj a.l a.x c⟩
def Nh (a : Xq) : Bool := Mj a.l a.x
def Wr (ds : List Bool) : Nat := if ds.any id = true then ds.findIdx id else 0
theorem Zmn (ds : List Bool) (d : Bool) : Wr (ds ++ [d]) = if ds.any id = true then Wr ds else if d = true then ds.length else 0 := by
 unfold Wr;by_cases h : ds.any id = true
 ·rw [if_pos (by rw [List.any_append, h]; rfl), if_pos h, if_pos h, List.findIdx_append, if_pos]
  rw [List.any_eq_true] at h;exact List.findIdx_lt_length_of_exists h
 ·rw [if_neg h]
  have h0 : ds.any id = false := bw
  cases d
  ·rw [if_neg (by rw [List.any_append, h0]; simp)]; rfl
  ·rw [if_pos (by rw [List.any_append]; simp), if_pos rfl, List.findIdx_append, if_neg]
   ·simp
   ·intro h'
    obtain hx := List.findIdx_getElem (w := h');apply h;rw [List.any_eq_true];exact ⟨_, List.getElem_mem h', hx⟩
def Ve (c : Nat) (ar : List Xq) (k : Nat) : List Xq := (ar.take k).map (Ng c) ++ ar.drop k
theorem Zht (c : Nat) (ar : List Xq) (k : Nat) (h : k ≤ ar.length) : (Ve c ar k).length = ar.length := by simp [Ve]; omega
theorem Znw (c : Nat) (ar : List Xq) (k : Nat) (h : k < ar.length) (h' : k < (Ve c ar k).length) : (Ve c ar k)[k] = ar[k] := by
 have h1 : (Ve c ar k)[k]? = some ar[k] := by
  unfold Ve;rw [List.getElem?_append_right af, List.length_map, List.length_take, Nat.min_eq_left (Nat.le_of_lt h), Nat.sub_self, List.getElem?_drop, Nat.add_zero, List.getElem?_eq_getElem h]
 rw [List.getElem?_eq_getElem h'] at h1;exact Option.some.inj h1
theorem Zlk (c : Nat) (ar : List Xq) (k : Nat) (h : k < ar.length) : Ve c ar (k + 1) = (Ve c ar k).set k (Ng c ar[k]) := by
 unfold Ve;rw [List.set_append_right _ _ af, List.take_succ_eq_append_getElem h, List.map_append, List.append_assoc]
 congr 1
 rw [List.length_map, List.length_take, Nat.min_eq_left (Nat.le_of_lt h), Nat.sub_self, List.drop_eq_getElem_cons h];rfl
theorem Kw (ar : List Xq) (k : Nat) (h : k < ar.length) : (Wg ar)[k * 2]? = some (.pointer (some ⟨ar[k].g, 0, none⟩)) ∧ (Wg ar)[k * 2 + 1]? = some (w64 ar[k].x) := by
 induction ar generalizing k with
 | nil => simp at h
 | cons a ar ih =>
  cases k with
  | zero => exact ⟨rfl, rfl⟩
  | succ k =>
   have := ih k bw;rw [show Wg (a :: ar) = a.cells ++ Wg ar from rfl, List.getElem?_append_right eo, List.getElem?_append_right eo];rw [show (k + 1) * 2 - a.cells.length = k * 2 from eo, show (k + 1) * 2 + 1 - a.cells.length = k * 2 + 1 from eo];exact this
theorem Zh1 (ar : List Xq) (k : Nat) (h : k < ar.length) (x : BitVec 64) : (Wg ar).set (k * 2 + 1) (w64 x) = Wg (ar.set k ⟨ar[k].g, ar[k].l, x⟩) := by
 induction ar generalizing k with
 | nil => simp at h
 | cons a ar ih =>
  cases k with
  | zero => rfl
  | succ k =>
   have := ih k bw;rw [List.set_cons_succ, show Wg (a :: ar) = a.cells ++ Wg ar from rfl, List.set_append_right _ _ eo, show (k + 1) * 2 + 1 - a.cells.length = k * 2 + 1 from eo, this];rfl
theorem Zap {w : World} {g b : Nat} {l : List Zm} {t : TypeId} {cs : Array Value} (h : TbT w g l) (hb : Blk w b t cs) (ht : t ≠ 257) : g ≠ b := by
 rintro rfl;obtain ⟨cs', hcs⟩ := h.2;have h3 := hcs.symm.trans hb;injection h3 with h3
 injection h3 with _ h3
 exact ht h3.symm
theorem Yv.fed1 {base b : Nat} {w : World} {ar : List Xq} {fed : Int} (h : Yv base w b ar fed) (f2 : Int) : Yv base (w.setCell ⟨b, 1, none⟩ (.int .i64 f2)) b ar f2 := by
 obtain ⟨h0, ⟨A, c, hk, ho⟩, ht⟩ := h;have hne : (Value.slice A ar.length c).ownBlock ≠ some b := Vl hk ho ac;refine ⟨h0, ⟨A, c, hk.set 1 _, Yo ho ⟨b, 1, none⟩ _ hne⟩, fun a ha => ⟨?_, (ht a ha).2⟩⟩;have := (ht a ha).1;exact this.keep (Below.heap_setCell w ⟨b, 1, none⟩ _ a.g (Zap this hk ac)) ah
theorem Yv.setX {base b : Nat} {w : World} {ar : List Xq} {fed : Int} (h : Yv base w b ar fed) (k : Nat) (hk : k < ar.length) (x : BitVec 64) : ∃ g c, w.cell? ⟨b, 0, none⟩ = some (.slice (some ⟨g, 0, none⟩) ar.length c) ∧ g < w.heap.size ∧ base ≤ g ∧ g ≠ b ∧ b < w.heap.size ∧
  w.cell? ⟨g, k * 2, none⟩ = some (.pointer (some ⟨ar[k].g, 0, none⟩)) ∧ w.cell? ⟨g, k * 2 + 1, none⟩ = some (w64 ar[k].x) ∧ w.frozen? ⟨g, k * 2 + 1, none⟩ = false ∧
  Yv base (w.setCell ⟨g, k * 2 + 1, none⟩ (w64 x)) b (ar.set k ⟨ar[k].g, ar[k].l, x⟩) fed := by
 obtain ⟨h0, ⟨A, c, hkb, ho⟩, ht⟩ := h
 obtain ⟨g, rfl, hg⟩ : ∃ g, A = some ⟨g, 0, none⟩ ∧ base ≤ g := by
  rcases ho.2 with ⟨hv, h0⟩ | ⟨g, cap, cur, hv, hb, _⟩
  ·omega
  ·injection hv with h1 _ _; exact ⟨g, h1, hb⟩
 have hne : (Value.slice (some ⟨g, 0, none⟩) ar.length c).ownBlock ≠ some b := Vl hkb ho ac;have hgb : g ≠ b := fun e => hne (by rw [e]; rfl);have hlt := (ho.lt g rfl).2;have hst := ho.stored (k * 2 + 1) (w64 x);refine ⟨g, c, hkb.cell 0, hlt, hg, hgb, hkb.lt, ?_, ?_, ho.frozenAt _, h0, ⟨some ⟨g, 0, none⟩, c, ?_, ?_⟩, ?_⟩
 ·rw [ho.cellAt _ aa]; exact (Kw ar k hk).1
 ·rw [ho.cellAt _ aa]; exact (Kw ar k hk).2
 ·rw [List.length_set]; exact hkb.set_far (Ne.symm hgb)
 ·rw [List.length_set, ← Zh1 ar k hk x]; exact hst.1
 ·have key : ∀ a ∈ ar, TbT (w.setCell ⟨g, k * 2 + 1, none⟩ (w64 x)) a.g a.l ∧ 0 ≤ a.g := by
   intro a ha;obtain ⟨h1, h2⟩ := ht a ha;obtain ⟨cs, hcs⟩ := h1.2;have hn2 : (Value.slice (some ⟨g, 0, none⟩) ar.length c).ownBlock ≠ some a.g := Vl hcs ho ac;exact ⟨h1.keep (Below.heap_setCell w ⟨g, k * 2 + 1, none⟩ _ a.g (fun e => hn2 (by rw [e]; rfl))) ah, h2⟩
  intro a ha;rcases List.mem_or_eq_of_mem_set ha with ha | ha
  ·exact key a ha
  ·subst ha; exact key ar[k] (List.getElem_mem hk)
def TK (w w' : World) : Prop := ∀ (k : Nat) (cs : Array Value) (t : TypeId) (l : Nat × Nat), w.heap[k]? = some (.cells cs t l) → t ≠ 216 → t ≠ 222 → w'.heap[k]? = w.heap[k]?
def AF (w : World) (b k : Nat) : Prop := k = b ∨ ∃ v, w.cell? ⟨b, 0, none⟩ = some v ∧ v.ownBlock = some k
theorem AF.eq {w w' : World} {b : Nat} (h : w'.cell? ⟨b, 0, none⟩ = w.cell? ⟨b, 0, none⟩) (k : Nat) : AF w' b k ↔ AF w b k := by unfold AF; rw [h]
def AK (b : Nat) (w w' : World) : Prop := b < w.heap.size ∧ (∀ k, k < w.heap.size → ¬ AF w b k → w'.heap[k]? = w.heap[k]?) ∧ ∀ k, AF w' b k → AF w b k ∨ w.heap.size ≤ k
def FB (base b : Nat) (w w' : World) : Prop := Below base w w' ∧ TK w w' ∧ AK b w w'
theorem FB.refl (base b : Nat) (w : World) (hb : b < w.heap.size) : FB base b w w := ⟨Below.refl _ _, fun _ _ _ _ _ _ _ => rfl, hb, fun _ _ _ => rfl, fun _ h => .inl h⟩
theorem FB.trans {base b : Nat} {w w1 w2 : World} (h : FB base b w w1) (h2 : Below w1.heap.size w1 w2) (hb : base ≤ w1.heap.size) : FB base b w w2 := by
 have hlt := Nat.lt_of_lt_of_le h.2.2.1 h.1.size;refine ⟨h.1.trans (h2.mono hb), fun k cs t l hk h3 h4 => ?_, h.2.2.1, fun k hk hf => ?_, fun k hf => ?_⟩
 ·have h5 := h.2.1 k cs t l hk h3 h4
  have hlt : k < w1.heap.size := (Array.getElem?_eq_some_iff.1 (h5.trans hk)).1;exact (h2.block k hlt).trans h5
 ·exact (h2.block k (Nat.lt_of_lt_of_le hk h.1.size)).trans (h.2.2.2.1 k hk hf)
 ·exact h.2.2.2.2 k ((AF.eq (World.cell?_of_block (h2.block b hlt)) k).1 hf)
theorem FB.setA {base b : Nat} {w w1 : World} {g i : Nat} {u : Value} (h : FB base b w w1) (hg : base ≤ g) (ht : ∃ (cs : Array Value) (t : TypeId) (l : Nat × Nat), w1.heap[g]? = some (.cells cs t l) ∧ (t = 216 ∨ t = 222))
  (ha : AF w1 b g) (hn : ∀ k, AF (w1.setCell ⟨g, i, none⟩ u) b k → AF w1 b k ∨ w.heap.size ≤ k) : FB base b w (w1.setCell ⟨g, i, none⟩ u) := by
 refine ⟨h.1.setCell hg _, fun k cs t l hk h3 h4 => ?_, h.2.2.1, fun k hk hf => ?_, fun k hf => ?_⟩
 ·have h5 := h.2.1 k cs t l hk h3 h4
  have hne : k ≠ g := by
   rintro rfl;obtain ⟨cs', t', l', h6, h7⟩ := ht;have h8 := h6.symm.trans (h5.trans hk);injection h8 with h8
   injection h8 with _ h8 _
   subst h8;exact h7.elim h3 h4
  exact (Below.heap_setCell w1 ⟨g, i, none⟩ u k hne).trans h5
 ·have hne : k ≠ g := by
   rintro rfl;rcases h.2.2.2.2 k ha with h1 | h1
   ·exact hf h1
   ·omega
  exact (Below.heap_setCell w1 ⟨g, i, none⟩ u k hne).trans (h.2.2.2.1 k hk hf)
 ·rcases hn k hf with h1 | h1
  ·exact h.2.2.2.2 k h1
  ·exact .inr h1
theorem FB.set1 {base b : Nat} {w w1 : World} {u : Value} (h : FB base b w w1) (hg : base ≤ b) (ht : ∃ (cs : Array Value) (t : TypeId) (l : Nat × Nat), w1.heap[b]? = some (.cells cs t l) ∧ (t = 216 ∨ t = 222)) :
  FB base b w (w1.setCell ⟨b, 1, none⟩ u) :=
 h.setA hg ht (.inl rfl) fun k hk => .inl ((AF.eq (World.cell?_setCell_other w1 ⟨b, 1, none⟩ ⟨b, 0, none⟩ u ah) k).1 hk)
theorem FB.setR {base b : Nat} {w w1 : World} {g i n c : Nat} {u : Value} (h : FB base b w w1) (hg : base ≤ g) (ht : ∃ (cs : Array Value) (t : TypeId) (l : Nat × Nat), w1.heap[g]? = some (.cells cs t l) ∧ (t = 216 ∨ t = 222))
  (hne : g ≠ b) (hc : w1.cell? ⟨b, 0, none⟩ = some (.slice (some ⟨g, 0, none⟩) n c)) : FB base b w (w1.setCell ⟨g, i, none⟩ u) :=
 h.setA hg ht (.inr ⟨_, hc, rfl⟩) fun k hk => .inl ((AF.eq (Gn (Ne.symm hne)) k).1 hk)
theorem FB.set0 {base b : Nat} {w w1 : World} {u v0 : Value} (h : FB base b w w1) (hg : base ≤ b) (ht : ∃ (cs : Array Value) (t : TypeId) (l : Nat × Nat), w1.heap[b]? = some (.cells cs t l) ∧ (t = 216 ∨ t = 222))
  (hc : w1.cell? ⟨b, 0, none⟩ = some v0) (hv : ∀ k, u.ownBlock = some k → w.heap.size ≤ k) : FB base b w (w1.setCell ⟨b, 0, none⟩ u) :=
 h.setA hg ht (.inl rfl) fun k hk => by
  rcases hk with hk | ⟨v, h1, h2⟩
  ·exact .inl (.inl hk)
  ·rw [Qw hc] at h1
   injection h1 with h1
   subst h1;exact .inr (hv k h2)
theorem Yv.rowBlk {base b : Nat} {w : World} {ar : List Xq} {fed : Int} (h : Yv base w b ar fed) {g n c : Nat} (hs : w.cell? ⟨b, 0, none⟩ = some (.slice (some ⟨g, 0, none⟩) n c)) :
  ∃ (cs : Array Value) (t : TypeId) (l : Nat × Nat), w.heap[g]? = some (.cells cs t l) ∧ (t = 216 ∨ t = 222) := by
 obtain ⟨-, ⟨A, c0, hk, ho⟩, -⟩ := h;have h1 := (hk.cell 0).symm.trans hs;injection h1 with h1
 injection h1 with h1 _ _
 subst h1;rcases ho.2 with ⟨hv, _⟩ | ⟨g', cap, cur, hv, _, hg, _⟩
 ·cases hv
 ·injection hv with h1 _ _
  injection h1 with h1
  injection h1 with h1
  subst h1;exact ⟨_, _, _, hg, .inr rfl⟩
theorem Yv.blkB {base b : Nat} {w : World} {ar : List Xq} {fed : Int} (h : Yv base w b ar fed) :
  ∃ (cs : Array Value) (t : TypeId) (l : Nat × Nat), w.heap[b]? = some (.cells cs t l) ∧ (t = 216 ∨ t = 222) := by
 obtain ⟨-, ⟨A, c0, hk, ho⟩, -⟩ := h;exact ⟨_, _, _, hk, .inl rfl⟩
theorem Yv.blkLt {base b : Nat} {w : World} {ar : List Xq} {fed : Int} (h : Yv base w b ar fed) : b < w.heap.size := by
 obtain ⟨-, ⟨A, c0, hk, ho⟩, -⟩ := h;exact hk.lt
theorem Kr {P : Program} {f : Nat} {args : Array Value} {v : Value} {B : Nat} {w : World} (hB : B ≤ w.heap.size) (h : ∀ q : BW B w, Calls P f args q.1 fun e w' => e = .returned v ∧ Below q.1.heap.size q.1 w') (q : BW B w) :
  Calls P f args q.1 fun e w'' => e = .returned v ∧ ∃ q' : BW B w, w'' = q'.1 :=
 (h q).mono fun _ w'' ⟨he, hb⟩ => ⟨he, ⟨⟨w'', q.2.trans (hb.mono (Nat.le_trans hB q.2.size))⟩, rfl⟩⟩
theorem N110{P:Prop}(h:P:=by
 injection h3 with h3
 injection h3 with h3 _ _
 injection h3 with h3
 injection h3 with h3 _ _):P:=h
theorem N41{P:Prop}(h:P:=by
 go_wp2_with fail;go_roundw
 case rel => exact ⟨k + 1, aa, aw, by rw [HTAKE.out, HO1.out], by rw [HTAKE.out, HAN.out]; rfl, HN6.1, HN6.2⟩
 case measure => simp [intOf]; omega):P:=h
theorem Zp0 (base b : Nat) (ar : List Xq) (fed : Nat) (c : Nat) (w : World) (h : Yv base w b ar (fed : Int)) (hln : ∀ a ∈ ar, a.l.length ≤ 60) (hn : ar.length ≤ 8) (hf : fed ≤ 1000000) (hc : c < 256) (hbw : base ≤ w.heap.size) :
  Calls Tryz.prog 197 #[.pointer (some ⟨b, 0, none⟩), .int .u8 (c : Int)] w fun e w' =>
   e = .returned (.tuple #[.int .i64 (Wr ((ar.map (Ng c)).map Nh) : Nat), .bool (((ar.map (Ng c)).map Nh).any id)]) ∧ Yv base w' b (ar.map (Ng c)) ((fed + 1 : Nat) : Int) ∧ FB base b w w' := by
 obtain ⟨f2, hf2⟩ := nE (fed + 1);have hf2' : ((fed : Int) + 1) = (f2 : Int) := aa
 rw [hf2];have HLN := hid hln;have hb0 := h.1;obtain ⟨n, hnn⟩ := nE (ar.length);have HN := hid hnn;have HA1 : Hid (Yv base (w.setCell ⟨b, 1, none⟩ (.int .i64 (f2 : Int))) b ar (f2 : Int)) := h.fed1 _;have HB1 : Hid (FB base b w (w.setCell ⟨b, 1, none⟩ (.int .i64 (f2 : Int)))) := (FB.refl base b w h.blkLt).set1 hb0 h.blkB;obtain ⟨-, ⟨A0, c0, hk0, ho0⟩, -⟩ := h;have q1 := cA hk0 1 (fed : Int) rfl;have qf := hk0.frozen 1;have hlt := hk0.lt;clear hk0 ho0 hln hf2;go_enter Tryz.func197, Tryz.ntmps197;go_upto_region 5 with fail;obtain ⟨w1, hw1⟩ := nE (w.setCell ⟨b, 1, none⟩ (.int .i64 (f2 : Int)));rw [hw1] at HA1 HB1 ⊢;clear hw1 q1 qf hlt hf2';obtain ⟨-, ⟨A1, c1, hk1, ho1⟩, -⟩ := HA1.out;rw [hnn] at hk1;have q0 := cA hk1 0 (.slice A1 n c1) rfl;have hlt1 := hk1.lt;clear hk1 ho1;rw [hnn] at hn;clear hnn;go_wp2_with fail
 go_loopw [6, 7, 24] (fun ov fv iv wr => ∃ (k : Nat), k ≤ n ∧ iv = .int .i64 (k : Int) ∧ ov = .int .i64 (Wr ((((Ve c ar k).take k).map Nh)) : Nat) ∧ fv = .bool ((((Ve c ar k).take k).map Nh).any id) ∧ Yv base wr b (Ve c ar k) (f2 : Int) ∧ FB base b w wr) (fun _ _ iv _ => n - (intOf iv).toNat)
 case atStart => exact ⟨0, aa, rfl, rfl, rfl, by simpa [Ve] using HA1.out, HB1.out⟩
 case round =>
  obtain ⟨k, hk, rfl, rfl, rfl, hat, hb⟩ := hrel;have HAT := hid hat; have HB := hid hb;clear hat hb HA1 HB1 q0 hlt1;by_cases hlt : k < n
  ·have hkl : k < ar.length := by rw [HN.out]; exact hlt
   have hfl : (Ve c ar k).length = n := by rw [Zht c ar k aa, HN.out]
   have hkf : k < (Ve c ar k).length := aa
   obtain ⟨g, c5, p0, p1, p2, p3, p4, p5, p6, p7, p8⟩ := HAT.setX k hkf (Zdj (ar[k]'hkl).l (ar[k]'hkl).x c);have hget := Znw c ar k hkl hkf;rw [hfl] at p0;rw [hget] at p5 p6 p8;have hsu := Zlk c ar k hkl
   have HTK : Hid (TbT wr (ar[k]'hkl).g (ar[k]'hkl).l) := by
    have := (HAT.2.2 _ (List.getElem_mem hkf)).1;rwa [hget] at this
   have HLK := hid (HLN.out _ (List.getElem_mem hkl))
   have HTAKE : Hid (((Ve c ar (k + 1)).take (k + 1)).map Nh = ((Ve c ar k).take k).map Nh ++ [Nh (Ng c (ar[k]'hkl))]) := by
    rw [Hid, hsu, List.take_succ_eq_append_getElem (by rw [List.length_set]; exact hkf), List.map_append, List.take_set_of_le (Nat.le_refl _)];simp
   have HTL : Hid ((((Ve c ar k).take k).map Nh).length = k) := by rw [Hid, List.length_map, List.length_take, hfl]; omega
   have HSU := hid hsu;obtain ⟨⟨ga, la, xa⟩, hxa⟩ : ∃ a, ar[k]'hkl = a := ⟨_, rfl⟩;rw [hxa] at p5 p6 p8 hsu HTK HLK HTAKE HSU;simp only at p5 p6 p8 HTK HLK;obtain ⟨z, hz⟩ := nE (Zdj la xa c);rw [hz] at p8;have HZ := hid hz;have HDN : Hid (Nh (Ng c ⟨ga, la, xa⟩) = Mj la z) := by rw [Hid, ← hz]; rfl
   have HSUZ : Hid (Ve c ar (k + 1) = (Ve c ar k).set k ⟨ga, la, z⟩) := by rw [Hid, hsu, ← hz]; rfl
   have HSETX : Hid (∀ W, Yv base W b (Ve c ar k) (f2 : Int) → ∃ g6 c6, W.cell? ⟨b, 0, none⟩ = some (.slice (some ⟨g6, 0, none⟩) n c6) ∧ g6 < W.heap.size ∧ base ≤ g6 ∧ g6 ≠ b ∧ b < W.heap.size ∧
     W.cell? ⟨g6, k * 2, none⟩ = some (.pointer (some ⟨ga, 0, none⟩)) ∧ W.cell? ⟨g6, k * 2 + 1, none⟩ = some (w64 xa) ∧ W.frozen? ⟨g6, k * 2 + 1, none⟩ = false ∧
     Yv base (W.setCell ⟨g6, k * 2 + 1, none⟩ (w64 z)) b (Ve c ar (k + 1)) (f2 : Int)) := by
    intro W hW;have h1 := hW.setX k hkf z;rw [hget, hxa, hfl] at h1;rw [HSUZ.out];exact h1
   have HSX5 : Hid (∀ W, Yv base W b (Ve c ar (k + 1)) (f2 : Int) → ∃ g7 c7, W.cell? ⟨b, 0, none⟩ = some (.slice (some ⟨g7, 0, none⟩) n c7) ∧ g7 < W.heap.size ∧
     W.cell? ⟨g7, k * 2, none⟩ = some (.pointer (some ⟨ga, 0, none⟩)) ∧ W.cell? ⟨g7, k * 2 + 1, none⟩ = some (w64 z) ∧ TbT W ga la) := by
    intro W hW;have hkf2 : k < (Ve c ar (k + 1)).length := by rw [HSUZ.out, List.length_set]; exact hkf
    have hg2 : (Ve c ar (k + 1))[k]'hkf2 = ⟨ga, la, z⟩ := by
     have h1 : (Ve c ar (k + 1))[k]? = some ⟨ga, la, z⟩ := by rw [HSUZ.out, List.getElem?_set_self hkf]
     rw [List.getElem?_eq_getElem hkf2] at h1;exact Option.some.inj h1
    have hfl2 : (Ve c ar (k + 1)).length = n := by rw [HSUZ.out, List.length_set]; exact hfl
    obtain ⟨g7, c7, a0, a1, -, -, -, a5, a6, -, -⟩ := hW.setX k hkf2 z;have a9 := (hW.2.2 _ (List.getElem_mem hkf2)).1;rw [hg2] at a5 a6 a9;rw [hfl2] at a0;exact ⟨g7, c7, a0, a1, a5, a6, a9⟩
   obtain ⟨ds, hds⟩ := nE (((Ve c ar k).take k).map Nh);rw [hds] at HTAKE HTL ⊢;rw [HDN.out] at HTAKE;have HT1 := hid (Zmn ds (Mj la z));have HAN : Hid ((ds ++ [Mj la z]).any id = (ds.any id || Mj la z)) := by rw [Hid, List.any_append]; simp
   have HTF : Hid (ds.any id = false → Wr ds = 0) := fun h => by rw [Wr, if_neg (by rw [h]; decide)]
   obtain ⟨fnd, hfnd⟩ := nE (ds.any id);obtain ⟨o, ho⟩ := nE (Wr ds);rw [hfnd] at HT1 HAN HTF ⊢;rw [ho] at HT1 HTF ⊢;have hz' := hid hz;clear hxa hsu hget hds hfnd ho HDN HSU p7 p8 hz hkl hkf hfl
   have CS : Hid (∀ W, Below wr.heap.size wr W → Calls Tryz.prog 213 #[.pointer (some ⟨ga, 0, none⟩), w64 xa, .int .u8 (c : Int)] W fun e w' => e = .returned (w64 z) ∧ Below W.heap.size W w') := by
    intro W hW;have h1 := Zot ga la xa c W HLK.out hc (HTK.keep (hW.block ga HTK.1.1) hW.size).1;rwa [hz'.out] at h1
   go_wp2_with fail;refine Zx (.val 0 (.val 1 (.val 2 (.val 3 (.val 5 (.val 6 (.val 7 (.val 9 (.two 4 (.op 8 (.op 10 (.val 11 (.val 12 (.op 13 (.nil)))))) 8 (.op 4 (.op 10 (.val 11 (.val 12 (.op 13 (.nil))))))))))))))) ab ab ?_;obtain ⟨w3, hw3⟩ := nE (wr.drewN 1);have HD3 := db hw3;have HAT3 : Hid (Yv base w3 b (Ve c ar k) (f2 : Int)) := HAT.below HD3.out;have HB3 : Hid (FB base b w w3) := HB.trans HD3.out (Nat.le_trans hbw HB.1.size);have r5 : w3.cell? ⟨g, k * 2, none⟩ = some (.pointer (some ⟨ga, 0, none⟩)) := (World.cell?_of_block (HD3.block g p1)).trans p5;have r6 : w3.cell? ⟨g, k * 2 + 1, none⟩ = some (w64 xa) := (World.cell?_of_block (HD3.block g p1)).trans p6;have r1 : g < w3.heap.size := Nat.lt_of_lt_of_le p1 HD3.size;have HC3 := hid (CS.out w3 HD3.out);rw [hw3];have HP0 := hid p0; have HP4 := hid p4;clear hw3 p5 p6 p0 p4 HAT HB CS
   iterate 8 (refine Zb rfl ?_; go_big_quiet_step (fail); refine wpQuiet_nil ?_)
   refine Zj rfl rfl ?_ ?_
   focus
    skip
   rotate_left 1
   focus
    skip
   all_goals
    go_wp2_with fail;refine Zc rfl ?_;go_wp2_with fail;refine Zc rfl ?_;go_wp2_with fail;refine HC3.mono ?_;rintro en w4 ⟨rfl, hb4⟩;have HAT4 := hid (HAT3.below hb4);have HB4 : Hid (FB base b w w4) := HB3.trans hb4 (by have := HB3.1.size; omega)
    have HTK4 : Hid (TbT w4 ga la) := by
     have h1 := (HD3.trans (hb4.mono HD3.size));exact HTK.keep (h1.block ga HTK.1.1) h1.size
    have hset := HSETX.out w4 HAT4.out;obtain ⟨g6, c6, s0, s1, s2, s3, s4, s5, s6, s7, s8⟩ := hset
    have hgg : g6 = g := by
     have h1 := s0;have h2 : w4.cell? ⟨b, 0, none⟩ = some (.slice (some ⟨g, 0, none⟩) n c5) := (World.cell?_of_block ((HD3.trans (hb4.mono HD3.size)).block b HP4.out)).trans HP0.out;have h3 := h1.symm.trans h2;exact N110
    subst hgg;have HS8 := hid s8;have HS0 := hid s0;clear s8 s0 hb4 HC3 r5 r6 r1;go_wp2_with fail
    iterate 2 (refine Zb rfl ?_; go_big_quiet_step (fail); refine wpQuiet_nil ?_)
    refine Zc rfl ?_;go_wp2_with fail;refine Yi ?_;obtain ⟨w5, hw5⟩ := nE (w4.setCell ⟨g6, k * 2 + 1, none⟩ (w64 z));have HA5 : Hid (Yv base w5 b (Ve c ar (k + 1)) (f2 : Int)) := hw5 ▸ HS8.out;have HB5 : Hid (FB base b w w5) := hw5 ▸ HB4.setR s2 (HAT4.rowBlk HS0.out) s3 HS0.out;have u0 : w5.cell? ⟨b, 0, none⟩ = some (.slice (some ⟨g6, 0, none⟩) n c6) := hw5 ▸ (World.cell?_of_block (Below.heap_setCell w4 ⟨g6, k * 2 + 1, none⟩ _ b (fun e => s3 e.symm))).trans HS0.out;obtain ⟨g7, c7, a0, a1, a5, a6, a9⟩ := HSX5.out w5 HA5.out
    have hg7 : g7 = g6 := by
     have h3 := a0.symm.trans u0;exact N110
    rw [hg7] at a0 a1 a5 a6;have HT5 := hid a9;rw [hw5];clear hw5 hg7 a0 u0 s1 s2 s4 s5 s6 s7 HS8 HS0 HAT4 HB4 HAT3 HB3 HTK4 HTK HD3 HSETX HSX5 p1 p2 HP0 HP4 a9;have T5 : ∀ q : BW w5.heap.size w5, q.1.cell? ⟨g6, k * 2, none⟩ = some (.pointer (some ⟨ga, 0, none⟩)) := fun q => q.cellAt a1 a5;have T6 : ∀ q : BW w5.heap.size w5, q.1.cell? ⟨g6, k * 2 + 1, none⟩ = some (w64 z) := fun q => q.cellAt a1 a6;have T7 : ∀ q : BW w5.heap.size w5, g6 < q.1.heap.size := fun q => Nat.lt_of_lt_of_le a1 q.2.size;have CD := hid (fun (q : BW w5.heap.size w5) => Zp3 ga la z q.1 HLK.out (HT5.keep (q.2.block ga HT5.1.1) q.2.size).1);have HNE : Hid (∀ w6, Below w5.heap.size w5 w6 → Yv base w6 b (Ve c ar (k + 1)) (f2 : Int) ∧ FB base b w w6) := fun w6 h6 => ⟨HA5.below h6, HB5.trans h6 (Nat.le_trans hbw HB5.1.size)⟩;cases fnd
    ·skip
     obtain ⟨d, hd⟩ := nE (Mj la z);rw [hd] at CD HT1 HAN HTAKE;go_wp2_with fail;refine Zh w5.heap.size ab ab ?_
     repeat (go_big_quiet_step ((go_at_call 214; exact Kr (Nat.le_refl _) CD.out _)))
     refine wpQuiet_nil ?_;intro w6 hq6;have hb6 : Below w5.heap.size w5 w6 := by obtain ⟨q, rfl⟩ := hq6; exact q.2
     have HN6 := hid (HNE.out w6 hb6);clear hq6 hb6 T5 T6 T7 CD HNE a1 a5 a6 HA5 HB5 HT5 hd;cases d
     ·have HO1 : Hid (Wr (ds ++ [false]) = o) := by rw [Hid, HT1.out, if_neg ac, if_neg ac, HTF.out fq]
      exact N41
     ·have HO1 : Hid (Wr (ds ++ [true]) = k) := by rw [Hid, HT1.out, if_neg ac, if_pos rfl, HTL.out]
      exact N41
    ·have HO1 : Hid (Wr (ds ++ [Mj la z]) = o) := by rw [Hid, HT1.out, if_pos rfl]
     go_wp2_with fail
     go_quiet (fail)
     have HN6 := hid (HNE.out (w5.drewN nq) (Zq w5 nq));clear T5 T6 T7 CD HNE a1 a5 a6 HA5 HB5 HT5;exact N41
  ·have hkn : k = n := by omega
   have HFE : Hid (Ve c ar k = ar.map (Ng c)) := by
    rw [Hid, Ve, List.take_of_length_le bz, List.drop_of_length_le bz, List.append_nil]
   have HTE : Hid ((Ve c ar k).take k = ar.map (Ng c)) := by
    rw [Hid, HFE.out, List.take_of_length_le (by rw [List.length_map, HN.out]; omega)]
   go_wp2_with fail
   go_ret2
   exact ⟨by rw [← HTE.out]; rfl, by rw [← HFE.out]; exact HAT.out, HB.out⟩
theorem Znv (c : Int) (w : World) : Calls Tryz.prog 197 #[.pointer none, .int .u8 c] w fun e w' => e = .returned (.tuple #[.int .i64 0, .bool false]) ∧ w = w' := by
 go_enter Tryz.func197, Tryz.ntmps197
 go_wp2
 go_ret2
 exact ⟨rfl, rfl⟩
theorem Zkp (w : World) : Calls Tryz.prog 198 #[.pointer none] w fun e w' => e = .returned (.tuple #[]) ∧ w = w' := by
 go_enter Tryz.func198, Tryz.ntmps198
 go_wp2
 first | (refine bodyPost_ret (results_none rfl _ _ _) rfl ?_) | go_end0
 exact ⟨rfl, rfl⟩
end Go.Proofs.YtpkkfdmhbbipoaaGreat
