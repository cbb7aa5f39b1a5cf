/- Walks: the same patterns, to which nothing was fed (fresh). Plain: several patterns at once. Walks: what is found first, by several patterns (the program's and the reference's); Reset. -/
import Derived.Test.YtpkkfdmhbbipoaaGreatMl
import Derived.Test.YtpkkfdmhbbipoaaGreatMm
import Derived.Test.YtpkkfdmhbbipoaaGreatMn
namespace Go.Proofs.YtpkkfdmhbbipoaaGreat
set_option maxRecDepth 20000
set_option maxHeartbeats 8000000
open Go.RowKit PopT
def Xy (a : Xq) : Xq := ⟨a.g, a.l, Wy a.l⟩
theorem Znt (base b : Nat) (ar : List Xq) (fed : Int) (w : World) (h : Yv base w b ar fed) (hln : ∀ a ∈ ar, a.l.length ≤ 60) (hn : ar.length ≤ 8) :
  Calls Tryz.prog 215 #[.pointer (some ⟨b, 0, none⟩)] w fun e w' => e = .returned (.pointer (some ⟨w.heap.size, 0, none⟩)) ∧ Yv w.heap.size w' w.heap.size (ar.map Xy) 0 ∧ Below w.heap.size w w' := by
 have HLN := hid hln;obtain ⟨n, hnn⟩ := nE (ar.length);have HN := hid hnn;obtain ⟨-, ⟨A0, c0, hk0, ho0⟩, ht0⟩ := h;rw [hnn] at hk0 ho0;have HT0 := hid ht0;have HRD := hid (Xw ho0);have q0 : (w.alloc (.cells #[.slice none 0 0, .int .i64 0] 216)).cell? ⟨b, 0, none⟩ = some (.slice A0 n c0) := (hk0.alloc _).cell 0;have hlt0 : b < (w.alloc (.cells #[.slice none 0 0, .int .i64 0] 216)).heap.size := (hk0.alloc _).lt
 have HA0 : Hid (Yv w.heap.size (w.alloc (.cells #[.slice none 0 0, .int .i64 0] 216)) w.heap.size [] 0) :=
  ⟨Nat.le_refl _, ⟨none, 0, Blk.new w _ _, ⟨rfl, .inl ⟨rfl, rfl⟩⟩⟩, fun a ha => by cases ha⟩
 have HB0 : Hid (Below w.heap.size w (w.alloc (.cells #[.slice none 0 0, .int .i64 0] 216))) := (Below.refl _ _).alloc (Nat.le_refl _) _;clear hk0 ho0 ht0 hln;rw [hnn] at hn;clear hnn;go_enter Tryz.func215, Tryz.ntmps215;go_wp2_with fail
 go_loopw [13] (fun iv wr => ∃ (k : Nat), k ≤ n ∧ iv = .int .i64 (k : Int) ∧ Yv w.heap.size wr w.heap.size ((ar.take k).map Xy) 0 ∧ Below w.heap.size w wr) (fun iv _ => n - (intOf iv).toNat)
 case atStart => exact ⟨0, aa, rfl, HA0.out, HB0.out⟩
 case round =>
  obtain ⟨k, hk, rfl, hat, hb⟩ := hrel;have HAT := hid hat; have HB := hid hb;clear hat hb HA0 HB0 q0 hlt0;by_cases hlt : k < n
  ·have HK : Hid (k < ar.length) := by rw [Hid, HN.out]; exact hlt
   obtain ⟨b1, off1, rfl, hbl, hc⟩ := (HRD.below HB.out).at (by rw [Zei, HN.out]; omega);have d0 : wr.cell? ⟨b1, off1 + k * 2, none⟩ = some (.pointer (some ⟨(ar[k]'HK.out).g, 0, none⟩)) := hc (k * 2) _ (Kw ar k HK.out).1;have d1 : wr.cell? ⟨b1, off1 + k * 2 + 1, none⟩ = some (w64 (ar[k]'HK.out).x) := by have := hc (k * 2 + 1) _ (Kw ar k HK.out).2; rwa [← Nat.add_assoc] at this
   have HTK : Hid (TbT wr (ar[k]'HK.out).g (ar[k]'HK.out).l) := by
    have h1 := (HT0.out _ (List.getElem_mem HK.out)).1;exact h1.keep (HB.block _ h1.1.1) HB.size
   have HLK := hid (HLN.out _ (List.getElem_mem HK.out));have HE : Hid ((ar.take (k + 1)).map Xy = (ar.take k).map Xy ++ [Xy (ar[k]'HK.out)]) := by rw [Hid, List.take_succ_eq_append_getElem HK.out, List.map_append]; rfl
   obtain ⟨⟨g, l, x0⟩, hxa⟩ : ∃ a, ar[k]'HK.out = a := ⟨_, rfl⟩;rw [hxa] at d0 d1 HTK HLK HE;simp only at d0 d1 HTK HLK;have hln : l.length ≤ 60 := HLK.out;have HAL : Hid (((ar.take k).map Xy).length = k) := by rw [Hid, List.length_map, List.length_take, HN.out]; omega
   obtain ⟨fr, hfr⟩ := nE ((ar.take k).map Xy);rw [hfr] at HAT HE HAL;clear hxa hc hfr HLK;go_upto_region 5 with fail;obtain ⟨w2, hw2⟩ := nE (wr.alloc (.cells #[.pointer (some ⟨g, 0, none⟩), w64 x0] 222));have HT : Hid (TbT w2 g l) := hw2 ▸ HTK.keep (Below.heap_alloc wr _ g HTK.1.1) ah;have HAT2 : Hid (Yv w.heap.size w2 w.heap.size fr 0) := hw2 ▸ HAT.below ((Below.refl _ _).alloc (Nat.le_refl _) _);have HB2 : Hid (Below w.heap.size w w2) := hw2 ▸ HB.alloc HB.size _;have HM := bn hw2;obtain ⟨B, hB⟩ := nE (wr.heap.size);have hBw : w.heap.size ≤ B := by have := HB.size; omega
   rw [hB] at HM;rw [hw2];simp only [hB];clear hw2 HTK HAT HB d0 d1 hB;obtain ⟨hbb, ⟨A2, c2, hk2, ho2⟩, htb⟩ := HAT2.out;rw [HAL.out] at hk2 ho2;have HK2 := hid hk2; have HO2 := hid ho2; have HTB := hid htb;have q0 := cA hk2 0 (.slice A2 k c2) rfl;have f0 := hk2.frozen 0;have hlt2 := hk2.lt;have HNB : Hid ((Value.slice A2 k c2).ownBlock ≠ some w.heap.size) := Vl hk2 ho2 ac;have HS := hid (fun (n : Nat) => Ze9 g l (w2.drewN n) hln (HT.1.drewN n));clear hbb hk2 ho2 htb HAT2;refine Zx (.val 0 (.val 1 (.val 2 (.val 3 (.val 5 (.val 7 (.three 4 (.two 6 (.op 8 (.op 9 (.val 10 (.op 11 (.op 12 (.val 13 (.val 14 (.op 15 (.nil))))))))) 8 (.two 6 (.op 9 (.val 10 (.op 11 (.op 12 (.val 13 (.val 14 (.op 15 (.nil)))))))) 9 (.op 6 (.val 10 (.op 11 (.op 12 (.val 13 (.val 14 (.op 15 (.nil)))))))))) 6 (.two 4 (.op 8 (.op 9 (.val 10 (.op 11 (.op 12 (.val 13 (.val 14 (.op 15 (.nil))))))))) 8 (.two 4 (.op 9 (.val 10 (.op 11 (.op 12 (.val 13 (.val 14 (.op 15 (.nil)))))))) 9 (.val 10 (.two 4 (.op 11 (.op 12 (.val 13 (.val 14 (.op 15 (.nil)))))) 11 (.op 4 (.op 12 (.val 13 (.val 14 (.op 15 (.nil)))))))))) 8 (.three 4 (.two 6 (.op 9 (.val 10 (.op 11 (.op 12 (.val 13 (.val 14 (.op 15 (.nil)))))))) 9 (.op 6 (.val 10 (.op 11 (.op 12 (.val 13 (.val 14 (.op 15 (.nil))))))))) 6 (.two 4 (.op 9 (.val 10 (.op 11 (.op 12 (.val 13 (.val 14 (.op 15 (.nil)))))))) 9 (.val 10 (.two 4 (.op 11 (.op 12 (.val 13 (.val 14 (.op 15 (.nil)))))) 11 (.op 4 (.op 12 (.val 13 (.val 14 (.op 15 (.nil))))))))) 9 (.two 4 (.op 6 (.val 10 (.op 11 (.op 12 (.val 13 (.val 14 (.op 15 (.nil)))))))) 6 (.val 10 (.two 4 (.op 11 (.op 12 (.val 13 (.val 14 (.op 15 (.nil)))))) 11 (.op 4 (.op 12 (.val 13 (.val 14 (.op 15 (.nil))))))))))))))))) ab ab ?_;obtain ⟨w3, hw3⟩ := nE (w2.drewN 1);have HK3 : Hid (Blk w3 w.heap.size 216 #[.slice A2 k c2, .int .i64 0]) := hw3 ▸ HK2.out;have HO3 : Hid (w3.ownsRow w.heap.size 222 2 (.slice A2 k c2) k (Wg fr)) := hw3 ▸ HO2.out;have HM3 : Hid (Blk w3 B 222 #[.pointer (some ⟨g, 0, none⟩), w64 x0]) := hw3 ▸ HM.out
   have HTB3 : Hid (∀ a ∈ fr ++ [Xy ⟨g, l, x0⟩], TbT w3 a.g a.l ∧ 0 ≤ a.g) := by
    exact N52
   have HB3 : Hid (Below w.heap.size w w3) := hw3 ▸ HB2.trans ((Zq w2 1).mono HB2.size);have HS3 : Hid (Calls Tryz.prog 193 #[.pointer (some ⟨g, 0, none⟩)] w3 fun e w' => e = .returned (w64 (Wy l)) ∧ w3 = w') := hw3 ▸ HS.out 1;rw [hw3];clear hw3 HK2 HO2 HTB HT HB2 HS q0 f0 hlt2 HM;obtain ⟨x, hx⟩ := nE (Wy l);rw [hx] at HS3;have HX := hid hx;clear hx;have q0 := cA HK3.out 0 (.slice A2 k c2) rfl;have d0 := cA HM3.out 0 (.pointer (some ⟨g, 0, none⟩)) rfl;have hltB := HM3.lt;have hlt3 := HK3.lt;have q0' : (w3.alloc (.cells #[.pointer (some ⟨g, 0, none⟩), w64 x] 222)).cell? ⟨w.heap.size, 0, none⟩ = some (.slice A2 k c2) := (HK3.alloc _).cell 0;have hs3 : w.heap.size ≤ w3.heap.size := aa
   clear HM3
   iterate 6 (refine Zb rfl ?_; go_big_quiet_step (fail); refine wpQuiet_nil ?_)
   refine Jd rfl rfl rfl ?_ ?_ ?_
   focus
    go_wp2_with fail;refine Zj rfl rfl ?_ ?_
    focus
     go_wp2_with fail;refine Zc rfl ?_;go_wp2_with fail;refine Zc rfl ?_;go_wp2_with fail;refine HS3.mono ?_;rintro en w4 ⟨rfl, rfl⟩;go_wp2_with fail;refine Zb rfl ?_
     go_big_quiet_step (fail)
     refine wpQuiet_nil ?_
    rotate_left 1
    focus
     go_wp2_with fail;refine Zj rfl rfl ?_ ?_
     focus
      go_wp2_with fail;refine Zc rfl ?_;go_wp2_with fail;refine HS3.mono ?_;rintro en w4 ⟨rfl, rfl⟩;go_wp2_with fail;refine Zb rfl ?_
      go_big_quiet_step (fail)
      refine wpQuiet_nil ?_
     rotate_left 1
     focus
      go_wp2_with fail;refine HS3.mono ?_;rintro en w4 ⟨rfl, rfl⟩;go_wp2_with fail;refine Zc rfl ?_;go_wp2_with fail;refine Zb rfl ?_
      go_big_quiet_step (fail)
      refine wpQuiet_nil ?_
   rotate_left 3
   focus
    go_wp2_with fail;refine Zj rfl rfl ?_ ?_
    focus
     go_wp2_with fail;refine Zc rfl ?_;go_wp2_with fail;refine Zc rfl ?_;go_wp2_with fail;refine HS3.mono ?_;rintro en w4 ⟨rfl, rfl⟩;go_wp2_with fail;refine Zb rfl ?_
     go_big_quiet_step (fail)
     refine wpQuiet_nil ?_
    rotate_left 1
    focus
     go_wp2_with fail;refine Zj rfl rfl ?_ ?_
     focus
      go_wp2_with fail;refine Zc rfl ?_;go_wp2_with fail;refine HS3.mono ?_;rintro en w4 ⟨rfl, rfl⟩;go_wp2_with fail;refine Zb rfl ?_
      go_big_quiet_step (fail)
      refine wpQuiet_nil ?_
     rotate_left 1
     focus
      go_wp2_with fail;refine HS3.mono ?_;rintro en w4 ⟨rfl, rfl⟩;go_wp2_with fail;refine Zb rfl ?_
      go_big_quiet_step (fail)
      refine wpQuiet_nil ?_;refine Zj rfl rfl ?_ ?_
      focus
       go_wp2_with fail
      rotate_left 1
      focus
       go_wp2_with fail
   rotate_left 4
   focus
    go_wp2_with fail;refine Jd rfl rfl rfl ?_ ?_ ?_
    focus
     go_wp2_with fail;refine Zj rfl rfl ?_ ?_
     focus
      go_wp2_with fail;refine Zc rfl ?_;go_wp2_with fail;refine HS3.mono ?_;rintro en w4 ⟨rfl, rfl⟩;go_wp2_with fail;refine Zb rfl ?_
      go_big_quiet_step (fail)
      refine wpQuiet_nil ?_
     rotate_left 1
     focus
      go_wp2_with fail;refine HS3.mono ?_;rintro en w4 ⟨rfl, rfl⟩;go_wp2_with fail;refine Zc rfl ?_;go_wp2_with fail;refine Zb rfl ?_
      go_big_quiet_step (fail)
      refine wpQuiet_nil ?_
    rotate_left 2
    focus
     go_wp2_with fail;refine Zj rfl rfl ?_ ?_
     focus
      go_wp2_with fail;refine Zc rfl ?_;go_wp2_with fail;refine HS3.mono ?_;rintro en w4 ⟨rfl, rfl⟩;go_wp2_with fail;refine Zb rfl ?_
      go_big_quiet_step (fail)
      refine wpQuiet_nil ?_
     rotate_left 1
     focus
      go_wp2_with fail;refine HS3.mono ?_;rintro en w4 ⟨rfl, rfl⟩;go_wp2_with fail;refine Zb rfl ?_
      go_big_quiet_step (fail)
      refine wpQuiet_nil ?_;refine Zj rfl rfl ?_ ?_
      focus
       go_wp2_with fail
      rotate_left 1
      focus
       go_wp2_with fail
    rotate_left 3
    focus
     go_wp2_with fail;refine HS3.mono ?_;rintro en w4 ⟨rfl, rfl⟩;go_wp2_with fail;refine Zj rfl rfl ?_ ?_
     focus
      go_wp2_with fail;refine Zc rfl ?_;go_wp2_with fail;refine Zb rfl ?_
      go_big_quiet_step (fail)
      refine wpQuiet_nil ?_
     rotate_left 1
     focus
      go_wp2_with fail;refine Zb rfl ?_
      go_big_quiet_step (fail)
      refine wpQuiet_nil ?_;refine Zj rfl rfl ?_ ?_
      focus
       go_wp2_with fail
      rotate_left 1
      focus
       go_wp2_with fail
   all_goals
    refine Zc rfl ?_;go_wp2_with fail;refine Zc rfl ?_;go_wp2_with (at_builtin; refine Wb _ rfl _ _ 214 rfl w.heap.size 222 _ 2 16 Tryz.underlying214 Zcv rfl ac _ _ _ rfl HO3.out 1 [.pointer (some ⟨g, 0, none⟩), w64 x] rfl rfl rfl ?_ ac hs3 ?_)
    ·omega
    intro g5 c5 w5 hown5 hk5 hf5;have HK5 := hid (hk5.blk HK3.out HNB.out)
    have hg5 : g5 ≠ w.heap.size := by
     exact N108
    have r0 := cA HK5.out 0 (.slice A2 k c2) rfl;have rf := HK5.frozen 0;have hlt5 := HK5.lt;have hs5 := hk5.size
    have HN5 : Hid (Yv w.heap.size (w5.setCell ⟨w.heap.size, 0, none⟩ (.slice (some ⟨g5, 0, none⟩) (k + 1) c5)) w.heap.size ((ar.take (k + 1)).map Xy) 0) := by
     rw [HE.out];have hlen : (fr ++ [Xy ⟨g, l, x0⟩]).length = k + 1 := jn
     refine ⟨Nat.le_refl _, ⟨some ⟨g5, 0, none⟩, c5, ?_, ?_⟩, ?_⟩
     ·rw [hlen]; exact HK5.set 0 _
     ·rw [hlen, Mn]
      have h := Yo hown5 ⟨w.heap.size, 0, none⟩ (.slice (some ⟨g5, 0, none⟩) (k + 1) c5) gj;simpa [Wg, Xq.cells, Xy, HX.out] using h
     ·exact N33
    have HB5 : Hid (Below w.heap.size w (w5.setCell ⟨w.heap.size, 0, none⟩ (.slice (some ⟨g5, 0, none⟩) (k + 1) c5))) := (HB3.trans (hk5.below hs3 (fun k hk => (HO3.lt k hk).1))).setCell (Nat.le_refl _) _;clear hown5 hk5 hf5;go_wp2_with fail
    iterate 2 (refine Zb rfl ?_; go_big_quiet_step (fail); refine wpQuiet_nil ?_)
    refine Zc rfl ?_;go_wp2_with fail;refine Yi ?_;go_wp2_with fail;go_roundw
    case rel => exact ⟨k + 1, aa, aw, HN5.out, HB5.out⟩
    case measure => simp [intOf]; omega
  ·have hkn : k = n := by omega
   have HE : Hid (ar.map Xy = (ar.take k).map Xy) := by rw [Hid, List.take_of_length_le bz]
   go_wp2_with fail;go_ret;rw [HE.out];exact ⟨rfl, HAT.out, HB.out⟩
def dsM (ls : List (List Zm)) (w : List UInt8) (n : Nat) : List Bool := ls.map fun l => (Vq l w).getD n false
def Zb6 (ls : List (List Zm)) (w : List UInt8) : Int := if (dsM ls w w.length).any id = true then (Wr (dsM ls w w.length) : Int) else -1
theorem Zp1 (l : List Zm) (w m : List UInt8) (j : Nat) (hj : j ≤ w.length) : (Vq l (w ++ m)).getD j false = (Vq l w).getD j false := by
 rw [Bool.eq_iff_iff, Mf l w j hj, Mf l (w ++ m) j af];constructor
 ·rintro ⟨i, hi, hm⟩; exact ⟨i, hi, by rwa [Zl8 w m i j hj] at hm⟩
 ·rintro ⟨i, hi, hm⟩; exact ⟨i, hi, by rwa [Zl8 w m i j hj]⟩
theorem Zq6 (ls : List (List Zm)) (w m : List UInt8) (j : Nat) (hj : j ≤ w.length) : dsM ls (w ++ m) j = dsM ls w j := by
 unfold dsM; refine List.map_congr_left fun l _ => Zp1 l w m j hj
theorem Ziy (ls : List (List Zm)) (w : List UInt8) (n : Nat) (hn : n ≤ w.length) : dsM ls (w.take n) (w.take n).length = dsM ls w n := by
 have hl : (w.take n).length = n := ll
 have := Zq6 ls (w.take n) (w.drop n) n aa;rw [List.take_append_drop] at this;rw [hl, this]
theorem Zqj (ds : List Bool) (j : Nat) (h : ds[j]? = some true) : Wr ds ≤ j := by
 unfold Wr;split
 ·rcases Nat.lt_or_ge j (ds.findIdx id) with hlt | hge
  ·have hj := (List.getElem?_eq_some_iff.1 h).1
   have := List.not_of_lt_findIdx hlt;rw [(List.getElem?_eq_some_iff.1 h).2] at this;simp at this
  ·exact hge
 ·exact Nat.zero_le _
def Zl5 (l : List Zm) : Prop := Kp l = true ∧ Wz l [] = false ∧ l.length ≤ 60
theorem Znf (ps : List ByteArray) : ∀ l ∈ (Uz ps).1, Zl5 l := by
 unfold Uz;by_cases h8 : 8 < ps.length
 ·rw [if_pos h8]; intro l hl; cases hl
 ·rw [if_neg h8]
  have key : ∀ (ps : List ByteArray) (i : Nat) (acc : List (List Zm)), (∀ l ∈ acc, Zl5 l) → ∀ l ∈ (Vz ps i acc).1, Zl5 l := by
   intro ps
   induction ps with
   | nil => intro i acc h; exact h
   | cons p ps ih =>
    intro i acc h;rw [Vz];by_cases he : (Xg p).2.2 ≠ 0
    ·rw [if_pos he]; intro l hl; cases hl
    ·rw [if_neg he]
     by_cases hm : Wz (Xg p).1 [] = true
     ·rw [if_pos hm]; intro l hl; cases hl
     ·rw [if_neg hm]
      refine ih _ _ (fun l hl => ?_);rcases List.mem_append.1 hl with hl | hl
      ·exact h l hl
      ·rw [List.mem_singleton] at hl; subst hl
       exact ⟨Zcs p, by simpa using hm, Gu p⟩
  exact key _ _ _ (fun l hl => by cases hl)
theorem Zpc (ps : List ByteArray) : (Uz ps).1.length ≤ 8 := by
 unfold Uz;by_cases h8 : 8 < ps.length
 ·rw [if_pos h8]; simp
 ·rw [if_neg h8]
  have key : ∀ (ps : List ByteArray) (i : Nat) (acc : List (List Zm)), (Vz ps i acc).1.length ≤ acc.length + ps.length := by
   intro ps
   induction ps with
   | nil => intro i acc; simp [Vz]
   | cons p ps ih =>
    intro i acc;rw [Zak];by_cases he : (Xi p).2.2 ≠ 0
    ·rw [if_pos he]; simp
    ·rw [if_neg he]
     have := ih (i + 1) (acc ++ [(Xi p).1]);simp at this ⊢; omega
  have := key ps 0 [];simp at this; omega
def Qc (bs : List UInt8) (a : Xq) : Xq := bs.foldl (fun a c => Ng c.toNat a) a
theorem Zdn (bs : List UInt8) (c : UInt8) (a : Xq) : Qc (bs ++ [c]) a = Ng c.toNat (Qc bs a) := by unfold Qc; rw [List.foldl_append]; rfl
theorem Nj (bs : List UInt8) (a : Xq) : (Qc bs a).l = a.l ∧ (Qc bs a).g = a.g := by
 unfold Qc
 induction bs generalizing a with
 | nil => exact ⟨rfl, rfl⟩
 | cons c bs ih => rw [List.foldl_cons]; exact ih _
theorem Zi4 (a : Xq) (w : List UInt8) (hg : Kp a.l = true) (n : Nat) (hn : n ≤ w.length) : Zaz a.l w n (Qc (w.take n) (Xy a)).x := by
 induction n with
 | zero => rw [List.take_zero]; exact Zi7 a.l w
 | succ n ih =>
  have hlt : n < w.length := aa
  rw [List.take_succ_eq_append_getElem hlt, Zdn];have h := ih aa;have hl := (Nj (w.take n) (Xy a)).1;obtain ⟨h1, h2⟩ := Ze6 a.l hg;have := Zkl a.l w n _ aa h1 hlt h;rw [show (Ng (w[n]).toNat (Qc (w.take n) (Xy a))).x = Zdj (Qc (w.take n) (Xy a)).l (Qc (w.take n) (Xy a)).x (w[n]).toNat from rfl, hl];exact this
theorem Zki (a : Xq) (w : List UInt8) (hg : Kp a.l = true) (n : Nat) (hn : n ≤ w.length) : Nh (Qc (w.take n) (Xy a)) = (Vq a.l w).getD n false := by
 have hl := (Nj (w.take n) (Xy a)).1;rw [show Nh (Qc (w.take n) (Xy a)) = Mj (Qc (w.take n) (Xy a)).l (Qc (w.take n) (Xy a)).x from rfl, hl];exact Zlq a.l w n _ (by have := (Ze6 a.l hg).2; show a.l.length < 64; omega) hn (Zi4 a w hg n hn)
def Vm (ar : List Xq) (w : List UInt8) (n : Nat) : List Xq := ar.map fun a => Qc (w.take n) (Xy a)
theorem Zd8 (ar : List Xq) (w : List UInt8) : Vm ar w 0 = ar.map Xy := rfl
theorem Zbl (ar : List Xq) (w : List UInt8) (n : Nat) : (Vm ar w n).length = ar.length := by simp [Vm]
theorem Zjz (ar : List Xq) (w : List UInt8) (n : Nat) (h : n < w.length) : (Vm ar w n).map (Ng (w[n]).toNat) = Vm ar w (n + 1) := by
 unfold Vm;rw [List.map_map];refine List.map_congr_left fun a _ => ?_;rw [List.take_succ_eq_append_getElem h, Zdn]; rfl
theorem Zj0 (ar : List Xq) (w : List UInt8) (n : Nat) (hn : n ≤ w.length) (hg : ∀ a ∈ ar, Kp a.l = true) : (Vm ar w n).map Nh = dsM (ar.map Xq.l) w n := by
 unfold Vm dsM;rw [List.map_map, List.map_map];refine List.map_congr_left fun a ha => ?_;exact Zki a w (hg a ha) n hn
theorem Zh0 (ar : List Xq) (w u : List UInt8) (n m : Nat) : Vm (Vm ar w n) u m = Vm ar u m := by
 unfold Vm;rw [List.map_map];refine List.map_congr_left fun a _ => ?_;have h1 := Nj (w.take n) (Xy a);show Qc (u.take m) (Xy (Qc (w.take n) (Xy a))) = _;unfold Xy at h1 ⊢;rw [h1.1, h1.2]
theorem Zkg (ds : List Bool) (k : Nat) (h : (ds.take k).any id = false) (hk : ds[k]? = some true) : ds.any id = true ∧ Wr ds = k := by
 have hany : ds.any id = true := List.any_eq_true.2 ⟨true, List.mem_of_getElem? hk, rfl⟩;refine ⟨hany, ?_⟩;have h1 := Zqj ds k hk;unfold Wr at h1 ⊢;rw [if_pos hany] at h1 ⊢;rcases Nat.lt_or_ge (ds.findIdx id) k with hlt | hge
 ·exfalso
  have hj := (List.getElem?_eq_some_iff.1 hk).1;have hx := List.findIdx_getElem (xs := ds) (p := id) (w := aa);have : (ds.take k).any id = true := List.any_eq_true.2 ⟨_, List.mem_take_iff_getElem.2 ⟨ds.findIdx id, aa, rfl⟩, hx⟩;rw [h] at this; cases this
 ·omega
theorem Zno (base : Nat) (A : Option Addr) (n c : Nat) (vs : List Value) (ls : List (List Zm)) (s : ByteArray) (w : World) (hl : ls.length = n) (hn : n ≤ 8) (hrd : Rd w A vs) (hls : Qb base w ls vs) (hs : s.size ≤ 1000) (hlen : ∀ l ∈ ls, l.length ≤ 60) :
  Calls Tryz.prog 191 #[.slice A n c, s] w fun e w' => e = .returned (.int .i64 (Zb6 ls s.data.toList)) ∧ Below w.heap.size w w' := by
 have HL := hid hl; have HLS := hid hls; have HLEN := hid hlen; have HRD := hid hrd;have HSZ := hid (Zc6 s);obtain ⟨R, hR⟩ := nE (Zb6 ls s.data.toList);have HRR : Hid (Zb6 ls s.data.toList = R) := hR;rw [hR];obtain ⟨ds, hds⟩ := nE (dsM ls s.data.toList s.data.toList.length);have HDS := hid hds;have HDL : Hid (ds.length = n) := by rw [← hds, dsM, List.length_map]; exact hl
 have HRD2 : Hid (R = if ds.any id = true then (Wr ds : Int) else -1) := by rw [Hid, ← hR, Zb6, hds]
 clear hl hls hlen hrd hR hds HRR;go_enter Tryz.func191, Tryz.ntmps191;go_wp2_with fail
 go_loopw [5] (fun iv wr => ∃ (k : Nat), k ≤ n ∧ iv = .int .i64 (k : Int) ∧ (ds.take k).any id = false ∧ Below w.heap.size w wr) (fun iv _ => n - (intOf iv).toNat)
 case atStart => exact ⟨0, aa, rfl, rfl, Below.refl _ _⟩
 case round =>
  obtain ⟨k, hk, rfl, hany, hb⟩ := hrel;have HANY := hid hany; have HB := hid hb;clear hany hb;by_cases hlt : k < n
  ·have HK : Hid (k < ls.length) := by rw [Hid, HL.out]; exact hlt
   have hvl : k < vs.length := by rw [HLS.1, HL.out]; exact hlt
   obtain ⟨A1, c1, hv, ho⟩ := HLS.2 k (ls[k]'HK.out) (List.getElem?_eq_getElem HK.out);obtain ⟨b, off, rfl, hbl, hc⟩ := (HRD.below HB.out).at aa;have d0 := hc k _ hv;have HO := hid (Yc ho HB.out);have HLK := hid (HLEN.out _ (List.getElem_mem HK.out))
   have HDK : Hid (ds[k]? = some ((Vq (ls[k]'HK.out) s.data.toList).getD s.data.toList.length false)) := by
    rw [Hid, ← HDS.out, dsM, List.getElem?_map, List.getElem?_eq_getElem HK.out]; rfl
   obtain ⟨l, hl'⟩ := nE (ls[k]'HK.out);rw [hl'] at d0 HO HLK HDK;obtain ⟨m, hm⟩ := nE (l.length);have HM := hid hm;rw [hm] at d0 HO HLK;have hm60 : m ≤ 60 := HLK.out
   have HZ : Hid (Jy l s.data.toList (s.size : Int) = Qy l s.data.toList s.size) := by
    rw [Hid, Jy, if_pos (by rw [HSZ.out]; omega)]; rfl
   have C1 := hid (Zi6 A1 m c1 l s (s.size : Int) wr HM.out aa (Xw HO.out) aa aa aa);rw [HZ.out] at C1
   have HE : Hid ((Vq l s.data.toList).getD s.data.toList.length false = decide (0 < (Qy l s.data.toList s.size).length)) := by
    rw [Hid, Zjs l _ _ (Nat.le_refl _), HSZ.out]
   obtain ⟨z, hz⟩ := nE ((Qy l s.data.toList s.size).length);rw [hz] at HE C1;clear hl' hv ho hc hm hvl hz;go_wp2_with fail;refine C1.mono ?_;rintro en w1 ⟨A2, c2, rfl, -, hb1⟩;have HB1 := bt HB hb1;clear hb1 C1 HB HO d0 HZ;rw [HE.out] at HDK;by_cases h0 : 0 < z
   ·have HR : Hid (R = (k : Int)) := by
     have h1 := HDK.out;rw [decide_eq_true h0] at h1;obtain ⟨h2, h3⟩ := Zkg ds k HANY.out h1;rw [Hid, HRD2.out, if_pos h2, h3]
    clear HDK HE HRD2;go_wp2_with fail;go_ret;rw [HR.out];exact ⟨rfl, HB1.out⟩
   ·have HA2 : Hid ((ds.take (k + 1)).any id = false) := by
     have h1 := HDK.out;rw [decide_eq_false h0] at h1;obtain ⟨h2, h3⟩ := List.getElem?_eq_some_iff.1 h1;rw [Hid, List.take_succ_eq_append_getElem h2, List.any_append, HANY.out, h3]; rfl
    clear HDK HE;go_wp2_with fail;go_roundw
    case rel => exact ⟨k + 1, aa, aw, HA2.out, HB1.out⟩
    case measure => simp [intOf]; omega
  ·have HR : Hid (R = -1) := by
    have h1 := HANY.out;rw [List.take_of_length_le (by rw [HDL.out]; omega)] at h1;rw [Hid, HRD2.out, if_neg (by rw [h1]; decide)]
   clear HRD2;go_wp2_with fail;go_ret;rw [HR.out];exact ⟨rfl, HB.out⟩
theorem Zmw (base b : Nat) (ar : List Xq) (fed : Int) (w : World) (h : Yv base w b ar fed) (hln : ∀ a ∈ ar, a.l.length ≤ 60) (hn : ar.length ≤ 8) (hbw : base ≤ w.heap.size) :
  Calls Tryz.prog 198 #[.pointer (some ⟨b, 0, none⟩)] w fun e w' => e = .returned (.tuple #[]) ∧ Yv base w' b (ar.map Xy) 0 ∧ FB base b w w' := by
 have C0 := hid (Znt base b ar fed w h hln hn);have HAT := hid h;obtain ⟨hb0, ⟨A0, c0, hk0, ho0⟩, ht0⟩ := h;have hlt0 := hk0.lt;have HB0 := hid hb0;clear hk0 ho0 ht0 hln hb0;obtain ⟨n, hnn⟩ := nE ((ar.map Xy).length);go_enter Tryz.func198, Tryz.ntmps198;go_wp2_with fail;refine C0.mono ?_;rintro en w1 ⟨rfl, hat1, hb1⟩;have HAT1 := hid hat1; have HB1 := hid hb1;obtain ⟨-, ⟨A1, c1, hk1, ho1⟩, ht1⟩ := hat1;have HATB := hid (HAT.below hb1);obtain ⟨-, ⟨A2, c2, hk2, ho2⟩, ht2⟩ := HATB.out;rw [hnn] at hk1 ho1;have HK1 := hid hk1; have HO1 := hid ho1; have HT1 := hid ht1; have HK2 := hid hk2;have q0 := cA hk1 0 (.slice A1 n c1) rfl;have q1 := cA hk1 1 (.int .i64 0) rfl;have r0 := hk2.cell 0;have r1 := hk2.cell 1;have rf0 := hk2.frozen 0;have rf1 := hk2.frozen 1;have hl1 := hk1.lt;have hl2 := hk2.lt;have HNE : Hid (b ≠ w.heap.size) := ei
 clear hk1 ho1 ht1 hk2 ho2 ht2 hb1 C0 hlt0;go_wp2_with fail
 first | (refine bodyPost_ret (results_none rfl _ _ _) rfl ?_) | go_end0
 have hne : (Value.slice A1 n c1).ownBlock ≠ some b := Vl HK2.out HO1.out ac;have hB : FB base b w ((w1.setCell ⟨b, 0, none⟩ (Value.slice A1 n c1)).setCell ⟨b, 1, none⟩ (Value.int IntKind.i64 0)) := (((FB.refl base b w HAT.blkLt).trans HB1.out hbw).set0 HB0.out ⟨_, _, _, HK2.out, .inl rfl⟩ (HK2.cell 0) (fun k hk => (HO1.lt k hk).1)).set1 HB0.out ⟨_, _, _, HK2.set 0 _, .inl rfl⟩;refine ⟨rfl, ⟨HB0.out, ⟨A1, c1, ?_, ?_⟩, fun a ha => ⟨?_, Nat.zero_le _⟩⟩, hB⟩
 ·rw [hnn]; exact (HK2.set 0 _).set 1 _
 ·rw [hnn]
  exact Vi (Yo (Yo HO1.out ⟨b, 0, none⟩ _ hne) ⟨b, 1, none⟩ _ hne) hbw
 ·have h1 := (HT1.out a ha).1
  have h2 := Zap h1 HK2.out ac;have h3 := h1.keep (Below.heap_setCell w1 ⟨b, 0, none⟩ (Value.slice A1 n c1) a.g h2) ah;exact h3.keep (Below.heap_setCell _ ⟨b, 1, none⟩ (Value.int IntKind.i64 0) a.g h2) ah
end Go.Proofs.YtpkkfdmhbbipoaaGreat
