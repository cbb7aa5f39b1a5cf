/- Zp: the same patterns, to which nothing was fed (fresh). Plain: several patterns at once. Zp: what is found first, by several patterns (the program's and the reference's); Reset. -/
import Derived.Test.YtpkkfdmhbbipoaaGreatMl
import Derived.Test.YtpkkfdmhbbipoaaGreatMm
import Derived.Test.YtpkkfdmhbbipoaaGreatMn
namespace Go.Proofs.YtpkkfdmhbbipoaaGreat
set_option maxRecDepth 20000
set_option maxHeartbeats 8000000
open Go.RowKit PopT
def Xs (a : Xh) : Xh := ⟨a.g, a.l, Wp a.l⟩
theorem Znm (base b : Nat) (ar : List Xh) (fed : Int) (w : World) (h : Yp base w b ar fed) (hln : ∀ a ∈ ar, a.l.length ≤ 60) (hn : ar.length ≤ 8) :
  Calls Tryz.prog 215 #[.pointer (some ⟨b, 0, none⟩)] w fun e w' => e = .returned (.pointer (some ⟨w.heap.size, 0, none⟩)) ∧ Yp w.heap.size w' w.heap.size (ar.map Xs) 0 ∧ Below w.heap.size w w' := by
 have HLN := hid hln;obtain ⟨n, hnn⟩ := nE (ar.length);have HN := hid hnn;obtain ⟨-, ⟨A0, c0, hk0, ho0⟩, ht0⟩ := h;rw [hnn] at hk0 ho0;have HT0 := hid ht0;have HRD := hid (Xb ho0);have q0 : (w.alloc (.cells #[.slice none 0 0, .int .i64 0] 216)).cell? ⟨b, 0, none⟩ = some (.slice A0 n c0) := (hk0.alloc _).cell 0;have hlt0 : b < (w.alloc (.cells #[.slice none 0 0, .int .i64 0] 216)).heap.size := (hk0.alloc _).lt
 have HA0 : Hid (Yp w.heap.size (w.alloc (.cells #[.slice none 0 0, .int .i64 0] 216)) w.heap.size [] 0) :=
  ⟨Nat.le_refl _, ⟨none, 0, Blk.new w _ _, ⟨rfl, .inl ⟨rfl, rfl⟩⟩⟩, fun a ha => by cases ha⟩
 have HB0 : Hid (Below w.heap.size w (w.alloc (.cells #[.slice none 0 0, .int .i64 0] 216))) := (Below.refl _ _).alloc (Nat.le_refl _) _;clear hk0 ho0 ht0 hln;rw [hnn] at hn;clear hnn;go_enter Tryz.func215, Tryz.ntmps215;go_wp2_with fail
 go_loopw [13] (fun iv wr => ∃ (k : Nat), k ≤ n ∧ iv = .int .i64 (k : Int) ∧ Yp w.heap.size wr w.heap.size ((ar.take k).map Xs) 0 ∧ Below w.heap.size w wr) (fun iv _ => n - (intOf iv).toNat)
 case atStart => exact ⟨0, aa, rfl, HA0.out, HB0.out⟩
 case round =>
  obtain ⟨k, hk, rfl, hat, hb⟩ := hrel;have HAT := hid hat; have HB := hid hb;clear hat hb HA0 HB0 q0 hlt0;by_cases hlt : k < n
  ·have HK : Hid (k < ar.length) := by rw [Hid, HN.out]; exact hlt
   obtain ⟨b1, off1, rfl, hbl, hc⟩ := (HRD.below HB.out).at (by rw [Zdd, HN.out]; omega);have d0 : wr.cell? ⟨b1, off1 + k * 2, none⟩ = some (.pointer (some ⟨(ar[k]'HK.out).g, 0, none⟩)) := hc (k * 2) _ (Jt ar k HK.out).1;have d1 : wr.cell? ⟨b1, off1 + k * 2 + 1, none⟩ = some (w64 (ar[k]'HK.out).x) := by have := hc (k * 2 + 1) _ (Jt ar k HK.out).2; rwa [← Nat.add_assoc] at this
   have HTK : Hid (TbT wr (ar[k]'HK.out).g (ar[k]'HK.out).l) := by
    have h1 := (HT0.out _ (List.getElem_mem HK.out)).1;exact h1.keep (HB.block _ h1.1.1) HB.size
   have HLK := hid (HLN.out _ (List.getElem_mem HK.out));have HE : Hid ((ar.take (k + 1)).map Xs = (ar.take k).map Xs ++ [Xs (ar[k]'HK.out)]) := by rw [Hid, List.take_succ_eq_append_getElem HK.out, List.map_append]; rfl
   obtain ⟨⟨g, l, x0⟩, hxa⟩ : ∃ a, ar[k]'HK.out = a := ⟨_, rfl⟩;rw [hxa] at d0 d1 HTK HLK HE;simp only at d0 d1 HTK HLK;have hln : l.length ≤ 60 := HLK.out;have HAL : Hid (((ar.take k).map Xs).length = k) := by rw [Hid, List.length_map, List.length_take, HN.out]; omega
   obtain ⟨fr, hfr⟩ := nE ((ar.take k).map Xs);rw [hfr] at HAT HE HAL;clear hxa hc hfr HLK;go_upto_region 5 with fail;obtain ⟨w2, hw2⟩ := nE (wr.alloc (.cells #[.pointer (some ⟨g, 0, none⟩), w64 x0] 222));have HT : Hid (TbT w2 g l) := hw2 ▸ HTK.keep (Below.heap_alloc wr _ g HTK.1.1) ae;have HAT2 : Hid (Yp w.heap.size w2 w.heap.size fr 0) := hw2 ▸ HAT.below ((Below.refl _ _).alloc (Nat.le_refl _) _);have HB2 : Hid (Below w.heap.size w w2) := hw2 ▸ HB.alloc HB.size _;have HM := bn hw2;obtain ⟨B, hB⟩ := nE (wr.heap.size);have hBw : w.heap.size ≤ B := by have := HB.size; omega
   rw [hB] at HM;rw [hw2];simp only [hB];clear hw2 HTK HAT HB d0 d1 hB;obtain ⟨hbb, ⟨A2, c2, hk2, ho2⟩, htb⟩ := HAT2.out;rw [HAL.out] at hk2 ho2;have HK2 := hid hk2; have HO2 := hid ho2; have HTB := hid htb;have q0 := cA hk2 0 (.slice A2 k c2) rfl;have f0 := hk2.frozen 0;have hlt2 := hk2.lt;have HNB : Hid ((Value.slice A2 k c2).ownBlock ≠ some w.heap.size) := Wq hk2 ho2 ac;have HS := hid (fun (n : Nat) => Zd7 g l (w2.drewN n) hln (HT.1.drewN n));clear hbb hk2 ho2 htb HAT2;refine Yl (.val 0 (.val 1 (.val 2 (.val 3 (.val 5 (.val 7 (.three 4 (.two 6 (.op 8 (.op 9 (.val 10 (.op 11 (.op 12 (.val 13 (.val 14 (.op 15 (.nil))))))))) 8 (.two 6 (.op 9 (.val 10 (.op 11 (.op 12 (.val 13 (.val 14 (.op 15 (.nil)))))))) 9 (.op 6 (.val 10 (.op 11 (.op 12 (.val 13 (.val 14 (.op 15 (.nil)))))))))) 6 (.two 4 (.op 8 (.op 9 (.val 10 (.op 11 (.op 12 (.val 13 (.val 14 (.op 15 (.nil))))))))) 8 (.two 4 (.op 9 (.val 10 (.op 11 (.op 12 (.val 13 (.val 14 (.op 15 (.nil)))))))) 9 (.val 10 (.two 4 (.op 11 (.op 12 (.val 13 (.val 14 (.op 15 (.nil)))))) 11 (.op 4 (.op 12 (.val 13 (.val 14 (.op 15 (.nil)))))))))) 8 (.three 4 (.two 6 (.op 9 (.val 10 (.op 11 (.op 12 (.val 13 (.val 14 (.op 15 (.nil)))))))) 9 (.op 6 (.val 10 (.op 11 (.op 12 (.val 13 (.val 14 (.op 15 (.nil))))))))) 6 (.two 4 (.op 9 (.val 10 (.op 11 (.op 12 (.val 13 (.val 14 (.op 15 (.nil)))))))) 9 (.val 10 (.two 4 (.op 11 (.op 12 (.val 13 (.val 14 (.op 15 (.nil)))))) 11 (.op 4 (.op 12 (.val 13 (.val 14 (.op 15 (.nil))))))))) 9 (.two 4 (.op 6 (.val 10 (.op 11 (.op 12 (.val 13 (.val 14 (.op 15 (.nil)))))))) 6 (.val 10 (.two 4 (.op 11 (.op 12 (.val 13 (.val 14 (.op 15 (.nil)))))) 11 (.op 4 (.op 12 (.val 13 (.val 14 (.op 15 (.nil))))))))))))))))) ab ab ?_;obtain ⟨w3, hw3⟩ := nE (w2.drewN 1);have HK3 : Hid (Blk w3 w.heap.size 216 #[.slice A2 k c2, .int .i64 0]) := hw3 ▸ HK2.out;have HO3 : Hid (w3.ownsRow w.heap.size 222 2 (.slice A2 k c2) k (Xx fr)) := hw3 ▸ HO2.out;have HM3 : Hid (Blk w3 B 222 #[.pointer (some ⟨g, 0, none⟩), w64 x0]) := hw3 ▸ HM.out
   have HTB3 : Hid (∀ a ∈ fr ++ [Xs ⟨g, l, x0⟩], TbT w3 a.g a.l ∧ 0 ≤ a.g) := by
    exact J45
   have HB3 : Hid (Below w.heap.size w w3) := hw3 ▸ HB2.trans ((Zs w2 1).mono HB2.size);have HS3 : Hid (Calls Tryz.prog 193 #[.pointer (some ⟨g, 0, none⟩)] w3 fun e w' => e = .returned (w64 (Wp l)) ∧ w3 = w') := hw3 ▸ HS.out 1;rw [hw3];clear hw3 HK2 HO2 HTB HT HB2 HS q0 f0 hlt2 HM;obtain ⟨x, hx⟩ := nE (Wp l);rw [hx] at HS3;have HX := hid hx;clear hx;have q0 := cA HK3.out 0 (.slice A2 k c2) rfl;have d0 := cA HM3.out 0 (.pointer (some ⟨g, 0, none⟩)) rfl;have hltB := HM3.lt;have hlt3 := HK3.lt;have q0' : (w3.alloc (.cells #[.pointer (some ⟨g, 0, none⟩), w64 x] 222)).cell? ⟨w.heap.size, 0, none⟩ = some (.slice A2 k c2) := (HK3.alloc _).cell 0;have hs3 : w.heap.size ≤ w3.heap.size := aa
   clear HM3
   iterate 6 (refine Zd rfl ?_; go_big_quiet_step (fail); refine wpQuiet_nil ?_)
   refine Qc rfl rfl rfl ?_ ?_ ?_
   focus
    go_wp2_with fail;refine Zr rfl rfl ?_ ?_
    focus
     go_wp2_with fail;refine Ze rfl ?_;go_wp2_with fail;refine Ze rfl ?_;go_wp2_with fail;refine HS3.mono ?_;rintro en w4 ⟨rfl, rfl⟩;go_wp2_with fail;refine Zd rfl ?_
     go_big_quiet_step (fail)
     refine wpQuiet_nil ?_
    rotate_left 1
    focus
     go_wp2_with fail;refine Zr rfl rfl ?_ ?_
     focus
      go_wp2_with fail;refine Ze rfl ?_;go_wp2_with fail;refine HS3.mono ?_;rintro en w4 ⟨rfl, rfl⟩;go_wp2_with fail;refine Zd rfl ?_
      go_big_quiet_step (fail)
      refine wpQuiet_nil ?_
     rotate_left 1
     focus
      go_wp2_with fail;refine HS3.mono ?_;rintro en w4 ⟨rfl, rfl⟩;go_wp2_with fail;refine Ze rfl ?_;go_wp2_with fail;refine Zd rfl ?_
      go_big_quiet_step (fail)
      refine wpQuiet_nil ?_
   rotate_left 3
   focus
    go_wp2_with fail;refine Zr rfl rfl ?_ ?_
    focus
     go_wp2_with fail;refine Ze rfl ?_;go_wp2_with fail;refine Ze rfl ?_;go_wp2_with fail;refine HS3.mono ?_;rintro en w4 ⟨rfl, rfl⟩;go_wp2_with fail;refine Zd rfl ?_
     go_big_quiet_step (fail)
     refine wpQuiet_nil ?_
    rotate_left 1
    focus
     go_wp2_with fail;refine Zr rfl rfl ?_ ?_
     focus
      go_wp2_with fail;refine Ze rfl ?_;go_wp2_with fail;refine HS3.mono ?_;rintro en w4 ⟨rfl, rfl⟩;go_wp2_with fail;refine Zd rfl ?_
      go_big_quiet_step (fail)
      refine wpQuiet_nil ?_
     rotate_left 1
     focus
      go_wp2_with fail;refine HS3.mono ?_;rintro en w4 ⟨rfl, rfl⟩;go_wp2_with fail;refine Zd rfl ?_
      go_big_quiet_step (fail)
      refine wpQuiet_nil ?_;refine Zr rfl rfl ?_ ?_
      focus
       go_wp2_with fail
      rotate_left 1
      focus
       go_wp2_with fail
   rotate_left 4
   focus
    go_wp2_with fail;refine Qc rfl rfl rfl ?_ ?_ ?_
    focus
     go_wp2_with fail;refine Zr rfl rfl ?_ ?_
     focus
      go_wp2_with fail;refine Ze rfl ?_;go_wp2_with fail;refine HS3.mono ?_;rintro en w4 ⟨rfl, rfl⟩;go_wp2_with fail;refine Zd rfl ?_
      go_big_quiet_step (fail)
      refine wpQuiet_nil ?_
     rotate_left 1
     focus
      go_wp2_with fail;refine HS3.mono ?_;rintro en w4 ⟨rfl, rfl⟩;go_wp2_with fail;refine Ze rfl ?_;go_wp2_with fail;refine Zd rfl ?_
      go_big_quiet_step (fail)
      refine wpQuiet_nil ?_
    rotate_left 2
    focus
     go_wp2_with fail;refine Zr rfl rfl ?_ ?_
     focus
      go_wp2_with fail;refine Ze rfl ?_;go_wp2_with fail;refine HS3.mono ?_;rintro en w4 ⟨rfl, rfl⟩;go_wp2_with fail;refine Zd rfl ?_
      go_big_quiet_step (fail)
      refine wpQuiet_nil ?_
     rotate_left 1
     focus
      go_wp2_with fail;refine HS3.mono ?_;rintro en w4 ⟨rfl, rfl⟩;go_wp2_with fail;refine Zd rfl ?_
      go_big_quiet_step (fail)
      refine wpQuiet_nil ?_;refine Zr rfl rfl ?_ ?_
      focus
       go_wp2_with fail
      rotate_left 1
      focus
       go_wp2_with fail
    rotate_left 3
    focus
     go_wp2_with fail;refine HS3.mono ?_;rintro en w4 ⟨rfl, rfl⟩;go_wp2_with fail;refine Zr rfl rfl ?_ ?_
     focus
      go_wp2_with fail;refine Ze rfl ?_;go_wp2_with fail;refine Zd rfl ?_
      go_big_quiet_step (fail)
      refine wpQuiet_nil ?_
     rotate_left 1
     focus
      go_wp2_with fail;refine Zd rfl ?_
      go_big_quiet_step (fail)
      refine wpQuiet_nil ?_;refine Zr rfl rfl ?_ ?_
      focus
       go_wp2_with fail
      rotate_left 1
      focus
       go_wp2_with fail
   all_goals
    refine Ze rfl ?_;go_wp2_with fail;refine Ze rfl ?_;go_wp2_with (at_builtin; refine Xf _ rfl _ _ 214 rfl w.heap.size 222 _ 2 16 Tryz.underlying214 Zb2 rfl ac _ _ _ rfl HO3.out 1 [.pointer (some ⟨g, 0, none⟩), w64 x] rfl rfl rfl ?_ ac hs3 ?_)
    ·omega
    intro g5 c5 w5 hown5 hk5 hf5;have HK5 := hid (hk5.blk HK3.out HNB.out)
    have hg5 : g5 ≠ w.heap.size := by
     exact J89
    have r0 := cA HK5.out 0 (.slice A2 k c2) rfl;have rf := HK5.frozen 0;have hlt5 := HK5.lt;have hs5 := hk5.size
    have HN5 : Hid (Yp w.heap.size (w5.setCell ⟨w.heap.size, 0, none⟩ (.slice (some ⟨g5, 0, none⟩) (k + 1) c5)) w.heap.size ((ar.take (k + 1)).map Xs) 0) := by
     rw [HE.out];have hlen : (fr ++ [Xs ⟨g, l, x0⟩]).length = k + 1 := fo
     refine ⟨Nat.le_refl _, ⟨some ⟨g5, 0, none⟩, c5, ?_, ?_⟩, ?_⟩
     ·rw [hlen]; exact HK5.set 0 _
     ·rw [hlen, Ng]
      have h := Yg hown5 ⟨w.heap.size, 0, none⟩ (.slice (some ⟨g5, 0, none⟩) (k + 1) c5) eu;simpa [Xx, Xh.cells, Xs, HX.out] using h
     ·exact J29
    have HB5 : Hid (Below w.heap.size w (w5.setCell ⟨w.heap.size, 0, none⟩ (.slice (some ⟨g5, 0, none⟩) (k + 1) c5))) := (HB3.trans (hk5.below hs3 (fun k hk => (HO3.lt k hk).1))).setCell (Nat.le_refl _) _;clear hown5 hk5 hf5;go_wp2_with fail
    iterate 2 (refine Zd rfl ?_; go_big_quiet_step (fail); refine wpQuiet_nil ?_)
    refine Ze rfl ?_;go_wp2_with fail;refine Xa ?_;go_wp2_with fail;go_roundw
    case rel => exact ⟨k + 1, aa, al, HN5.out, HB5.out⟩
    case measure => simp [intOf]; omega
  ·have hkn : k = n := by omega
   have HE : Hid (ar.map Xs = (ar.take k).map Xs) := by rw [Hid, List.take_of_length_le ax]
   go_wp2_with fail;go_ret;rw [HE.out];exact ⟨rfl, HAT.out, HB.out⟩
def dsM (ls : List (List Zl)) (w : List UInt8) (n : Nat) : List Bool := ls.map fun l => (Qi l w).getD n false
def Zlr (l : List Zl) : Prop := Jl l = true ∧ Vm l [] = false ∧ l.length ≤ 60
theorem Zm5 (ps : List ByteArray) : ∀ l ∈ (Jm ps).1, Zlr l := by
 unfold Jm;by_cases h8 : 8 < ps.length
 ·rw [if_pos h8]; intro l hl; cases hl
 ·rw [if_neg h8]
  have key : ∀ (ps : List ByteArray) (i : Nat) (acc : List (List Zl)), (∀ l ∈ acc, Zlr l) → ∀ l ∈ (Uc ps i acc).1, Zlr l := by
   intro ps
   induction ps with
   | nil => intro i acc h; exact h
   | cons p ps ih =>
    intro i acc h;rw [Uc];by_cases he : (Yw p).2.2 ≠ 0
    ·rw [if_pos he]; intro l hl; cases hl
    ·rw [if_neg he]
     by_cases hm : Vm (Yw p).1 [] = true
     ·rw [if_pos hm]; intro l hl; cases hl
     ·rw [if_neg hm]
      refine ih _ _ (fun l hl => ?_);rcases List.mem_append.1 hl with hl | hl
      ·exact h l hl
      ·rw [List.mem_singleton] at hl; subst hl
       exact ⟨Zbx p, by simpa using hm, Ks p⟩
  exact key _ _ _ (fun l hl => by cases hl)
theorem Zoz (ps : List ByteArray) : (Jm ps).1.length ≤ 8 := by
 unfold Jm;by_cases h8 : 8 < ps.length
 ·rw [if_pos h8]; simp
 ·rw [if_neg h8]
  have key : ∀ (ps : List ByteArray) (i : Nat) (acc : List (List Zl)), (Uc ps i acc).1.length ≤ acc.length + ps.length := by
   intro ps
   induction ps with
   | nil => intro i acc; simp [Uc]
   | cons p ps ih =>
    intro i acc;rw [Zcu];by_cases he : (Xm p).2.2 ≠ 0
    ·rw [if_pos he]; simp
    ·rw [if_neg he]
     have := ih (i + 1) (acc ++ [(Xm p).1]);simp at this ⊢; omega
  have := key ps 0 [];simp at this; omega
def Ud (bs : List UInt8) (a : Xh) : Xh := bs.foldl (fun a c => Ga c.toNat a) a
theorem Zcr (bs : List UInt8) (c : UInt8) (a : Xh) : Ud (bs ++ [c]) a = Ga c.toNat (Ud bs a) := by unfold Ud; rw [List.foldl_append]; rfl
theorem Gd (bs : List UInt8) (a : Xh) : (Ud bs a).l = a.l ∧ (Ud bs a).g = a.g := by
 unfold Ud
 induction bs generalizing a with
 | nil => exact ⟨rfl, rfl⟩
 | cons c bs ih => rw [List.foldl_cons]; exact ih _
theorem Zh5 (a : Xh) (w : List UInt8) (hg : Jl a.l = true) (n : Nat) (hn : n ≤ w.length) : Ms a.l w n (Ud (w.take n) (Xs a)).x := by
 induction n with
 | zero => rw [List.take_zero]; exact Zh7 a.l w
 | succ n ih =>
  have hlt : n < w.length := aa
  rw [List.take_succ_eq_append_getElem hlt, Zcr];have h := ih aa;have hl := (Gd (w.take n) (Xs a)).1;obtain ⟨h1, h2⟩ := Zd2 a.l hg;have := Zjs a.l w n _ aa h1 hlt h;rw [show (Ga (w[n]).toNat (Ud (w.take n) (Xs a))).x = Zcp (Ud (w.take n) (Xs a)).l (Ud (w.take n) (Xs a)).x (w[n]).toNat from rfl, hl];exact this
theorem Zjo (a : Xh) (w : List UInt8) (hg : Jl a.l = true) (n : Nat) (hn : n ≤ w.length) : Gb (Ud (w.take n) (Xs a)) = (Qi a.l w).getD n false := by
 have hl := (Gd (w.take n) (Xs a)).1;rw [show Gb (Ud (w.take n) (Xs a)) = Nc (Ud (w.take n) (Xs a)).l (Ud (w.take n) (Xs a)).x from rfl, hl];exact Zk6 a.l w n _ (by have := (Zd2 a.l hg).2; show a.l.length < 64; omega) hn (Zh5 a w hg n hn)
def Vb (ar : List Xh) (w : List UInt8) (n : Nat) : List Xh := ar.map fun a => Ud (w.take n) (Xs a)
theorem Zc3 (ar : List Xh) (w : List UInt8) : Vb ar w 0 = ar.map Xs := rfl
theorem Zan (ar : List Xh) (w : List UInt8) (n : Nat) : (Vb ar w n).length = ar.length := by simp [Vb]
theorem Zi3 (ar : List Xh) (w : List UInt8) (n : Nat) (h : n < w.length) : (Vb ar w n).map (Ga (w[n]).toNat) = Vb ar w (n + 1) := by
 unfold Vb;rw [List.map_map];refine List.map_congr_left fun a _ => ?_;rw [List.take_succ_eq_append_getElem h, Zcr]; rfl
theorem Zi4 (ar : List Xh) (w : List UInt8) (n : Nat) (hn : n ≤ w.length) (hg : ∀ a ∈ ar, Jl a.l = true) : (Vb ar w n).map Gb = dsM (ar.map Xh.l) w n := by
 unfold Vb dsM;rw [List.map_map, List.map_map];refine List.map_congr_left fun a ha => ?_;exact Zjo a w (hg a ha) n hn
theorem Zgz (ar : List Xh) (w u : List UInt8) (n m : Nat) : Vb (Vb ar w n) u m = Vb ar u m := by
 unfold Vb;rw [List.map_map];refine List.map_congr_left fun a _ => ?_;have h1 := Gd (w.take n) (Xs a);show Ud (u.take m) (Xs (Ud (w.take n) (Xs a))) = _;unfold Xs at h1 ⊢;rw [h1.1, h1.2]
theorem Zml (base b : Nat) (ar : List Xh) (fed : Int) (w : World) (h : Yp base w b ar fed) (hln : ∀ a ∈ ar, a.l.length ≤ 60) (hn : ar.length ≤ 8) (hbw : base ≤ w.heap.size) :
  Calls Tryz.prog 198 #[.pointer (some ⟨b, 0, none⟩)] w fun e w' => e = .returned (.tuple #[]) ∧ Yp base w' b (ar.map Xs) 0 ∧ FB base b w w' := by
 have C0 := hid (Znm base b ar fed w h hln hn);have HAT := hid h;obtain ⟨hb0, ⟨A0, c0, hk0, ho0⟩, ht0⟩ := h;have hlt0 := hk0.lt;have HB0 := hid hb0;clear hk0 ho0 ht0 hln hb0;obtain ⟨n, hnn⟩ := nE ((ar.map Xs).length);go_enter Tryz.func198, Tryz.ntmps198;go_wp2_with fail;refine C0.mono ?_;rintro en w1 ⟨rfl, hat1, hb1⟩;have HAT1 := hid hat1; have HB1 := hid hb1;obtain ⟨-, ⟨A1, c1, hk1, ho1⟩, ht1⟩ := hat1;have HATB := hid (HAT.below hb1);obtain ⟨-, ⟨A2, c2, hk2, ho2⟩, ht2⟩ := HATB.out;rw [hnn] at hk1 ho1;have HK1 := hid hk1; have HO1 := hid ho1; have HT1 := hid ht1; have HK2 := hid hk2;have q0 := cA hk1 0 (.slice A1 n c1) rfl;have q1 := cA hk1 1 (.int .i64 0) rfl;have r0 := hk2.cell 0;have r1 := hk2.cell 1;have rf0 := hk2.frozen 0;have rf1 := hk2.frozen 1;have hl1 := hk1.lt;have hl2 := hk2.lt;have HNE : Hid (b ≠ w.heap.size) := dc
 clear hk1 ho1 ht1 hk2 ho2 ht2 hb1 C0 hlt0;go_wp2_with fail
 first | (refine bodyPost_ret (results_none rfl _ _ _) rfl ?_) | go_end0
 have hne : (Value.slice A1 n c1).ownBlock ≠ some b := Wq HK2.out HO1.out ac;have hB : FB base b w ((w1.setCell ⟨b, 0, none⟩ (Value.slice A1 n c1)).setCell ⟨b, 1, none⟩ (Value.int IntKind.i64 0)) := (((FB.refl base b w HAT.blkLt).trans HB1.out hbw).set0 HB0.out ⟨_, _, _, HK2.out, .inl rfl⟩ (HK2.cell 0) (fun k hk => (HO1.lt k hk).1)).set1 HB0.out ⟨_, _, _, HK2.set 0 _, .inl rfl⟩;refine ⟨rfl, ⟨HB0.out, ⟨A1, c1, ?_, ?_⟩, fun a ha => ⟨?_, Nat.zero_le _⟩⟩, hB⟩
 ·rw [hnn]; exact (HK2.set 0 _).set 1 _
 ·rw [hnn]
  exact Wg (Yg (Yg HO1.out ⟨b, 0, none⟩ _ hne) ⟨b, 1, none⟩ _ hne) hbw
 ·have h1 := (HT1.out a ha).1
  have h2 := Mi h1 HK2.out ac;have h3 := h1.keep (Below.heap_setCell w1 ⟨b, 0, none⟩ (Value.slice A1 n c1) a.g h2) ae;exact h3.keep (Below.heap_setCell _ ⟨b, 1, none⟩ (Value.int IntKind.i64 0) a.g h2) ae
end Go.Proofs.YtpkkfdmhbbipoaaGreat
