/- Walks: scripts, somewhat cut. Walks: scripts, somewhat cut (the whole). Plain laws and memory for ProgFirst: what stands behind the op that is told; an op laid into a row. -/
import Derived.Test.YtpkkfdmhbbipoaaGreatPb
namespace Go.Proofs.YtpkkfdmhbbipoaaGreat
set_option maxRecDepth 20000
set_option maxHeartbeats 4000000
open Go.RowKit PopT
def Ke (m : Vd) : Vd := ⟨Kk 70 m.pat, m.tt⟩
def Kq (o : OpV) : OpV := ⟨o.kind, Kk 300 o.text, o.n, o.tt, (o.arms.take 10).map Ke, o.onT, o.onE⟩
def Zer (p : Xl) (most : Nat) : Xl := ⟨Kk 20 p.name, p.deadline, p.jumps, (p.ops.take most).map Kq⟩
def Zfx (w : World) (g : Nat) (a b c d e f i : Value) : World := ((((((w.setCell ⟨g, 0, none⟩ a).setCell ⟨g, 1, none⟩ b).setCell ⟨g, 2, none⟩ c).setCell ⟨g, 3, none⟩ d).setCell ⟨g, 4, none⟩ e).setCell ⟨g, 5, none⟩ f).setCell ⟨g, 6, none⟩ i
theorem Zey {w : World} {g : Nat} {t : TypeId} {x0 x1 x2 x3 x4 x5 x6 : Value} (h : Blk w g t #[x0, x1, x2, x3, x4, x5, x6]) (a b c d e f i : Value) : Blk (Zfx w g a b c d e f i) g t #[a, b, c, d, e, f, i] := by
 have h0 : Blk _ g t #[a, x1, x2, x3, x4, x5, x6] := h.set 0 a;have h1 : Blk _ g t #[a, b, x2, x3, x4, x5, x6] := h0.set 1 b;have h2 : Blk _ g t #[a, b, c, x3, x4, x5, x6] := h1.set 2 c;have h3 : Blk _ g t #[a, b, c, d, x4, x5, x6] := h2.set 3 d;have h4 : Blk _ g t #[a, b, c, d, e, x5, x6] := h3.set 4 e;have h5 : Blk _ g t #[a, b, c, d, e, f, x6] := h4.set 5 f;exact h5.set 6 i
theorem Zor {w : World} {base g n size : Nat} {t : TypeId} {v : Value} {xs : List Value} (h : w.ownsRow base t size v n xs) (hne : v.ownBlock ≠ some g) (a b c d e f i : Value) : (Zfx w g a b c d e f i).ownsRow base t size v n xs :=
 Yo (Yo (Yo (Yo (Yo (Yo (Yo h ⟨g, 0, none⟩ a hne) ⟨g, 1, none⟩ b hne) ⟨g, 2, none⟩ c hne) ⟨g, 3, none⟩ d hne) ⟨g, 4, none⟩ e hne) ⟨g, 5, none⟩ f hne) ⟨g, 6, none⟩ i hne
theorem Zby {B g : Nat} {w w1 : World} (h : Below B w w1) (hg : B ≤ g) (a b c d e f i : Value) : Below B w (Zfx w1 g a b c d e f i) :=
 ((((((h.setCell hg a).setCell hg b).setCell hg c).setCell hg d).setCell hg e).setCell hg f).setCell hg i
theorem Zbn : (Tryz.prog.info? 99).map (fun i => (i.zero, i.size, i.bytes)) = some (some (.agg #[.string ⟨#[]⟩, .int .i64 0]), 2, 24) := by kernel_rfl
theorem N79{P:Prop}(h:P:=by
 exact ⟨e, by rw [e, List.length_map, List.length_take, HN.out]; omega⟩):P:=h
theorem N20{P:Prop}(h:P:=by
 obtain ⟨x0, x1, x2, x3, x4, x5, x6⟩ := Qo HX.out;have xl := HX.lt;obtain ⟨z0, z1, z2, z3, z4, z5, z6⟩ := Qo HZ.out;have f0 := HZ.frozen 0; have f1 := HZ.frozen 1; have f2 := HZ.frozen 2; have f3 := HZ.frozen 3; have f4 := HZ.frozen 4; have f5 := HZ.frozen 5; have f6 := HZ.frozen 6;have zl := HZ.lt;go_wp2_with fail;obtain ⟨wf, hwf⟩ := nE (Zfx wr (gb + 1) (.int .i64 k) (.string ct) (.int .i64 nn) (.int .i64 tt) (.slice A' i c') (.int .i64 oT) (.int .i64 oE));have HZF : Blk wf (gb + 1) 56 #[k, ct, nn, tt, .slice A' i c', oT, oE] := hwf ▸ Zey HZ.out _ _ _ _ _ _ _;have HOF : Hid (wf.ownsRow gb 99 2 (.slice A' i c') i (Zz ((arms.take i).map Ke))) := hwf ▸ Zor HO.out (Vl HZ.out HO.out ac) _ _ _ _ _ _ _;have HBF : Hid (Below gb w wf) := hwf ▸ Zby HB.out (Nat.le_succ _) _ _ _ _ _ _ _;unfold Zfx at hwf;rw [hwf];obtain ⟨r0, r1, r2, r3, r4, r5, r6⟩ := Qo HZF;have hi' := HE.2;refine bodyPost_ret (v := .agg #[k, ct, nn, tt, .slice A' i c', oT, oE]) (by simp [results, Tryz.results71, go_sem, r0, r1, r2, r3, r4, r5, r6]) rfl ?_;rw [hi', HE.1, HGB.out];exact ⟨_, _, rfl, HOF.out, HBF.out⟩):P:=h
theorem Zqw (o : OpV) (A : Option Addr) (c : Nat) (w : World) (hr : Rd w A (Zz o.arms)) (hok : Zib o) :
  Calls Tryz.prog 71 #[o.val (.slice A o.arms.length c)] w fun e w' => ∃ A' c', e = .returned ((Kq o).val (.slice A' (Kq o).arms.length c')) ∧ w'.ownsRow w.heap.size 99 2 (.slice A' (Kq o).arms.length c') (Kq o).arms.length (Zz (Kq o).arms) ∧ Below w.heap.size w w' := by
 obtain ⟨k, tx, nn, tt, arms, oT, oE⟩ := o;have HOK := hid hok;obtain ⟨-, htx, -, -, hal, harm, -, -⟩ := hok;simp only at htx hal harm hr;have HR := hid hr; have HARM := hid harm;have C0 : Hid (∀ W, Calls Tryz.prog 62 #[tx, .int .i64 300] W fun e w' => e = .returned (.string (Kk 300 tx)) ∧ W = w') := fun W => Zep tx 300 W htx aa;obtain ⟨R, hR⟩ := nE ((arms.take 10).map Ke);show Calls Tryz.prog 71 #[.agg #[k, tx, nn, tt, .slice A arms.length c, oT, oE]] w fun e w' => ∃ A' c', e = .returned (.agg #[k, .string (Kk 300 tx), nn, tt, .slice A' ((arms.take 10).map Ke).length c', oT, oE]) ∧ w'.ownsRow w.heap.size 99 2 (.slice A' ((arms.take 10).map Ke).length c') ((arms.take 10).map Ke).length (Zz ((arms.take 10).map Ke)) ∧ Below w.heap.size w w';rw [hR];have HRR := hid hR;obtain ⟨n, hn⟩ := nE (arms.length);have HN := hid hn;obtain ⟨ct, hct⟩ := nE (Kk 300 tx);rw [hct] at C0 ⊢;rw [hn] at hal ⊢;clear hR hn hct hr harm;go_enter Tryz.func71, Tryz.ntmps71;go_wp2_with fail;refine (C0.out _).mono ?_;rintro en w1 ⟨rfl, rfl⟩;go_upto_region 3 with fail
 obtain ⟨w1, hw1⟩ : ∃ W, ((w.alloc (.cells #[k, ct, nn, tt, .slice (some ⟨w.heap.size + 1 + 1, 0, none⟩) 0 0, oT, oE] 56)).alloc
  (.cells #[.int .i64 0, .string ⟨#[]⟩, .int .i64 0, .int .i64 0, .slice none 0 0, .int .i64 0, .int .i64 0] 56)).alloc (.cells #[] 99) = W := ⟨_, rfl⟩
 have HB1 : Hid (Below w.heap.size w w1) := hw1 ▸ Qq _ _ _ _;have HX1 : Hid (Blk w1 w.heap.size 56 #[k, ct, nn, tt, .slice (some ⟨w.heap.size + 1 + 1, 0, none⟩) 0 0, oT, oE]) := hw1 ▸ ((Blk.new w _ _).alloc _).alloc _;have HZ1 : Hid (Blk w1 (w.heap.size + 1) 56 #[.int .i64 0, .string ⟨#[]⟩, .int .i64 0, .int .i64 0, .slice none 0 0, .int .i64 0, .int .i64 0]) := hw1 ▸ (Gz _ _ _ _).alloc _
 have HO1 : Hid (w1.ownsRow w.heap.size 99 2 (.slice (some ⟨w.heap.size + 1 + 1, 0, none⟩) 0 0) 0 []) := by
  rw [Hid, ← hw1]
  have := World.ownsRow_made (base := w.heap.size) (e := 99) (size := 2) ((w.alloc (.cells #[k, ct, nn, tt, .slice (some ⟨w.heap.size + 1 + 1, 0, none⟩) 0 0, oT, oE] 56)).alloc
   (.cells #[.int .i64 0, .string ⟨#[]⟩, .int .i64 0, .int .i64 0, .slice none 0 0, .int .i64 0, .int .i64 0] 56)) #[] 0 af cd ah
  simpa using this
 rw [hw1];clear hw1;obtain ⟨ge, hge⟩ := nE (w.heap.size + 1 + 1);rw [hge] at HX1 HO1 ⊢;obtain ⟨gb, hgb⟩ := nE (w.heap.size);have HGB := hid hgb;rw [hgb] at HX1 HO1 HZ1 ⊢;have HBB : Hid (Below gb w w1) := hgb ▸ HB1.out;clear hge hgb C0 HB1;go_wp2_with fail
 go_loopw [4] (fun iv wr => ∃ (i c' : Nat) (A' : Option Addr), i ≤ n ∧ i ≤ 10 ∧ iv = .int .i64 (i : Int) ∧ Blk wr gb 56 #[k, ct, nn, tt, .slice A' i c', oT, oE] ∧
   Blk wr (gb + 1) 56 #[.int .i64 0, .string ⟨#[]⟩, .int .i64 0, .int .i64 0, .slice none 0 0, .int .i64 0, .int .i64 0] ∧
   wr.ownsRow gb 99 2 (.slice A' i c') i (Zz ((arms.take i).map Ke)) ∧ Below gb w wr) (fun iv _ => n - (intOf iv).toNat)
 case atStart => exact ⟨0, 0, some ⟨ge, 0, none⟩, aa, aa, rfl, HX1.out, HZ1.out, HO1.out, HBB.out⟩
 case round =>
  obtain ⟨i, c', A', hi, hi10, rfl, hX, hZ, hown, hb⟩ := hrel;have HX := hid hX; have HZ := hid hZ; have HO := hid hown; have HB := hid hb;have hgs : w.heap.size ≤ wr.heap.size := hb.size;have hsz0 : gb ≤ wr.heap.size := by have := HGB.out; omega
  clear hX hZ hown hb HX1 HZ1 HO1 HBB hgs;by_cases hlt : i < n
  ·by_cases hl10 : i < 10
   ·have HK : Hid (i < arms.length) := by rw [Hid, HN.out]; exact hlt
    obtain ⟨b1, off1, rfl, hbl, hc⟩ := (HR.below (show Below w.heap.size w wr by rw [HGB.out]; exact HB.out)).at (by rw [Xs, HN.out]; omega);obtain ⟨e0, e1⟩ := Zbu hc i HK.out;have HM := hid (HARM.out _ (List.getElem_mem HK.out))
    have HTK : Hid (Zz ((arms.take (i + 1)).map Ke) = Zz ((arms.take i).map Ke) ++ (Ke (arms[i]'HK.out)).cells) := by
     rw [Hid, List.take_succ_eq_append_getElem HK.out, List.map_append, Zdg]; simp [Zz]
    obtain ⟨⟨pa, ta⟩, hx⟩ : ∃ x, arms[i]'HK.out = x := ⟨_, rfl⟩;rw [hx] at e0 e1 HM HTK;simp only at e0 e1;have C1 : Hid (∀ W, Calls Tryz.prog 62 #[pa, .int .i64 70] W fun e w' => e = .returned (.string (Kk 70 pa)) ∧ W = w') := fun W => Zep pa 70 W HM.1 aa;have HTK2 : Hid (Zz ((arms.take (i + 1)).map Ke) = Zz ((arms.take i).map Ke) ++ [.string (Kk 70 pa), .int .i64 ta]) := HTK.out;obtain ⟨cp, hcp⟩ := nE (Kk 70 pa);rw [hcp] at C1 HTK2;obtain ⟨xs, hxs⟩ := nE (Zz ((arms.take i).map Ke));rw [hxs] at HTK2 HO;clear hx hcp HTK hxs hc;go_upto_region 6 with fail;refine Zx (.val 0 (.val 2 (.val 3 (.val 4 (.val 5 (.val 8 (.val 9 (.val 10 (.val 11 (.three 1 (.two 6 (.two 7 (.op 12 (.val 13 (.op 14 (.op 15 (.val 16 (.op 17 (.nil))))))) 12 (.op 7 (.val 13 (.op 14 (.op 15 (.val 16 (.op 17 (.nil)))))))) 12 (.op 6 (.op 7 (.val 13 (.op 14 (.op 15 (.val 16 (.op 17 (.nil))))))))) 6 (.three 1 (.two 7 (.op 12 (.val 13 (.op 14 (.op 15 (.val 16 (.op 17 (.nil))))))) 12 (.op 7 (.val 13 (.op 14 (.op 15 (.val 16 (.op 17 (.nil)))))))) 7 (.two 1 (.op 12 (.val 13 (.op 14 (.op 15 (.val 16 (.op 17 (.nil))))))) 12 (.val 13 (.two 1 (.op 14 (.op 15 (.val 16 (.op 17 (.nil))))) 14 (.op 1 (.op 15 (.val 16 (.op 17 (.nil)))))))) 12 (.two 1 (.op 7 (.val 13 (.op 14 (.op 15 (.val 16 (.op 17 (.nil))))))) 7 (.val 13 (.two 1 (.op 14 (.op 15 (.val 16 (.op 17 (.nil))))) 14 (.op 1 (.op 15 (.val 16 (.op 17 (.nil))))))))) 12 (.two 1 (.op 6 (.op 7 (.val 13 (.op 14 (.op 15 (.val 16 (.op 17 (.nil)))))))) 6 (.two 1 (.op 7 (.val 13 (.op 14 (.op 15 (.val 16 (.op 17 (.nil))))))) 7 (.val 13 (.two 1 (.op 14 (.op 15 (.val 16 (.op 17 (.nil))))) 14 (.op 1 (.op 15 (.val 16 (.op 17 (.nil))))))))))))))))))) ab ab ?_;obtain ⟨w3, hw3⟩ := nE (wr.drewN 1);have HD3 := db hw3;have HX3 := bb HX HD3;have HZ3 := bb HZ HD3;have HO3 := hid (Yc HO.out HD3.out);have HB3 := hid (HB.trans (HD3.mono hsz0));have hsz : gb ≤ w3.heap.size := Nat.le_trans hsz0 HD3.size;have d0 := (HD3.cell (p := ⟨b1, off1 + i * 2, none⟩) hbl).trans e0;have d1 := (HD3.cell (p := ⟨b1, off1 + i * 2 + 1, none⟩) hbl).trans e1;have hc0 : b1 < w3.heap.size := Nat.lt_of_lt_of_le hbl HD3.size;rw [hw3];clear hw3 HD3 HX HZ HO HB e0 e1 hbl hsz0;have q4 := HX3.cell 4;have ql := HX3.lt;have q4x := (HX3.alloc (.cells #[cp, ta] 99)).cell 4;have qlx := (HX3.alloc (.cells #[cp, ta] 99)).lt;simp only [List.getElem?_toArray, List.getElem?_cons_zero, List.getElem?_cons_succ] at q4 q4x
    have HEND : Hid (∀ (g5 c5 : Nat) (w5 : World), w5.ownsRow gb 99 2 (.slice (some ⟨g5, 0, none⟩) (i + 1) c5) (i + 1) (xs ++ [.string cp, .int .i64 ta]) → Za (fun k => (Value.slice A' i c').ownBlock = some k) w3 w5 →
      Blk w5 gb 56 #[k, ct, nn, tt, .slice A' i c', oT, oE] ∧ Blk w5 (gb + 1) 56 #[.int .i64 0, .string ⟨#[]⟩, .int .i64 0, .int .i64 0, .slice none 0 0, .int .i64 0, .int .i64 0] ∧ Below gb w w5 ∧
      w5.ownsRow gb 99 2 (.slice (some ⟨g5, 0, none⟩) (i + 1) c5) (i + 1) (Zz ((arms.take (i + 1)).map Ke)) ∧ g5 ≠ gb) := by
     intro g5 c5 w5 hown5 hk5;have hX5 := hk5.blk HX3.out (fun h => Vl HX3.out HO3.out ac h);refine ⟨hX5, hk5.blk HZ3.out (fun h => Vl HZ3.out HO3.out ac h), HB3.trans (hk5.below hsz (fun k hk => (HO3.lt k hk).1)), by rw [HTK2.out]; exact hown5, ?_⟩;rintro rfl;exact absurd rfl (Vl hX5 hown5 ac)
    iterate 9 (refine Zb rfl ?_; go_big_quiet_step (fail); refine wpQuiet_nil ?_)
    focus
     refine Jd rfl rfl rfl ?_ ?_ ?_
     focus
      skip
      go_wp2_with fail;refine Zj rfl rfl ?_ ?_
      focus
       skip
       go_wp2_with fail;refine Zj rfl rfl ?_ ?_
       focus
        skip
        go_wp2_with fail;refine (C1.out _).mono ?_;rintro en w4 ⟨rfl, rfl⟩;go_wp2_with fail;refine Zc rfl ?_;go_wp2_with fail;refine Zb rfl ?_
        go_big_quiet_step (fail)
        refine wpQuiet_nil ?_
       rotate_left 1
       focus
        skip
        go_wp2_with fail;refine Zc rfl ?_;go_wp2_with fail;refine (C1.out _).mono ?_;rintro en w4 ⟨rfl, rfl⟩;go_wp2_with fail;refine Zb rfl ?_
        go_big_quiet_step (fail)
        refine wpQuiet_nil ?_
      rotate_left 2
      focus
       skip
       go_wp2_with fail;refine Zc rfl ?_;go_wp2_with fail;refine Zc rfl ?_;go_wp2_with fail;refine (C1.out _).mono ?_;rintro en w4 ⟨rfl, rfl⟩;go_wp2_with fail;refine Zb rfl ?_
       go_big_quiet_step (fail)
       refine wpQuiet_nil ?_
     rotate_left 3
     focus
      skip
      go_wp2_with fail;refine Jd rfl rfl rfl ?_ ?_ ?_
      focus
       skip
       go_wp2_with fail;refine Zj rfl rfl ?_ ?_
       focus
        skip
        go_wp2_with fail;refine (C1.out _).mono ?_;rintro en w4 ⟨rfl, rfl⟩;go_wp2_with fail;refine Zc rfl ?_;go_wp2_with fail;refine Zb rfl ?_
        go_big_quiet_step (fail)
        refine wpQuiet_nil ?_
       rotate_left 1
       focus
        skip
        go_wp2_with fail;refine Zc rfl ?_;go_wp2_with fail;refine (C1.out _).mono ?_;rintro en w4 ⟨rfl, rfl⟩;go_wp2_with fail;refine Zb rfl ?_
        go_big_quiet_step (fail)
        refine wpQuiet_nil ?_
      rotate_left 2
      focus
       skip
       go_wp2_with fail;refine (C1.out _).mono ?_;rintro en w4 ⟨rfl, rfl⟩;go_wp2_with fail;refine Zj rfl rfl ?_ ?_
       focus
        skip
        go_wp2_with fail;refine Zc rfl ?_;go_wp2_with fail;refine Zb rfl ?_
        go_big_quiet_step (fail)
        refine wpQuiet_nil ?_
       rotate_left 1
       focus
        skip
        go_wp2_with fail;refine Zb rfl ?_
        go_big_quiet_step (fail)
        refine wpQuiet_nil ?_;refine Zj rfl rfl ?_ ?_
        focus
         skip
         go_wp2_with fail
        rotate_left 1
        focus
         skip
         go_wp2_with fail
      rotate_left 3
      focus
       skip
       go_wp2_with fail;refine Zj rfl rfl ?_ ?_
       focus
        skip
        go_wp2_with fail;refine Zc rfl ?_;go_wp2_with fail;refine (C1.out _).mono ?_;rintro en w4 ⟨rfl, rfl⟩;go_wp2_with fail;refine Zb rfl ?_
        go_big_quiet_step (fail)
        refine wpQuiet_nil ?_
       rotate_left 1
       focus
        skip
        go_wp2_with fail;refine (C1.out _).mono ?_;rintro en w4 ⟨rfl, rfl⟩;go_wp2_with fail;refine Zb rfl ?_
        go_big_quiet_step (fail)
        refine wpQuiet_nil ?_;refine Zj rfl rfl ?_ ?_
        focus
         skip
         go_wp2_with fail
        rotate_left 1
        focus
         skip
         go_wp2_with fail
     rotate_left 8
     focus
      skip
      go_wp2_with fail;refine Zj rfl rfl ?_ ?_
      focus
       skip
       go_wp2_with fail;refine Zc rfl ?_;go_wp2_with fail;refine Zc rfl ?_;go_wp2_with fail;refine (C1.out _).mono ?_;rintro en w4 ⟨rfl, rfl⟩;go_wp2_with fail;refine Zb rfl ?_
       go_big_quiet_step (fail)
       refine wpQuiet_nil ?_
      rotate_left 1
      focus
       skip
       go_wp2_with fail;refine Zj rfl rfl ?_ ?_
       focus
        skip
        go_wp2_with fail;refine Zc rfl ?_;go_wp2_with fail;refine (C1.out _).mono ?_;rintro en w4 ⟨rfl, rfl⟩;go_wp2_with fail;refine Zb rfl ?_
        go_big_quiet_step (fail)
        refine wpQuiet_nil ?_
       rotate_left 1
       focus
        skip
        go_wp2_with fail;refine (C1.out _).mono ?_;rintro en w4 ⟨rfl, rfl⟩;go_wp2_with fail;refine Zb rfl ?_
        go_big_quiet_step (fail)
        refine wpQuiet_nil ?_;refine Zj rfl rfl ?_ ?_
        focus
         skip
         go_wp2_with fail
        rotate_left 1
        focus
         skip
         go_wp2_with fail
     all_goals
      refine Zc rfl ?_;go_wp2_with fail;refine Zc rfl ?_;go_wp2_with (at_builtin; refine Wb _ rfl _ _ 54 rfl gb 99 _ 2 24 Tryz.underlying54 Zbn rfl ac _ _ _ rfl HO3.out 1 [cp, ta] rfl rfl rfl ?_ ac hsz ?_)
      ·omega
      intro g5 c5 w5 hown5 hk5 hf5;obtain ⟨HX5, HZ5, HB5, HO5, hg5⟩ := HEND.out g5 c5 w5 hown5 hk5;have q5 := HX5.cell 4;have qf5 := HX5.frozen 4;have ql5 := HX5.lt;have HX5 := hid HX5; have HZ5 := hid HZ5; have HB5 := hid HB5; have HO5 := hid HO5;clear hown5 hk5 hf5 q4 q4x ql qlx d0 d1 hc0;go_wp2_with fail;refine Zb rfl ?_
      go_big_quiet_step (fail)
      refine wpQuiet_nil ?_;refine Zc rfl ?_;go_wp2_with fail;refine Yi ?_;go_wp2_with fail;go_roundw
      case rel => exact ⟨i + 1, c5, some ⟨g5, 0, none⟩, aa, aa, aw, HX5.set 4 _, HZ5.set_far aa, Yo HO5.out ⟨gb, 4, none⟩ _ gj, HB5.setCell (Nat.le_refl _) _⟩
      case measure => simp [intOf]; omega
   ·have HE : Hid (R = (arms.take i).map Ke ∧ R.length = i) := by
     have e : R = (arms.take i).map Ke := by rw [← HRR.out, show i = 10 from aa]
     exact N79
    exact N20
  ·have HE : Hid (R = (arms.take i).map Ke ∧ R.length = i) := by
    have e : R = (arms.take i).map Ke := fa
    exact N79
   exact N20
def Yz (base : Nat) (w : World) (o : OpV) (v : Value) : Prop := ∃ A c, v = .slice A o.arms.length c ∧ w.ownsRow base 99 2 v o.arms.length (Zz o.arms)
theorem Yz.inn {base : Nat} {w : World} {o : OpV} {v : Value} (h : Yz base w o v) : Xj w o v := by
 obtain ⟨A, c, rfl, h⟩ := h;exact ⟨A, c, rfl, Xw h⟩
theorem Yz.below {base B : Nat} {w w' : World} {o : OpV} {v : Value} (h : Yz base w o v) (hb : Below B w w') (hB : w.heap.size ≤ B) : Yz base w' o v := by
 obtain ⟨A, c, h1, h⟩ := h;exact ⟨A, c, h1, Yc h hb hB⟩
theorem Yz.base {base b2 : Nat} {w : World} {o : OpV} {v : Value} (h : Yz base w o v) (hB : b2 ≤ base) : Yz b2 w o v := by
 obtain ⟨A, c, h1, h⟩ := h;exact ⟨A, c, h1, Vi h hB⟩
theorem Yz.keep1 {base b2 e2 s2 n2 : Nat} {w w' : World} {o : OpV} {v v2 : Value} {xs : List Value} (h : Yz base w o v) (h2 : w.ownsRow b2 e2 s2 v2 n2 xs) (hk : Za (fun k => v2.ownBlock = some k) w w') (hne : 99 ≠ e2) : Yz base w' o v := by
 obtain ⟨A, c, h1, h⟩ := h;refine ⟨A, c, h1, hk.own h (fun k hv hk2 => ?_)⟩;rcases Zc2 h h2 hne with h3 | h3
 ·rw [h3] at hv; cases hv
 ·rw [hv, hk2] at h3; exact h3 rfl
theorem Yz.set {base g i : Nat} {w : World} {o : OpV} {v u : Value} {t : TypeId} {cs : Array Value} (h : Yz base w o v) (hb : Blk w g t cs) (hne : 99 ≠ t) : Yz base (w.setCell ⟨g, i, none⟩ u) o v := by
 obtain ⟨A, c, h1, h⟩ := h;exact ⟨A, c, h1, Yo h ⟨g, i, none⟩ u (Vl hb h hne)⟩
def Wt (base : Nat) (w : World) (v : Value) (l : List OpV) : Prop :=
 ∃ xs : List (OpV × Value), xs.map Prod.fst = l ∧ w.ownsRow base 56 7 v l.length (Ym xs) ∧ ∀ x ∈ xs, Yz base w x.1 x.2
theorem Wt.inn {base n c : Nat} {w : World} {A : Option Addr} {l : List OpV} (h : Wt base w (.slice A n c) l) (hn : l.length = n) : Ug w A l := by
 subst hn;obtain ⟨xs, h1, h2, h3⟩ := h;exact ⟨xs, h1, Xw h2, fun x hx => (h3 x hx).inn⟩
theorem Wt.below {base B : Nat} {w w' : World} {v : Value} {l : List OpV} (h : Wt base w v l) (hb : Below B w w') (hB : w.heap.size ≤ B) : Wt base w' v l := by
 obtain ⟨xs, h1, h2, h3⟩ := h;exact ⟨xs, h1, Yc h2 hb hB, fun x hx => (h3 x hx).below hb hB⟩
theorem Wt.set {base g i : Nat} {w : World} {v u : Value} {l : List OpV} {cs : Array Value} (h : Wt base w v l) (hb : Blk w g 26 cs) : Wt base (w.setCell ⟨g, i, none⟩ u) v l := by
 obtain ⟨xs, h1, h2, h3⟩ := h;exact ⟨xs, h1, Yo h2 ⟨g, i, none⟩ u (Vl hb h2 ac), fun x hx => (h3 x hx).set hb ac⟩
def Mp (w : World) (g : Nat) (a b c d : Value) : World := (((w.setCell ⟨g, 0, none⟩ a).setCell ⟨g, 1, none⟩ b).setCell ⟨g, 2, none⟩ c).setCell ⟨g, 3, none⟩ d
theorem Zaa {w : World} {g : Nat} {t : TypeId} {x0 x1 x2 x3 : Value} (h : Blk w g t #[x0, x1, x2, x3]) (a b c d : Value) : Blk (Mp w g a b c d) g t #[a, b, c, d] := by
 have h0 : Blk _ g t #[a, x1, x2, x3] := h.set 0 a;have h1 : Blk _ g t #[a, b, x2, x3] := h0.set 1 b;have h2 : Blk _ g t #[a, b, c, x3] := h1.set 2 c;exact h2.set 3 d
theorem Zik {w : World} {base g : Nat} {v : Value} {l : List OpV} {cs : Array Value} (h : Wt base w v l) (hb : Blk w g 26 cs) (a b c d : Value) : Wt base (Mp w g a b c d) v l :=
 (((h.set (i := 0) (u := a) hb).set (i := 1) (u := b) (hb.set 0 a)).set (i := 2) (u := c) ((hb.set 0 a).set 1 b)).set (i := 3) (u := d) (((hb.set 0 a).set 1 b).set 2 c)
theorem Gk {B g : Nat} {w w1 : World} (h : Below B w w1) (hg : B ≤ g) (a b c d : Value) : Below B w (Mp w1 g a b c d) :=
 (((h.setCell hg a).setCell hg b).setCell hg c).setCell hg d
theorem N23{P:Prop}(h:P:=by
 obtain ⟨x0, x1, x2, x3⟩ := Wc HX.out;have xl := HX.lt;obtain ⟨z0, z1, z2, z3⟩ := Wc HZ.out;have f0 := HZ.frozen 0; have f1 := HZ.frozen 1; have f2 := HZ.frozen 2; have f3 := HZ.frozen 3;have zl := HZ.lt;go_wp2_with fail;have HOO : Hid (Wt gb wr (.slice A' i c') R) := ⟨xs, by rw [HXS.out, HE.1], by rw [HE.2]; exact HO.out, HA.out⟩;obtain ⟨wf, hwf⟩ := nE (Mp wr (gb + 1) (.string ct) (.int .i64 dl) (.int .i64 jp) (.slice A' i c'));have HZF : Blk wf (gb + 1) 26 #[ct, dl, jp, .slice A' i c'] := hwf ▸ Zaa HZ.out _ _ _ _;have HOF : Hid (Wt gb wf (.slice A' i c') R) := hwf ▸ Zik HOO.out HZ.out _ _ _ _;have HBF : Hid (Below gb w wf) := hwf ▸ Gk HB.out (Nat.le_succ _) _ _ _ _;unfold Mp at hwf;rw [hwf];obtain ⟨r0, r1, r2, r3⟩ := Wc HZF;have hi' := HE.2;refine bodyPost_ret (v := .agg #[ct, dl, jp, .slice A' i c']) (by simp [results, Tryz.results26, go_sem, r0, r1, r2, r3]) rfl ?_;rw [hi', HGB.out];exact ⟨_, _, rfl, HOF.out, HBF.out⟩):P:=h
theorem N14{P:Prop}(h:P:=by
 intro g5 c5 w5 hown5 hk5;have hX5 := hk5.blk HX4.out (fun h => Vl HX4.out HO4.out ac h);refine ⟨hX5, hk5.blk HZ4.out (fun h => Vl HZ4.out HO4.out ac h), HB4.trans (hk5.below hsz4 (fun k hk => (HO4.lt k hk).1)), by rw [Zef]; exact hown5, ?_, ?_⟩
 ·intro x hx
  rcases List.mem_append.1 hx with hx | hx
  ·exact (HA4.out x hx).keep1 HO4.out hk5 ac
  ·rw [List.mem_singleton] at hx; subst hx
   have : Yz gb w4 (OpV.mk ok os on ott mar oT oE) (.slice A6 ml c6) := ⟨A6, c6, by show _ = Value.slice A6 mar.length c6; rw [HML.out], by show w4.ownsRow _ _ _ _ mar.length _; rw [HML.out]; exact HM4.out⟩;exact this.keep1 HO4.out hk5 ac
 ·rintro rfl
  exact absurd rfl (Vl hX5 hown5 ac)):P:=h
theorem Zpz (p : Xl) (A : Option Addr) (c most : Nat) (w : World) (hin : Ug w A p.ops) (hok : Jb p) (hm : most ≤ 1000) :
  Calls Tryz.prog 26 #[p.val (.slice A p.ops.length c), (most : Int)] w fun e w' => ∃ A' c', e = .returned ((Zer p most).val (.slice A' (Zer p most).ops.length c')) ∧ Wt w.heap.size w' (.slice A' (Zer p most).ops.length c') (Zer p most).ops ∧ Below w.heap.size w w' := by
 obtain ⟨nm, dl, jp, ops⟩ := p;obtain ⟨htx, -, -, hal, hops⟩ := hok;simp only at htx hal hops hin;have HIN := hid hin; have HOPS := hid hops;have C0 : Hid (∀ W, Calls Tryz.prog 62 #[nm, .int .i64 20] W fun e w' => e = .returned (.string (Kk 20 nm)) ∧ W = w') := fun W => Zep nm 20 W htx aa;obtain ⟨R, hR⟩ := nE ((ops.take most).map Kq);show Calls Tryz.prog 26 #[.agg #[nm, dl, jp, .slice A ops.length c], (most : Int)] w fun e w' => ∃ A' c', e = .returned (.agg #[.string (Kk 20 nm), dl, jp, .slice A' ((ops.take most).map Kq).length c']) ∧ Wt w.heap.size w' (.slice A' ((ops.take most).map Kq).length c') ((ops.take most).map Kq) ∧ Below w.heap.size w w';rw [hR];have HRR := hid hR;obtain ⟨n, hn⟩ := nE (ops.length);have HN := hid hn;obtain ⟨ct, hct⟩ := nE (Kk 20 nm);rw [hct] at C0 ⊢;rw [hn] at hal ⊢;clear hR hn hct hin hops;go_enter Tryz.func26, Tryz.ntmps26;go_wp2_with fail;refine (C0.out _).mono ?_;rintro en w1 ⟨rfl, rfl⟩;go_upto_region 3 with fail;obtain ⟨w1, hw1⟩ := nE (((w.alloc (.cells #[ct, dl, jp, .slice (some ⟨w.heap.size + 1 + 1, 0, none⟩) 0 0] 26)).alloc (.cells #[.string ⟨#[]⟩, .int .i64 0, .int .i64 0, .slice none 0 0] 26)).alloc (.cells #[] 56));have HB1 : Hid (Below w.heap.size w w1) := hw1 ▸ Qq _ _ _ _;have HX1 : Hid (Blk w1 w.heap.size 26 #[ct, dl, jp, .slice (some ⟨w.heap.size + 1 + 1, 0, none⟩) 0 0]) := hw1 ▸ ((Blk.new w _ _).alloc _).alloc _;have HZ1 : Hid (Blk w1 (w.heap.size + 1) 26 #[.string ⟨#[]⟩, .int .i64 0, .int .i64 0, .slice none 0 0]) := hw1 ▸ (Gz _ _ _ _).alloc _
 have HO1 : Hid (w1.ownsRow w.heap.size 56 7 (.slice (some ⟨w.heap.size + 1 + 1, 0, none⟩) 0 0) 0 []) := by
  rw [Hid, ← hw1];have := World.ownsRow_made (base := w.heap.size) (e := 56) (size := 7) ((w.alloc (.cells #[ct, dl, jp, .slice (some ⟨w.heap.size + 1 + 1, 0, none⟩) 0 0] 26)).alloc (.cells #[.string ⟨#[]⟩, .int .i64 0, .int .i64 0, .slice none 0 0] 26)) #[] 0 af cd ah;simpa using this
 rw [hw1];clear hw1;obtain ⟨ge, hge⟩ := nE (w.heap.size + 1 + 1);rw [hge] at HX1 HO1 ⊢;obtain ⟨gb, hgb⟩ := nE (w.heap.size);have HGB := hid hgb;rw [hgb] at HX1 HO1 HZ1 ⊢;have HBB : Hid (Below gb w w1) := hgb ▸ HB1.out;clear hge hgb C0 HB1;go_wp2_with fail
 go_loopw [6] (fun iv wr => ∃ (i c' : Nat) (A' : Option Addr) (xs : List (OpV × Value)), i ≤ n ∧ i ≤ most ∧ iv = .int .i64 (i : Int) ∧ Blk wr gb 26 #[ct, dl, jp, .slice A' i c'] ∧ Blk wr (gb + 1) 26 #[.string ⟨#[]⟩, .int .i64 0, .int .i64 0, .slice none 0 0] ∧
   wr.ownsRow gb 56 7 (.slice A' i c') i (Ym xs) ∧ xs.map Prod.fst = (ops.take i).map Kq ∧ (∀ x ∈ xs, Yz gb wr x.1 x.2) ∧ Below gb w wr) (fun iv _ => n - (intOf iv).toNat)
 case atStart => exact ⟨0, 0, some ⟨ge, 0, none⟩, [], aa, aa, rfl, HX1.out, HZ1.out, HO1.out, rfl, ah, HBB.out⟩
 case round =>
  obtain ⟨i, c', A', xs, hi, him, rfl, hX, hZ, hown, hxs, harms, hb⟩ := hrel;have HX := hid hX; have HZ := hid hZ; have HO := hid hown; have HB := hid hb; have HXS := hid hxs; have HA := hid harms;have hgs : w.heap.size ≤ wr.heap.size := hb.size;have hsz0 : gb ≤ wr.heap.size := by have := HGB.out; omega
  clear hX hZ hown hb HX1 HZ1 HO1 HBB hgs hxs harms;by_cases hlt : i < n
  ·by_cases hlm : i < most
   ·have HK : Hid (i < ops.length) := by rw [Hid, HN.out]; exact hlt
    obtain ⟨b1, off1, v1, rfl, hbl, hv1, e0, e1, e2, e3, e4, e5, e6⟩ := (HIN.below (show Below w.heap.size w wr by rw [HGB.out]; exact HB.out)).at i HK.out;have HM := hid (HOPS.out _ (List.getElem_mem HK.out))
    have HTK : Hid ((ops.take (i + 1)).map Kq = (ops.take i).map Kq ++ [Kq (ops[i]'HK.out)]) := by
     rw [Hid, List.take_succ_eq_append_getElem HK.out, List.map_append]; rfl
    obtain ⟨o, ho⟩ := nE (ops[i]'HK.out);rw [ho] at e0 e1 e2 e3 e5 e6 HM HTK hv1;obtain ⟨A1, c1, hv2, hra⟩ := hv1;subst hv2;clear ho;obtain ⟨ok, otx, on, ott, oar, oT, oE⟩ := o;simp only at e0 e1 e2 e3 e4 e5 e6 hra
    have CO : Hid (∀ W, Rd W A1 (Zz oar) → Calls Tryz.prog 71 #[.agg #[ok, otx, on, ott, .slice A1 oar.length c1, oT, oE]] W fun e w' => ∃ A' c', e = .returned (.agg #[ok, .string (Kk 300 otx), on, ott, .slice A' ((oar.take 10).map Ke).length c', oT, oE]) ∧
      w'.ownsRow W.heap.size 99 2 (.slice A' ((oar.take 10).map Ke).length c') ((oar.take 10).map Ke).length (Zz ((oar.take 10).map Ke)) ∧ Below W.heap.size W w') := fun W h => Zqw ⟨ok, otx, on, ott, oar, oT, oE⟩ A1 c1 W h HM.out
    have HTK2 : Hid ((ops.take (i + 1)).map Kq = (ops.take i).map Kq ++ [OpV.mk ok (Kk 300 otx) on ott ((oar.take 10).map Ke) oT oE]) := HTK.out;obtain ⟨os, hos⟩ := nE (Kk 300 otx);obtain ⟨mar, hmar⟩ := nE ((oar.take 10).map Ke);obtain ⟨ml, hml⟩ := nE (mar.length);have HML := hid hml;rw [hos, hmar] at CO HTK2;rw [hml] at CO;have HXS2 : Hid ((xs ++ [(OpV.mk ok os on ott mar oT oE, Value.slice none 0 0)]).map Prod.fst = (ops.take (i + 1)).map Kq) := by rw [Hid, HTK2.out, List.map_append, HXS.out]; rfl
    have HXS2 : Hid (∀ v, (xs ++ [(OpV.mk ok os on ott mar oT oE, v)]).map Prod.fst = (ops.take (i + 1)).map Kq) := fun v => by rw [HTK2.out, List.map_append, HXS.out]; rfl
    obtain ⟨ol, hol⟩ := nE (oar.length);rw [hol] at e4 CO;clear hos hmar hml HTK HTK2 hol HM HXS;have HRA := hid hra;clear hra;go_upto_region 6 with fail;refine Zx (.val 0 (.val 2 (.val 3 (.val 4 (.two 1 (.op 5 (.op 6 (.op 7 (.op 8 (.val 9 (.op 10 (.nil))))))) 5 (.two 1 (.op 6 (.op 7 (.op 8 (.val 9 (.op 10 (.nil)))))) 6 (.two 1 (.op 7 (.op 8 (.val 9 (.op 10 (.nil))))) 7 (.op 1 (.op 8 (.val 9 (.op 10 (.nil)))))))))))) ab ab ?_;obtain ⟨w3, hw3⟩ := nE (wr.drewN 1);have HD3 := db hw3;have HX3 := bb HX HD3;have HZ3 := bb HZ HD3;have HO3 := hid (Yc HO.out HD3.out);have HA3 : Hid (∀ x ∈ xs, Yz gb w3 x.1 x.2) := fun x hx => (HA.out x hx).below HD3.out (Nat.le_refl _);have HB3 := hid (HB.trans (HD3.mono hsz0));have HRA3 := hid (HRA.below HD3.out);have hsz : gb ≤ w3.heap.size := Nat.le_trans hsz0 HD3.size;have d0 := (HD3.cell (p := ⟨b1, off1 + i * 7, none⟩) hbl).trans e0;have d1 := (HD3.cell (p := ⟨b1, off1 + i * 7 + 1, none⟩) hbl).trans e1;have d2 := (HD3.cell (p := ⟨b1, off1 + i * 7 + 2, none⟩) hbl).trans e2;have d3 := (HD3.cell (p := ⟨b1, off1 + i * 7 + 3, none⟩) hbl).trans e3;have d4 := (HD3.cell (p := ⟨b1, off1 + i * 7 + 4, none⟩) hbl).trans e4;have d5 := (HD3.cell (p := ⟨b1, off1 + i * 7 + 5, none⟩) hbl).trans e5;have d6 := (HD3.cell (p := ⟨b1, off1 + i * 7 + 6, none⟩) hbl).trans e6;have hc0 : b1 < w3.heap.size := Nat.lt_of_lt_of_le hbl HD3.size;rw [hw3];clear hw3 HD3 HX HZ HO HB HA e0 e1 e2 e3 e4 e5 e6 hbl hsz0 HRA;have q3 := HX3.cell 3;have ql := HX3.lt;simp only [List.getElem?_toArray, List.getElem?_cons_zero, List.getElem?_cons_succ] at q3
    iterate 4 (refine Zb rfl ?_; go_big_quiet_step (fail); refine wpQuiet_nil ?_)
    refine Zj rfl rfl ?_ ?_
    focus
     go_wp2_with fail;refine Zc rfl ?_;go_wp2_with fail;refine Zc rfl ?_;go_wp2_with fail;refine (CO.out _ HRA3.out).mono ?_;rintro en w4 ⟨A6, c6, rfl, hown6, hb6⟩;have hs34 := hb6.size;have HX4 : Hid (Blk w4 gb 26 #[ct, dl, jp, .slice A' i c']) := HX3.below hb6 HX3.lt;have HZ4 : Hid (Blk w4 (gb + 1) 26 #[.string ⟨#[]⟩, .int .i64 0, .int .i64 0, .slice none 0 0]) := HZ3.below hb6 HZ3.lt;have HO4 : Hid (w4.ownsRow gb 56 7 (.slice A' i c') i (Ym xs)) := Yc HO3.out hb6;have HA4 : Hid (∀ x ∈ xs, Yz gb w4 x.1 x.2) := fun x hx => (HA3.out x hx).below hb6 (Nat.le_refl _);have HB4 : Hid (Below gb w w4) := HB3.trans (hb6.mono hsz);have HM4 : Hid (w4.ownsRow gb 99 2 (.slice A6 ml c6) ml (Zz mar)) := Vi hown6 hsz;have hsz4 : gb ≤ w4.heap.size := Nat.le_trans hsz hs34;have r3 := HX4.cell 3;have rl := HX4.lt;have r3x := (HX4.alloc (.cells #[ok, os, on, ott, .slice A6 ml c6, oT, oE] 56)).cell 3;have rlx := (HX4.alloc (.cells #[ok, os, on, ott, .slice A6 ml c6, oT, oE] 56)).lt;simp only [List.getElem?_toArray, List.getElem?_cons_zero, List.getElem?_cons_succ] at r3 r3x
     have HEND : Hid (∀ (g5 c5 : Nat) (w5 : World), w5.ownsRow gb 56 7 (.slice (some ⟨g5, 0, none⟩) (i + 1) c5) (i + 1) (Ym xs ++ [.int .i64 ok, .string os, .int .i64 on, .int .i64 ott, .slice A6 ml c6, .int .i64 oT, .int .i64 oE]) → Za (fun k => (Value.slice A' i c').ownBlock = some k) w4 w5 →
       Blk w5 gb 26 #[ct, dl, jp, .slice A' i c'] ∧ Blk w5 (gb + 1) 26 #[.string ⟨#[]⟩, .int .i64 0, .int .i64 0, .slice none 0 0] ∧ Below gb w w5 ∧ w5.ownsRow gb 56 7 (.slice (some ⟨g5, 0, none⟩) (i + 1) c5) (i + 1) (Ym (xs ++ [(OpV.mk ok os on ott mar oT oE, .slice A6 ml c6)])) ∧
       (∀ x ∈ xs ++ [(OpV.mk ok os on ott mar oT oE, .slice A6 ml c6)], Yz gb w5 x.1 x.2) ∧ g5 ≠ gb) := by
      exact N14
     clear hown6 hb6 q3 ql d0 d1 d2 d3 d4 d5 d6 hc0
    rotate_left 1
    focus
     go_wp2_with fail;refine Zj rfl rfl ?_ ?_
     focus
      go_wp2_with fail;refine Zc rfl ?_;go_wp2_with fail;refine (CO.out _ HRA3.out).mono ?_;rintro en w4 ⟨A6, c6, rfl, hown6, hb6⟩;have hs34 := hb6.size;have HX4 : Hid (Blk w4 gb 26 #[ct, dl, jp, .slice A' i c']) := HX3.below hb6 HX3.lt;have HZ4 : Hid (Blk w4 (gb + 1) 26 #[.string ⟨#[]⟩, .int .i64 0, .int .i64 0, .slice none 0 0]) := HZ3.below hb6 HZ3.lt;have HO4 : Hid (w4.ownsRow gb 56 7 (.slice A' i c') i (Ym xs)) := Yc HO3.out hb6;have HA4 : Hid (∀ x ∈ xs, Yz gb w4 x.1 x.2) := fun x hx => (HA3.out x hx).below hb6 (Nat.le_refl _);have HB4 : Hid (Below gb w w4) := HB3.trans (hb6.mono hsz);have HM4 : Hid (w4.ownsRow gb 99 2 (.slice A6 ml c6) ml (Zz mar)) := Vi hown6 hsz;have hsz4 : gb ≤ w4.heap.size := Nat.le_trans hsz hs34;have r3 := HX4.cell 3;have rl := HX4.lt;have r3x := (HX4.alloc (.cells #[ok, os, on, ott, .slice A6 ml c6, oT, oE] 56)).cell 3;have rlx := (HX4.alloc (.cells #[ok, os, on, ott, .slice A6 ml c6, oT, oE] 56)).lt;simp only [List.getElem?_toArray, List.getElem?_cons_zero, List.getElem?_cons_succ] at r3 r3x
      have HEND : Hid (∀ (g5 c5 : Nat) (w5 : World), w5.ownsRow gb 56 7 (.slice (some ⟨g5, 0, none⟩) (i + 1) c5) (i + 1) (Ym xs ++ [.int .i64 ok, .string os, .int .i64 on, .int .i64 ott, .slice A6 ml c6, .int .i64 oT, .int .i64 oE]) → Za (fun k => (Value.slice A' i c').ownBlock = some k) w4 w5 →
        Blk w5 gb 26 #[ct, dl, jp, .slice A' i c'] ∧ Blk w5 (gb + 1) 26 #[.string ⟨#[]⟩, .int .i64 0, .int .i64 0, .slice none 0 0] ∧ Below gb w w5 ∧ w5.ownsRow gb 56 7 (.slice (some ⟨g5, 0, none⟩) (i + 1) c5) (i + 1) (Ym (xs ++ [(OpV.mk ok os on ott mar oT oE, .slice A6 ml c6)])) ∧
        (∀ x ∈ xs ++ [(OpV.mk ok os on ott mar oT oE, .slice A6 ml c6)], Yz gb w5 x.1 x.2) ∧ g5 ≠ gb) := by
       exact N14
      clear hown6 hb6 q3 ql d0 d1 d2 d3 d4 d5 d6 hc0
     rotate_left 1
     focus
      go_wp2_with fail;refine (CO.out _ HRA3.out).mono ?_;rintro en w4 ⟨A6, c6, rfl, hown6, hb6⟩;have hs34 := hb6.size;have HX4 : Hid (Blk w4 gb 26 #[ct, dl, jp, .slice A' i c']) := HX3.below hb6 HX3.lt;have HZ4 : Hid (Blk w4 (gb + 1) 26 #[.string ⟨#[]⟩, .int .i64 0, .int .i64 0, .slice none 0 0]) := HZ3.below hb6 HZ3.lt;have HO4 : Hid (w4.ownsRow gb 56 7 (.slice A' i c') i (Ym xs)) := Yc HO3.out hb6;have HA4 : Hid (∀ x ∈ xs, Yz gb w4 x.1 x.2) := fun x hx => (HA3.out x hx).below hb6 (Nat.le_refl _);have HB4 : Hid (Below gb w w4) := HB3.trans (hb6.mono hsz);have HM4 : Hid (w4.ownsRow gb 99 2 (.slice A6 ml c6) ml (Zz mar)) := Vi hown6 hsz;have hsz4 : gb ≤ w4.heap.size := Nat.le_trans hsz hs34;have r3 := HX4.cell 3;have rl := HX4.lt;have r3x := (HX4.alloc (.cells #[ok, os, on, ott, .slice A6 ml c6, oT, oE] 56)).cell 3;have rlx := (HX4.alloc (.cells #[ok, os, on, ott, .slice A6 ml c6, oT, oE] 56)).lt;simp only [List.getElem?_toArray, List.getElem?_cons_zero, List.getElem?_cons_succ] at r3 r3x
      have HEND : Hid (∀ (g5 c5 : Nat) (w5 : World), w5.ownsRow gb 56 7 (.slice (some ⟨g5, 0, none⟩) (i + 1) c5) (i + 1) (Ym xs ++ [.int .i64 ok, .string os, .int .i64 on, .int .i64 ott, .slice A6 ml c6, .int .i64 oT, .int .i64 oE]) → Za (fun k => (Value.slice A' i c').ownBlock = some k) w4 w5 →
        Blk w5 gb 26 #[ct, dl, jp, .slice A' i c'] ∧ Blk w5 (gb + 1) 26 #[.string ⟨#[]⟩, .int .i64 0, .int .i64 0, .slice none 0 0] ∧ Below gb w w5 ∧ w5.ownsRow gb 56 7 (.slice (some ⟨g5, 0, none⟩) (i + 1) c5) (i + 1) (Ym (xs ++ [(OpV.mk ok os on ott mar oT oE, .slice A6 ml c6)])) ∧
        (∀ x ∈ xs ++ [(OpV.mk ok os on ott mar oT oE, .slice A6 ml c6)], Yz gb w5 x.1 x.2) ∧ g5 ≠ gb) := by
       exact N14
      clear hown6 hb6 q3 ql d0 d1 d2 d3 d4 d5 d6 hc0;go_wp2_with fail;refine Zj rfl rfl ?_ ?_
      focus
       skip
      rotate_left 1
      focus
       skip
    all_goals
     go_wp2_with fail;refine Zc rfl ?_;go_wp2_with fail;refine Zc rfl ?_;go_wp2_with (at_builtin; refine Wb _ rfl _ _ 24 rfl gb 56 _ 7 80 Tryz.underlying24 Zd9 rfl ac _ _ _ rfl HO4.out 1 [ok, os, on, ott, .slice A6 ml c6, oT, oE] rfl rfl rfl ?_ ac hsz4 ?_)
     ·omega
     intro g5 c5 w5 hown5 hk5 hf5;obtain ⟨HX5, HZ5, HB5, HO5, HA5, hg5⟩ := HEND.out g5 c5 w5 hown5 hk5;have q5 := HX5.cell 3;have qf5 := HX5.frozen 3;have ql5 := HX5.lt;have HX5 := hid HX5; have HZ5 := hid HZ5; have HB5 := hid HB5; have HO5 := hid HO5; have HA5 := hid HA5;clear hown5 hk5 hf5 r3 r3x rl rlx;go_wp2_with fail;refine Zb rfl ?_
     go_big_quiet_step (fail)
     refine wpQuiet_nil ?_;refine Zc rfl ?_;go_wp2_with fail;refine Yi ?_;go_wp2_with fail;go_roundw
     case rel => exact ⟨i + 1, c5, some ⟨g5, 0, none⟩, xs ++ [(OpV.mk ok os on ott mar oT oE, .slice A6 ml c6)], aa, aa, aw, HX5.set 3 _, HZ5.set_far aa, Yo HO5.out ⟨gb, 3, none⟩ _ gj, HXS2.out _, fun x hx => (HA5.out x hx).set HX5.out ac, HB5.setCell (Nat.le_refl _) _⟩
     case measure => simp [intOf]; omega
   ·have HE : Hid (R = (ops.take i).map Kq ∧ R.length = i) := by
     have e : R = (ops.take i).map Kq := by rw [← HRR.out, show i = most from aa]
     exact N79
    exact N23
  ·have HE : Hid (R = (ops.take i).map Kq ∧ R.length = i) := by
    have e : R = (ops.take i).map Kq := fa
    exact N79
   exact N23
theorem Zhb (long : Nat) (s : ByteArray) (h : long ≤ 1000) : (Kk long s).size ≤ 9223372036854775807 := by have := Za8 long s; omega
theorem Zq7 (o : OpV) (h : Zib o) : Zib (Kq o) := by
 obtain ⟨h0, h1, h2, h3, h4, h5, h6, h7⟩ := h;refine ⟨h0, Zhb _ _ aa, h2, h3, ?_, fun m hm => ?_, h6, h7⟩
 ·show ((o.arms.take 10).map Ke).length ≤ _
  rw [List.length_map, List.length_take]; omega
 ·obtain ⟨x, hx, rfl⟩ := List.mem_map.1 hm
  exact ⟨Zhb _ _ aa, (h5 x (List.mem_of_mem_take hx)).2⟩
theorem Zq3 (p : Xl) (most : Nat) (h : Jb p) : Jb (Zer p most) := by
 obtain ⟨h0, h1, h2, h3, h4⟩ := h;refine ⟨Zhb _ _ aa, h1, h2, ?_, fun o ho => ?_⟩
 ·show ((p.ops.take most).map Kq).length ≤ _
  rw [List.length_map, List.length_take]; omega
 ·obtain ⟨x, hx, rfl⟩ := List.mem_map.1 ho
  exact Zq7 x (h4 x (List.mem_of_mem_take hx))
/-! ### An op laid into a row -/
end Go.Proofs.YtpkkfdmhbbipoaaGreat
