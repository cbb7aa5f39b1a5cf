/- ProgFirst: for every script and op the law answers true. No condition. -/
import Derived.Test.YtokeacnanfgmbaaPc
import Derived.Test.YtokeacnanfgmbaaMi
namespace Go.Proofs.Ytokeacnanfgmbaa
open Go.RowKit PopT

set_option maxRecDepth 20000 in
set_option maxHeartbeats 8000000 in
theorem progFirst_any (A : Option Addr) (c : Nat) (B : Option Addr) (d : Nat) (p : ProgV) (o : OpV) (w : World) (hin : OpsIn w A p.ops) (hok : ProgOk p) (hrd : Rd w B (armVCells o.arms)) (hoo : OpOk o) :
    Calls Try.prog 4 #[p.val (.slice A p.ops.length c), o.val (.slice B o.arms.length d)] w fun e w' => e = .returned (.bool true) ∧ Below w.heap.size w w' := by
  have HF1 := hid (fewP_ok p 10 hok)
  have CF0 := hid (fun W (h : OpsIn W A p.ops) => fewP_any p A c 10 W h hok (by omega))
  have HTW := hid (fewP_twice p 10)
  have CL := hid (fun W => lives13_any W)
  obtain ⟨p1, hp1⟩ : ∃ q, fewP p 10 = q := ⟨_, rfl⟩
  rw [hp1] at HF1 CF0 HTW
  have CF1 := hid (fun A' c' W (h : OpsIn W A' p1.ops) => fewP_any p1 A' c' 10 W h HF1.out (by omega))
  rw [HTW.out] at CF1
  have CO := hid (fun W (h : Rd W B (armVCells o.arms)) => opL_any o B d W h hoo)
  have HWF := hid (fun (k e : Nat) => wrong_first p1.name p1.deadline p1.jumps p1.ops k e (cutO o))
  have HARM : Hid (∀ x ∈ p1.ops, x.arms.length ≤ 9223372036854775807) := fun x hx => (HF1.out.2.2.2.2 x hx).2.2.2.2.1
  have HARM2 : Hid (∀ k, ∀ x ∈ p1.ops.set k (cutO o), x.arms.length ≤ 9223372036854775807) := fun k x hx => by
    rcases List.mem_or_eq_of_mem_set hx with hx | hx
    · exact HARM.out x hx
    · subst hx; exact (cutO_ok o hoo).2.2.2.2.1
  have CW := hid (fun A' c' W (h : OpsIn W A' p1.ops) => progWrong_any p1 A' c' W h HF1.out.2.2.2.1 HF1.out.1 HARM.out)
  have CW2 := hid (fun A' c' k W (h : OpsIn W A' (p1.ops.set k (cutO o))) => progWrong_any ⟨p1.name, p1.deadline, p1.jumps, p1.ops.set k (cutO o)⟩ A' c' W h (by show (p1.ops.set k (cutO o)).length ≤ _; rw [List.length_set]; exact HF1.out.2.2.2.1) HF1.out.1 (HARM2.out k))
  obtain ⟨⟨at', e⟩, hwr⟩ : ∃ r, wrongM p1 = r := ⟨_, rfl⟩
  rw [hwr] at CW
  simp only at CW
  have HWR := hid hwr
  have hle := wrongM_le p1
  rw [hwr] at hle
  have HIN := hid hin; have HRD := hid hrd
  clear hwr hp1 hin hrd hok hoo HARM HARM2
  obtain ⟨nm1, dl1, jp1, ops1⟩ := p1
  simp only at HF1 CF1 CW CW2 HWF hle
  obtain ⟨co, hco⟩ : ∃ q, cutO o = q := ⟨_, rfl⟩
  rw [hco] at CO CW2 HWF
  obtain ⟨ck, ctx, cn, ctt, carms, coT, coE⟩ := co
  obtain ⟨nm, dl, jp, ops⟩ := p
  obtain ⟨ok, otx, on, ott, oar, oT, oE⟩ := o
  simp only at HIN HRD CO
  obtain ⟨n0, hn0⟩ : ∃ n, ops.length = n := ⟨_, rfl⟩
  obtain ⟨l0, hl0⟩ : ∃ n, oar.length = n := ⟨_, rfl⟩
  obtain ⟨n, hn⟩ : ∃ n, ops1.length = n := ⟨_, rfl⟩
  have HN := hid hn
  rw [hn] at hle
  have CF0' : Hid (∀ W, OpsIn W A ops → Calls Try.prog 13 #[.agg #[.string nm, .int .i64 dl, .int .i64 jp, .slice A ops.length c], .int .i64 10] W fun e w' => ∃ A' c', e = .returned (.agg #[.string nm1, .int .i64 dl1, .int .i64 jp1, .slice A' ops1.length c']) ∧ OpsOwn W.heap.size w' (.slice A' ops1.length c') ops1 ∧ Below W.heap.size W w') := CF0.out
  have CF1' : Hid (∀ A' c' W, OpsIn W A' ops1 → Calls Try.prog 13 #[.agg #[.string nm1, .int .i64 dl1, .int .i64 jp1, .slice A' ops1.length c'], .int .i64 10] W fun e w' => ∃ A' c', e = .returned (.agg #[.string nm1, .int .i64 dl1, .int .i64 jp1, .slice A' ops1.length c']) ∧ OpsOwn W.heap.size w' (.slice A' ops1.length c') ops1 ∧ Below W.heap.size W w') := CF1.out
  have CW' : Hid (∀ A' c' W, OpsIn W A' ops1 → Calls Try.prog 11 #[.agg #[.string nm1, .int .i64 dl1, .int .i64 jp1, .slice A' ops1.length c']] W fun e' w' => e' = .returned (.tuple #[.int .i64 at', .int .i64 ((e : Nat) : Int)]) ∧ Below W.heap.size W w') := CW.out
  have CW2' : Hid (∀ A' c' k W, OpsIn W A' (ops1.set k ⟨ck, ctx, cn, ctt, carms, coT, coE⟩) → Calls Try.prog 11 #[.agg #[.string nm1, .int .i64 dl1, .int .i64 jp1, .slice A' ops1.length c']] W fun e' w' => e' = .returned (.tuple #[.int .i64 (wrongM ⟨nm1, dl1, jp1, ops1.set k ⟨ck, ctx, cn, ctt, carms, coT, coE⟩⟩).1, .int .i64 (((wrongM ⟨nm1, dl1, jp1, ops1.set k ⟨ck, ctx, cn, ctt, carms, coT, coE⟩⟩).2 : Nat) : Int)]) ∧ Below W.heap.size W w') := fun A' c' k W h => by
    have := CW2.out A' c' k W h
    rw [List.length_set] at this
    exact this
  have CO' : Hid (∀ W, Rd W B (armVCells oar) → Calls Try.prog 14 #[.agg #[.int .i64 ok, .string otx, .int .i64 on, .int .i64 ott, .slice B oar.length d, .int .i64 oT, .int .i64 oE]] W fun e w' => ∃ A' c', e = .returned (.agg #[.int .i64 ck, .string ctx, .int .i64 cn, .int .i64 ctt, .slice A' carms.length c', .int .i64 coT, .int .i64 coE]) ∧
      w'.ownsRow W.heap.size 40 2 (.slice A' carms.length c') carms.length (armVCells carms) ∧ Below W.heap.size W w') := CO.out
  show Calls Try.prog 4 #[.agg #[.string nm, .int .i64 dl, .int .i64 jp, .slice A ops.length c], .agg #[.int .i64 ok, .string otx, .int .i64 on, .int .i64 ott, .slice B oar.length d, .int .i64 oT, .int .i64 oE]] w fun e w' => e = .returned (.bool true) ∧ Below w.heap.size w w'
  rw [hn0] at CF0' ⊢
  rw [hl0] at CO' ⊢
  rw [hn] at CF0' CF1' CW' CW2'
  have hn10 : n ≤ 10 := by
    have h1 := congrArg (fun q : ProgV => q.ops.length) HTW.out
    simp only [fewP, List.length_map, List.length_take, hn] at h1
    omega
  clear hn hn0 hl0 CF0 CF1 CW CW2 CO hco HTW HF1
  obtain ⟨ml, hml⟩ : ∃ l, carms.length = l := ⟨_, rfl⟩
  have HML := hid hml
  rw [hml] at CO'
  clear hml
  obtain ⟨Q, hQ⟩ : ∃ Q : Ending → World → Prop, (fun e w' => e = .returned (.bool true) ∧ Below w.heap.size w w') = Q := ⟨_, rfl⟩
  have HQ : Hid (∀ W, Below w.heap.size w W → Q (.returned (.bool true)) W) := fun W h => by rw [← hQ]; exact ⟨rfl, h⟩
  rw [show (fun e w' => e = Ending.returned (.bool true) ∧ Below w.heap.size w w') = Q from hQ]
  clear hQ
  go_enter Try.func4, Try.ntmps4
  go_upto_region 1 with fail
  obtain ⟨wb, hwb⟩ : ∃ W, (w.alloc (.cells #[.string nm, .int .i64 dl, .int .i64 jp, .slice A n0 c] 24)).alloc (.cells #[.int .i64 ok, .string otx, .int .i64 on, .int .i64 ott, .slice B l0 d, .int .i64 oT, .int .i64 oE] 27) = W := ⟨_, rfl⟩
  have HB0 : Hid (Below w.heap.size w wb) := by rw [← hwb]; exact below2 _ _ _
  have HP0 : Hid (Blk wb w.heap.size 24 #[.string nm, .int .i64 dl, .int .i64 jp, .slice A n0 c]) := by rw [← hwb]; exact (Blk.new w _ _).alloc _
  have HO0 : Hid (Blk wb (w.heap.size + 1) 27 #[.int .i64 ok, .string otx, .int .i64 on, .int .i64 ott, .slice B l0 d, .int .i64 oT, .int .i64 oE]) := by rw [← hwb]; exact new2 _ _ _ _
  rw [hwb]
  clear hwb
  have HGW : Hid (∀ g, w.heap.size ≤ g → w.heap.size ≤ g) := fun _ h => h
  obtain ⟨gp, hgp⟩ : ∃ g, w.heap.size = g := ⟨_, rfl⟩
  have HGP := hid hgp
  rw [hgp] at HP0 HO0 ⊢
  obtain ⟨go, hgo⟩ : ∃ g, gp + 1 = g := ⟨_, rfl⟩
  have hgog : gp < go := by omega
  rw [hgo] at HO0 ⊢
  clear hgp hgo HGW
  -- the script, cut
  obtain ⟨p0, p1, p2, p3⟩ := fact4 HP0.out
  have hpl := HP0.out.lt
  have C1 := hid (CF0'.out wb (HIN.out.below HB0.out))
  clear CF0'
  have pf0 := HP0.out.frozen 0
  go_wp2_with fail
  refine C1.out.mono ?_
  rintro en w1 ⟨A1, c1, rfl, hown1, hb1⟩
  have HP1 : Hid (Blk w1 gp 24 #[.string nm, .int .i64 dl, .int .i64 jp, .slice A n0 c]) := HP0.out.below hb1 HP0.out.lt
  have HO1 : Hid (Blk w1 go 27 #[.int .i64 ok, .string otx, .int .i64 on, .int .i64 ott, .slice B l0 d, .int .i64 oT, .int .i64 oE]) := HO0.out.below hb1 HO0.out.lt
  have HB1 : Hid (Below w.heap.size w w1) := HB0.out.trans (hb1.mono HB0.out.size)
  have HW1 := hid hown1
  have hsb := HB0.out.size
  clear C1 hown1 hb1 p0 p1 p2 p3 hpl pf0 HP0 HO0
  obtain ⟨p0, p1, p2, p3⟩ := fact4 HP1.out
  have hpl := HP1.out.lt
  have f0 := HP1.out.frozen 0; have f1 := HP1.out.frozen 1; have f2 := HP1.out.frozen 2; have f3 := HP1.out.frozen 3
  go_upto_region 2 with fail
  obtain ⟨w2, hw2⟩ : ∃ W, set4 w1 gp (.string nm1) (.int .i64 dl1) (.int .i64 jp1) (.slice A1 n c1) = W := ⟨_, rfl⟩
  have HP2 : Hid (Blk w2 gp 24 #[.string nm1, .int .i64 dl1, .int .i64 jp1, .slice A1 n c1]) := by rw [← hw2]; exact set4_blk HP1.out _ _ _ _
  have HO2 : Hid (Blk w2 go 27 #[.int .i64 ok, .string otx, .int .i64 on, .int .i64 ott, .slice B l0 d, .int .i64 oT, .int .i64 oE]) := by rw [← hw2]; exact (((HO1.out.set_far (Nat.ne_of_gt hgog)).set_far (Nat.ne_of_gt hgog)).set_far (Nat.ne_of_gt hgog)).set_far (Nat.ne_of_gt hgog)
  have HW2 : Hid (OpsOwn wb.heap.size w2 (.slice A1 n c1) ops1) := by rw [← hw2]; exact set4_ops HW1.out HP1.out _ _ _ _
  have HB2 : Hid (Below w.heap.size w w2) := by rw [← hw2]; exact set4_below HB1.out (by rw [HGP.out]; exact Nat.le_refl _) _ _ _ _
  unfold set4 at hw2
  rw [hw2]
  clear hw2 p0 p1 p2 p3 hpl f0 f1 f2 f3 HP1 HO1 HW1 HB1
  -- it is judged
  obtain ⟨p0, p1, p2, p3⟩ := fact4 HP2.out
  have hpl := HP2.out.lt
  have C2 := hid (CF1'.out A1 c1 w2 (HW2.out.inn HN.out))
  go_wp2_with fail
  refine C2.out.mono ?_
  rintro en w3 ⟨A2, c2, rfl, hown3, hb3⟩
  have HB3 : Hid (Below w.heap.size w w3) := HB2.out.trans (hb3.mono HB2.out.size)
  have HP3 : Hid (Blk w3 gp 24 #[.string nm1, .int .i64 dl1, .int .i64 jp1, .slice A1 n c1]) := HP2.out.below hb3 HP2.out.lt
  have HO3 : Hid (Blk w3 go 27 #[.int .i64 ok, .string otx, .int .i64 on, .int .i64 ott, .slice B l0 d, .int .i64 oT, .int .i64 oE]) := HO2.out.below hb3 HO2.out.lt
  have HW3 : Hid (OpsOwn wb.heap.size w3 (.slice A1 n c1) ops1) := HW2.out.below hb3 (Nat.le_refl _)
  have C3 := hid (CW'.out A2 c2 w3 (hown3.inn HN.out))
  clear hown3 hb3 C2 p0 p1 p2 p3 hpl HP2 HO2 HW2 HB2 CW'
  go_wp2_with fail
  refine C3.out.mono ?_
  rintro en w4 ⟨rfl, hb4⟩
  have HB4 : Hid (Below w.heap.size w w4) := HB3.out.trans (hb4.mono HB3.out.size)
  have HP4 : Hid (Blk w4 gp 24 #[.string nm1, .int .i64 dl1, .int .i64 jp1, .slice A1 n c1]) := HP3.out.below hb4 HP3.out.lt
  have HO4 : Hid (Blk w4 go 27 #[.int .i64 ok, .string otx, .int .i64 on, .int .i64 ott, .slice B l0 d, .int .i64 oT, .int .i64 oE]) := HO3.out.below hb4 HO3.out.lt
  have HW4 : Hid (OpsOwn wb.heap.size w4 (.slice A1 n c1) ops1) := HW3.out.below hb4 (Nat.le_refl _)
  clear C3 hb4 HB3 HP3 HO3 HW3
  obtain ⟨p0, p1, p2, p3⟩ := fact4 HP4.out
  have hpl := HP4.out.lt
  have LV := hid (CL.out w4)
  by_cases he : e = 0
  · subst he
    go_wp2_with fail
    refine LV.out.mono ?_
    rintro en wz ⟨rfl, hbz⟩
    have HBZ := hid (HB4.out.trans (hbz.mono HB4.out.size))
    clear LV hbz
    go_wp2_with fail
    try go_ret
    exact HQ.out _ HBZ.out
  have he0 : ((e : Int) == 0) = false := by rw [beq_eq_false_iff_ne]; omega
  have he1 : ((e : Int) != 0) = true := by rw [bne, he0]; rfl
  by_cases ha : at' < 0
  · go_wp2_with fail
    refine LV.out.mono ?_
    rintro en wz ⟨rfl, hbz⟩
    have HBZ := hid (HB4.out.trans (hbz.mono HB4.out.size))
    clear LV hbz
    go_wp2_with fail
    try go_ret
    exact HQ.out _ HBZ.out
  obtain ⟨k, rfl⟩ : ∃ k : Nat, at' = k := ⟨at'.toNat, by omega⟩
  have hk0 : ¬ (k : Int) < 0 := by omega
  have hkb : (k : Int) ≤ 10 := by omega
  by_cases hk : (n : Int) ≤ (k : Int) + 1
  · go_wp2_with fail
    refine LV.out.mono ?_
    rintro en wz ⟨rfl, hbz⟩
    have HBZ := hid (HB4.out.trans (hbz.mono HB4.out.size))
    clear LV hbz
    go_wp2_with fail
    try go_ret
    exact HQ.out _ HBZ.out
  have hk2 : (k : Int) + 1 < (n : Int) := by omega
  have HWK : Hid (wrongM ⟨nm1, dl1, jp1, ops1.set (k + 1) ⟨ck, ctx, cn, ctt, carms, coT, coE⟩⟩ = ((k : Int), e)) := HWF.out k e HWR.out he
  have CW3 : Hid (∀ A' c' W, OpsIn W A' (ops1.set (k + 1) ⟨ck, ctx, cn, ctt, carms, coT, coE⟩) → Calls Try.prog 11 #[.agg #[.string nm1, .int .i64 dl1, .int .i64 jp1, .slice A' n c']] W fun e' w' => e' = .returned (.tuple #[.int .i64 (k : Int), .int .i64 ((e : Nat) : Int)]) ∧ Below W.heap.size W w') := fun A' c' W h => by
    have := CW2'.out A' c' (k + 1) W h
    rw [HWK.out] at this
    exact this
  have HE := hid he
  clear CW2' HWK HWF HWR he ha LV
  have C4 := hid (CF1'.out A1 c1 w4 (HW4.out.inn HN.out))
  clear CF1'
  go_wp2_with fail
  refine C4.out.mono ?_
  rintro en w5 ⟨A3, c3, rfl, hown5, hb5⟩
  have HB5 : Hid (Below w.heap.size w w5) := HB4.out.trans (hb5.mono HB4.out.size)
  have HO5 : Hid (Blk w5 go 27 #[.int .i64 ok, .string otx, .int .i64 on, .int .i64 ott, .slice B l0 d, .int .i64 oT, .int .i64 oE]) := HO4.out.below hb5 HO4.out.lt
  obtain ⟨g3, hA3, hbg3, hlg3⟩ := hown5.some HN.out (by omega)
  subst hA3
  have HW5 := hid hown5
  have HBG := hid hbg3
  have HS4 : Hid (w.heap.size ≤ w4.heap.size) := HB4.out.size
  clear C4 hown5 hb5 p0 p1 p2 p3 hpl HB4 HP4 HO4 HW4 hbg3 hlg3
  go_upto_region 6 with fail
  obtain ⟨w6, hw6⟩ : ∃ W, w5.alloc (.cells #[.string nm1, .int .i64 dl1, .int .i64 jp1, .slice (some ⟨g3, 0, none⟩) n c3] 24) = W := ⟨_, rfl⟩
  have HB6 : Hid (Below w.heap.size w w6) := by rw [← hw6]; exact HB5.out.alloc HB5.out.size _
  have HO6 : Hid (Blk w6 go 27 #[.int .i64 ok, .string otx, .int .i64 on, .int .i64 ott, .slice B l0 d, .int .i64 oT, .int .i64 oE]) := by rw [← hw6]; exact HO5.out.alloc _
  have HQ6 : Hid (Blk w6 w5.heap.size 24 #[.string nm1, .int .i64 dl1, .int .i64 jp1, .slice (some ⟨g3, 0, none⟩) n c3]) := by rw [← hw6]; exact Blk.new w5 _ _
  have HW6 : Hid (OpsOwn w4.heap.size w6 (.slice (some ⟨g3, 0, none⟩) n c3) ops1) := by rw [← hw6]; exact HW5.out.below ((Below.refl _ _).alloc (Nat.le_refl _) _) (Nat.le_refl _)
  rw [hw6]
  clear hw6 HB5 HO5 HW5
  obtain ⟨gq, hgq⟩ : ∃ g, w5.heap.size = g := ⟨_, rfl⟩
  rw [hgq] at HQ6 ⊢
  clear hgq
  refine wp_region_ord (.val 0 (.val 2 (.val 3 (.two 1 (.op 4 (.op 5 (.val 6 (.op 7 (.nil))))) 4 (.two 1 (.op 5 (.val 6 (.op 7 (.nil)))) 5 (.op 1 (.val 6 (.op 7 (.nil))))))))) (by kernel_rfl) (by kernel_rfl) ?_
  obtain ⟨w7, hw7⟩ : ∃ W, w6.drewN 1 = W := ⟨_, rfl⟩
  have HD7 : Hid (Below w6.heap.size w6 w7) := by rw [← hw7]; exact drewN_below w6 1
  have HB7 := hid (HB6.out.trans (HD7.out.mono HB6.out.size))
  have HO7 := hid (HO6.out.below HD7.out HO6.out.lt)
  have HQ7 := hid (HQ6.out.below HD7.out HQ6.out.lt)
  have HW7 := hid (HW6.out.below HD7.out (Nat.le_refl _))
  rw [hw7]
  clear hw7 HD7 HB6 HO6 HQ6 HW6
  have q3 := HQ7.out.cell 3
  have ql := HQ7.out.lt
  simp only [List.getElem?_toArray, List.getElem?_cons_zero, List.getElem?_cons_succ] at q3
  obtain ⟨o0, o1, o2, o3, o4, o5, o6⟩ := fact7 HO7.out
  have ol := HO7.out.lt
  obtain ⟨j, hj⟩ : ∃ j, k + 1 = j := ⟨_, rfl⟩
  have hk1 : j < n := by omega
  have hkj : (k : Int) + 1 = (j : Int) := by omega
  rw [hj] at CW3
  have HJ := hid hj
  clear hj hk
  have C5 := hid (CO'.out w7 (HRD.out.below HB7.out))
  have hg3l : g3 < w7.heap.size := by
    obtain ⟨g', h1, h2, h3⟩ := HW7.out.some HN.out (by omega)
    injection h1 with h1; injection h1 with h1; omega
  clear CO'
  refine wpOrd_val rfl ?_
  go_big_quiet_step (fail)
  refine wpQuiet_nil ?_
  refine wpOrd_val rfl ?_
  go_big_quiet_step (fail)
  refine wpQuiet_nil ?_
  refine wpOrd_val rfl ?_
  go_big_quiet_step (fail)
  refine wpQuiet_nil ?_
  refine wpOrd_two rfl rfl ?_ ?_
  · skip
    go_wp2_with fail
    refine wpOrd_op rfl ?_
    go_wp2_with fail
    refine wpOrd_op rfl ?_
    go_wp2_with fail
    refine C5.out.mono ?_
    rintro en w8 ⟨A8, c8, rfl, hown8, hb8⟩
    have HB8 : Hid (Below w.heap.size w w8) := HB7.out.trans (hb8.mono HB7.out.size)
    have HQ8 : Hid (Blk w8 gq 24 #[.string nm1, .int .i64 dl1, .int .i64 jp1, .slice (some ⟨g3, 0, none⟩) n c3]) := HQ7.out.below hb8 HQ7.out.lt
    have HW8 : Hid (OpsOwn w.heap.size w8 (.slice (some ⟨g3, 0, none⟩) n c3) ops1) := (HW7.out.below hb8 (Nat.le_refl _)).base HS4.out
    have HA8 : Hid (ArmsOwn w.heap.size w8 ⟨ck, ctx, cn, ctt, carms, coT, coE⟩ (.slice A8 ml c8)) := ⟨A8, c8, by show _ = Value.slice A8 carms.length c8; rw [HML.out], by show w8.ownsRow _ _ _ _ carms.length _; rw [HML.out]; exact own_base hown8 HB7.out.size⟩
    have q38 := HQ8.out.cell 3
    have ql8 := HQ8.out.lt
    simp only [List.getElem?_toArray, List.getElem?_cons_zero, List.getElem?_cons_succ] at q38
    have hg38 : g3 < w8.heap.size := Nat.lt_of_lt_of_le hg3l hb8.size
    have HROW := hid (row_cells HW8.out HN.out hk1)
    clear hown8 hb8 C5 q3 ql o0 o1 o2 o3 o4 o5 o6 ol hg3l HQ7 HB7 HO7 HW7
    obtain ⟨t0, t1, t2, t3, t4, t5, t6, tf⟩ := HROW.out
    have tf0 := tf (j * 7); have tf1 := tf (j * 7 + 1); have tf2 := tf (j * 7 + 2); have tf3 := tf (j * 7 + 3); have tf4 := tf (j * 7 + 4); have tf5 := tf (j * 7 + 5); have tf6 := tf (j * 7 + 6)
    clear tf HROW
    obtain ⟨y0, t0⟩ := t0
    obtain ⟨y1, t1⟩ := t1
    obtain ⟨y2, t2⟩ := t2
    obtain ⟨y3, t3⟩ := t3
    obtain ⟨y4, t4⟩ := t4
    obtain ⟨y5, t5⟩ := t5
    obtain ⟨y6, t6⟩ := t6
    go_wp2_with fail
    refine wpOrd_val rfl ?_
    go_big_quiet_step (fail)
    refine wpQuiet_nil ?_
    refine wpOrd_op rfl ?_
    go_wp2_with fail
    refine wpOrd_nil ?_
    obtain ⟨w9, hw9⟩ : ∃ W, set7o w8 g3 (j * 7) (.int .i64 ck) (.string ctx) (.int .i64 cn) (.int .i64 ctt) (.slice A8 ml c8) (.int .i64 coT) (.int .i64 coE) = W := ⟨_, rfl⟩
    have hgg : gq ≠ g3 ∧ w.heap.size ≤ g3 := by
      obtain ⟨xs, h1, h2, h3⟩ := HW8.out
      exact ⟨fun h => blk_ne HQ8.out h2 (by decide) (by rw [h]; rfl), (h2.lt g3 rfl).1⟩
    have HW9 : Hid (OpsOwn w.heap.size w9 (.slice (some ⟨g3, 0, none⟩) n c3) (ops1.set j ⟨ck, ctx, cn, ctt, carms, coT, coE⟩)) := by rw [← hw9]; exact HW8.out.setOp HN.out j hk1 ⟨ck, ctx, cn, ctt, carms, coT, coE⟩ (.slice A8 ml c8) HA8.out
    have HQ9 : Hid (Blk w9 gq 24 #[.string nm1, .int .i64 dl1, .int .i64 jp1, .slice (some ⟨g3, 0, none⟩) n c3]) := by rw [← hw9]; exact set7o_blk HQ8.out hgg.1 _ _ _ _ _ _ _
    have HB9 : Hid (Below w.heap.size w w9) := by rw [← hw9]; exact set7o_below HB8.out hgg.2 _ _ _ _ _ _ _
    unfold set7o at hw9
    rw [hw9]
    have C9 := hid (CW3.out (some ⟨g3, 0, none⟩) c3 w9 (HW9.out.inn (by rw [List.length_set]; exact HN.out)))
    clear hw9 hgg t0 t1 t2 t3 t4 t5 t6 tf0 tf1 tf2 tf3 tf4 tf5 tf6 q38 ql8 hg38 HW8 HQ8 HB8 HA8 CW3
    obtain ⟨p0, p1, p2, p3⟩ := fact4 HQ9.out
    have hpl := HQ9.out.lt
    go_wp2_with fail
    refine C9.out.mono ?_
    rintro en wy ⟨rfl, hby⟩
    have HBY := hid (HB9.out.trans (hby.mono HB9.out.size))
    clear hby C9 p0 p1 p2 p3 hpl HQ9 HW9 HB9
    have LV := hid (CL.out wy)
    go_wp2_with fail
    refine LV.out.mono ?_
    rintro en wz ⟨rfl, hbz⟩
    have HBZ := hid (HBY.out.trans (hbz.mono HBY.out.size))
    clear LV hbz
    go_wp2_with fail
    try go_ret
    exact HQ.out _ HBZ.out
  · skip
    go_wp2_with fail
    refine wpOrd_two rfl rfl ?_ ?_
    · skip
      go_wp2_with fail
      refine wpOrd_op rfl ?_
      go_wp2_with fail
      refine C5.out.mono ?_
      rintro en w8 ⟨A8, c8, rfl, hown8, hb8⟩
      have HB8 : Hid (Below w.heap.size w w8) := HB7.out.trans (hb8.mono HB7.out.size)
      have HQ8 : Hid (Blk w8 gq 24 #[.string nm1, .int .i64 dl1, .int .i64 jp1, .slice (some ⟨g3, 0, none⟩) n c3]) := HQ7.out.below hb8 HQ7.out.lt
      have HW8 : Hid (OpsOwn w.heap.size w8 (.slice (some ⟨g3, 0, none⟩) n c3) ops1) := (HW7.out.below hb8 (Nat.le_refl _)).base HS4.out
      have HA8 : Hid (ArmsOwn w.heap.size w8 ⟨ck, ctx, cn, ctt, carms, coT, coE⟩ (.slice A8 ml c8)) := ⟨A8, c8, by show _ = Value.slice A8 carms.length c8; rw [HML.out], by show w8.ownsRow _ _ _ _ carms.length _; rw [HML.out]; exact own_base hown8 HB7.out.size⟩
      have q38 := HQ8.out.cell 3
      have ql8 := HQ8.out.lt
      simp only [List.getElem?_toArray, List.getElem?_cons_zero, List.getElem?_cons_succ] at q38
      have hg38 : g3 < w8.heap.size := Nat.lt_of_lt_of_le hg3l hb8.size
      have HROW := hid (row_cells HW8.out HN.out hk1)
      clear hown8 hb8 C5 q3 ql o0 o1 o2 o3 o4 o5 o6 ol hg3l HQ7 HB7 HO7 HW7
      obtain ⟨t0, t1, t2, t3, t4, t5, t6, tf⟩ := HROW.out
      have tf0 := tf (j * 7); have tf1 := tf (j * 7 + 1); have tf2 := tf (j * 7 + 2); have tf3 := tf (j * 7 + 3); have tf4 := tf (j * 7 + 4); have tf5 := tf (j * 7 + 5); have tf6 := tf (j * 7 + 6)
      clear tf HROW
      obtain ⟨y0, t0⟩ := t0
      obtain ⟨y1, t1⟩ := t1
      obtain ⟨y2, t2⟩ := t2
      obtain ⟨y3, t3⟩ := t3
      obtain ⟨y4, t4⟩ := t4
      obtain ⟨y5, t5⟩ := t5
      obtain ⟨y6, t6⟩ := t6
      go_wp2_with fail
      refine wpOrd_val rfl ?_
      go_big_quiet_step (fail)
      refine wpQuiet_nil ?_
      refine wpOrd_op rfl ?_
      go_wp2_with fail
      refine wpOrd_nil ?_
      obtain ⟨w9, hw9⟩ : ∃ W, set7o w8 g3 (j * 7) (.int .i64 ck) (.string ctx) (.int .i64 cn) (.int .i64 ctt) (.slice A8 ml c8) (.int .i64 coT) (.int .i64 coE) = W := ⟨_, rfl⟩
      have hgg : gq ≠ g3 ∧ w.heap.size ≤ g3 := by
        obtain ⟨xs, h1, h2, h3⟩ := HW8.out
        exact ⟨fun h => blk_ne HQ8.out h2 (by decide) (by rw [h]; rfl), (h2.lt g3 rfl).1⟩
      have HW9 : Hid (OpsOwn w.heap.size w9 (.slice (some ⟨g3, 0, none⟩) n c3) (ops1.set j ⟨ck, ctx, cn, ctt, carms, coT, coE⟩)) := by rw [← hw9]; exact HW8.out.setOp HN.out j hk1 ⟨ck, ctx, cn, ctt, carms, coT, coE⟩ (.slice A8 ml c8) HA8.out
      have HQ9 : Hid (Blk w9 gq 24 #[.string nm1, .int .i64 dl1, .int .i64 jp1, .slice (some ⟨g3, 0, none⟩) n c3]) := by rw [← hw9]; exact set7o_blk HQ8.out hgg.1 _ _ _ _ _ _ _
      have HB9 : Hid (Below w.heap.size w w9) := by rw [← hw9]; exact set7o_below HB8.out hgg.2 _ _ _ _ _ _ _
      unfold set7o at hw9
      rw [hw9]
      have C9 := hid (CW3.out (some ⟨g3, 0, none⟩) c3 w9 (HW9.out.inn (by rw [List.length_set]; exact HN.out)))
      clear hw9 hgg t0 t1 t2 t3 t4 t5 t6 tf0 tf1 tf2 tf3 tf4 tf5 tf6 q38 ql8 hg38 HW8 HQ8 HB8 HA8 CW3
      obtain ⟨p0, p1, p2, p3⟩ := fact4 HQ9.out
      have hpl := HQ9.out.lt
      go_wp2_with fail
      refine C9.out.mono ?_
      rintro en wy ⟨rfl, hby⟩
      have HBY := hid (HB9.out.trans (hby.mono HB9.out.size))
      clear hby C9 p0 p1 p2 p3 hpl HQ9 HW9 HB9
      have LV := hid (CL.out wy)
      go_wp2_with fail
      refine LV.out.mono ?_
      rintro en wz ⟨rfl, hbz⟩
      have HBZ := hid (HBY.out.trans (hbz.mono HBY.out.size))
      clear LV hbz
      go_wp2_with fail
      try go_ret
      exact HQ.out _ HBZ.out
    · skip
      go_wp2_with fail
      refine C5.out.mono ?_
      rintro en w8 ⟨A8, c8, rfl, hown8, hb8⟩
      have HB8 : Hid (Below w.heap.size w w8) := HB7.out.trans (hb8.mono HB7.out.size)
      have HQ8 : Hid (Blk w8 gq 24 #[.string nm1, .int .i64 dl1, .int .i64 jp1, .slice (some ⟨g3, 0, none⟩) n c3]) := HQ7.out.below hb8 HQ7.out.lt
      have HW8 : Hid (OpsOwn w.heap.size w8 (.slice (some ⟨g3, 0, none⟩) n c3) ops1) := (HW7.out.below hb8 (Nat.le_refl _)).base HS4.out
      have HA8 : Hid (ArmsOwn w.heap.size w8 ⟨ck, ctx, cn, ctt, carms, coT, coE⟩ (.slice A8 ml c8)) := ⟨A8, c8, by show _ = Value.slice A8 carms.length c8; rw [HML.out], by show w8.ownsRow _ _ _ _ carms.length _; rw [HML.out]; exact own_base hown8 HB7.out.size⟩
      have q38 := HQ8.out.cell 3
      have ql8 := HQ8.out.lt
      simp only [List.getElem?_toArray, List.getElem?_cons_zero, List.getElem?_cons_succ] at q38
      have hg38 : g3 < w8.heap.size := Nat.lt_of_lt_of_le hg3l hb8.size
      have HROW := hid (row_cells HW8.out HN.out hk1)
      clear hown8 hb8 C5 q3 ql o0 o1 o2 o3 o4 o5 o6 ol hg3l HQ7 HB7 HO7 HW7
      obtain ⟨t0, t1, t2, t3, t4, t5, t6, tf⟩ := HROW.out
      have tf0 := tf (j * 7); have tf1 := tf (j * 7 + 1); have tf2 := tf (j * 7 + 2); have tf3 := tf (j * 7 + 3); have tf4 := tf (j * 7 + 4); have tf5 := tf (j * 7 + 5); have tf6 := tf (j * 7 + 6)
      clear tf HROW
      obtain ⟨y0, t0⟩ := t0
      obtain ⟨y1, t1⟩ := t1
      obtain ⟨y2, t2⟩ := t2
      obtain ⟨y3, t3⟩ := t3
      obtain ⟨y4, t4⟩ := t4
      obtain ⟨y5, t5⟩ := t5
      obtain ⟨y6, t6⟩ := t6
      go_wp2_with fail
      refine wpOrd_op rfl ?_
      go_wp2_with fail
      refine wpOrd_val rfl ?_
      go_big_quiet_step (fail)
      refine wpQuiet_nil ?_
      refine wpOrd_op rfl ?_
      go_wp2_with fail
      refine wpOrd_nil ?_
      obtain ⟨w9, hw9⟩ : ∃ W, set7o w8 g3 (j * 7) (.int .i64 ck) (.string ctx) (.int .i64 cn) (.int .i64 ctt) (.slice A8 ml c8) (.int .i64 coT) (.int .i64 coE) = W := ⟨_, rfl⟩
      have hgg : gq ≠ g3 ∧ w.heap.size ≤ g3 := by
        obtain ⟨xs, h1, h2, h3⟩ := HW8.out
        exact ⟨fun h => blk_ne HQ8.out h2 (by decide) (by rw [h]; rfl), (h2.lt g3 rfl).1⟩
      have HW9 : Hid (OpsOwn w.heap.size w9 (.slice (some ⟨g3, 0, none⟩) n c3) (ops1.set j ⟨ck, ctx, cn, ctt, carms, coT, coE⟩)) := by rw [← hw9]; exact HW8.out.setOp HN.out j hk1 ⟨ck, ctx, cn, ctt, carms, coT, coE⟩ (.slice A8 ml c8) HA8.out
      have HQ9 : Hid (Blk w9 gq 24 #[.string nm1, .int .i64 dl1, .int .i64 jp1, .slice (some ⟨g3, 0, none⟩) n c3]) := by rw [← hw9]; exact set7o_blk HQ8.out hgg.1 _ _ _ _ _ _ _
      have HB9 : Hid (Below w.heap.size w w9) := by rw [← hw9]; exact set7o_below HB8.out hgg.2 _ _ _ _ _ _ _
      unfold set7o at hw9
      rw [hw9]
      have C9 := hid (CW3.out (some ⟨g3, 0, none⟩) c3 w9 (HW9.out.inn (by rw [List.length_set]; exact HN.out)))
      clear hw9 hgg t0 t1 t2 t3 t4 t5 t6 tf0 tf1 tf2 tf3 tf4 tf5 tf6 q38 ql8 hg38 HW8 HQ8 HB8 HA8 CW3
      obtain ⟨p0, p1, p2, p3⟩ := fact4 HQ9.out
      have hpl := HQ9.out.lt
      go_wp2_with fail
      refine C9.out.mono ?_
      rintro en wy ⟨rfl, hby⟩
      have HBY := hid (HB9.out.trans (hby.mono HB9.out.size))
      clear hby C9 p0 p1 p2 p3 hpl HQ9 HW9 HB9
      have LV := hid (CL.out wy)
      go_wp2_with fail
      refine LV.out.mono ?_
      rintro en wz ⟨rfl, hbz⟩
      have HBZ := hid (HBY.out.trans (hbz.mono HBY.out.size))
      clear LV hbz
      go_wp2_with fail
      try go_ret
      exact HQ.out _ HBZ.out
end Go.Proofs.Ytokeacnanfgmbaa
namespace Go.Proofs.Ytokeacnanfgmbaa
open Go.ChangeShapes Go.WideShapes Go.ChangeAt Go.RowKit Go.WideElems Go.Deep
open Go.ChangeMaps (open_string shut_string)

set_option maxRecDepth 100000 in
theorem progFirst_lifted (os : Os) (started : os.Started) (H : Type) (enc : TypeId × Value → H) :
    ReturnsInHanded {} Try.checked os 4 .any (Rows.progFirstSpec.pre6 enc Try.prog Try.f4 [] false) (Rows.progFirstSpec.post enc Try.prog Try.f4 false true false false) := by
  refine law_lifted 4 Try.f4 Rows.progFirstSpec os started H enc Try.func4 (by kernel_rfl) (by kernel_rfl) (by kernel_rfl) rfl (fun ds h => ?_)
    (ChangeSpec.witness6 (enc := enc) (C := Try.checked) false ⟨#[], #[.agg #[.string ⟨#[]⟩, .int .i64 0, .int .i64 0, .slice none 0 0], .agg #[.int .i64 0, .string ⟨#[]⟩, .int .i64 0, .int .i64 0, .slice none 0 0, .int .i64 0, .int .i64 0]], []⟩ 8 (by kernel_rfl) (by kernel_rfl) (by kernel_rfl) (by kernel_rfl)) ?_
  · have hn : ds.length = 2 := h
    match ds, hn with
    | [d0, d1], _ => rfl
  · intro W args ds p base hval hA _ _
    rw [show Try.f4.params.toList = [24, 27] from by rw [Try.params4]] at hval hA
    obtain ⟨v0, _, d0, _, p0, _, rfl, rfl, rfl, h0, hA⟩ := all_cons hA
    obtain ⟨v1, _, d1, _, p1, _, rfl, rfl, rfl, h1, hA⟩ := all_cons hA
    obtain rfl := all_nil hA
    obtain ⟨p0, A0, c0, rfl, hi0, ho0⟩ := open_progArg (hval 0 _ v0 rfl rfl) h0
    obtain ⟨p1, A1, c1, rfl, hi1, ho1⟩ := open_opArg (hval 1 _ v1 rfl rfl) h1
    exact progFirst_any A0 c0 A1 c1 p0 p1 W hi0 ho0 hi1 ho1

theorem progFirst_holds : Rows.ProgFirstSaid :=
  OpenClaim.holds_of_wide 4 Try.f4 rfl rfl rfl rfl rfl rfl rfl ⟨rfl, rfl, rfl, rfl, rfl⟩ rfl rfl rfl rfl rfl (by kernel_rfl) Try.func4 (by kernel_rfl)
    (of_decide_eq_true (by kernel_rfl)) (by unfold Func.isWrapper; first | (rw [if_pos (by decide +kernel)]; kernel_rfl) | (rw [if_neg (by decide +kernel)]; exact ⟨rfl, rfl⟩))
    (fun os started H enc _ => progFirst_lifted os started H enc)
#print axioms progFirst_holds
end Go.Proofs.Ytokeacnanfgmbaa
