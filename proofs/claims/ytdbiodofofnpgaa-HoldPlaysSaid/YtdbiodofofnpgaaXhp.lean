/- The law HoldPlays: what is found, however bytes come and patterns change, and what is held, is as the page says. -/
import Derived.Test.YtdbiodofofnpgaaPl
import Derived.Test.YtdbiodofofnpgaaMi
namespace Go.Proofs.Ytdbiodofofnpgaa
open Go.RowKit PopT

theorem alloc_step (w : World) (t : TypeId) (cs : Array Value) : ∃ w' g, w.alloc (.cells cs t) = w' ∧ w.heap.size = g ∧ Below w.heap.size w w' ∧ Blk w' g t cs ∧ w.heap.size ≤ g ∧ g < w'.heap.size :=
  ⟨_, _, rfl, rfl, (Below.refl _ _).alloc (Nat.le_refl _) _, Blk.new w t cs, Nat.le_refl _, (Blk.new w t cs).lt⟩
theorem HX.start {B : Nat} {W : World} {h g gb gx gp win : Nat} {t : TypeId} {cs : Array Value} {x0 x1 x2 x3 : Value} (hh : HoldAt h (fun k => k = h) W h win [] 0 [] none) (hr : Rg W g gb 24 []) (hx : Blk W gx 49 #[x0, x1, x2, x3]) (hp : Blk W gp t cs)
    (hd : B ≤ h ∧ B ≤ g ∧ B ≤ gb ∧ B ≤ gx ∧ B ≤ gp ∧ h ≠ g ∧ h ≠ gb ∧ gx ≠ h ∧ gx ≠ g ∧ gx ≠ gb ∧ gp ≠ h ∧ gp ≠ g ∧ gp ≠ gb ∧ gp ≠ gx) (_ : B ≤ W.heap.size) :
    HX B (set4 W gx (.int .i64 (win : Int)) (.string ⟨#[]⟩) (.int .i64 0) (.slice none 0 0)) h g gb gx 24 win [] 0 [] [] [] 0 [] (.slice none 0 0) [(gp, t, cs)] := by
  obtain ⟨d1, d2, d3, d4, d5, d6, d7, d8, d9, d10, d11, d12, d13, d14⟩ := hd
  have l1 := hh.lt
  have l2 := hr.lt
  have l3 := hx.lt
  have hk := set4_keep W gx (.int .i64 (win : Int)) (.string ⟨#[]⟩) (.int .i64 0) (.slice none 0 0)
  have hsz := hk.size
  refine ⟨fun k => k = h, fun _ => False, ⟨h, [], none, by omega, hh.keep hk (fun k (e : k = h) (e2 : k = gx) => by omega), rfl, hr.keep hk (fun e => by have e : g = gx := e; omega) (fun e => by have e : gb = gx := e; omega),
    ⟨fun k (e : k = h) => by omega, fun k (e : k = h) => by omega, fun k (e : k = h) hf => by rcases hf with hf | hf <;> omega, by omega, by omega, by omega, by omega, by omega⟩⟩,
    ⟨set4_blk hx _ _ _ _, PatG.nil _, by omega, fun h => h, fun k hk => hk.elim⟩, fun k hk => hk.elim, ⟨fun (e : gx = h) => by omega, by omega, by omega⟩, fun b hb => ?_⟩
  rcases List.mem_cons.1 hb with rfl | hb
  · exact ⟨hk.blk hp (fun e => by have e : gp = gx := e; omega), d5, ⟨fun (e : gp = h) => by omega, d12, d13⟩, d14, fun h => h⟩
  · cases hb
theorem HX.slice {B h g gb gx m win seen seen2 : Nat} {W : World} {S R S2 : List UInt8} {ls ls2 : List (List Item)} {v : Value} {pr : Prot} (H : HX B W h g gb gx m win S seen R ls S2 seen2 ls2 v pr) : ∃ A n c, v = .slice A n c := by
  obtain ⟨A, c, vs, rfl, -⟩ := H.pat
  exact ⟨_, _, _, rfl⟩
theorem hxRef {B h g gb gx m win seen seen2 : Nat} {W w' : World} {S R S2 : List UInt8} {ls ls2 : List (List Item)} {v : Value} {pr : Prot} {Z : List (List Item) × Nat × Nat} {e : Ending} (H : HX B W h g gb gx m win S seen R ls S2 seen2 ls2 v pr) (hz : RefB win seen2 S2 v Z W e w') :
    ∃ s' ls' A' n' c', e = .returned (.tuple #[.agg #[.int .i64 (win : Int), .string (rgT S2), .int .i64 ((s' : Nat) : Int), .slice A' n' c'], .int .i64 ((Z.2.2 : Nat) : Int)]) ∧ Below W.heap.size W w' ∧
      HX B (set4 w' gx (.int .i64 (win : Int)) (.string (rgT S2)) (.int .i64 ((s' : Nat) : Int)) (.slice A' n' c')) h g gb gx m win S seen R ls S2 s' ls' (.slice A' n' c') pr ∧ (Z.2.2 ≠ 0 → s' = seen2 ∧ ls' = ls2) ∧ (Z.2.2 = 0 → s' = 0 ∧ ls' = Z.1) := by
  obtain ⟨hb, hz⟩ := hz
  obtain ⟨A, n, c, rfl⟩ := H.slice
  rcases hz with ⟨h0, rfl⟩ | ⟨h0, v', rfl, hp⟩
  · exact ⟨seen2, ls2, A, n, c, rfl, hb, (H.below hb).setx S2 seen2, fun _ => ⟨rfl, rfl⟩, fun h => absurd h h0⟩
  · have hp0 := hp
    obtain ⟨A', c', vs, rfl, -⟩ := hp
    exact ⟨0, Z.1, A', _, c', by rw [h0]; rfl, hb, H.setP (seen' := 0) hb hp0, fun h => absurd h0 h, fun _ => ⟨rfl, rfl⟩⟩
theorem fact3 {w : World} {g : Nat} {t : TypeId} {a b c : Value} (h : Blk w g t #[a, b, c]) : w.cell? ⟨g, 0, none⟩ = some a ∧ w.cell? ⟨g, 1, none⟩ = some b ∧ w.cell? ⟨g, 2, none⟩ = some c := ⟨h.cell 0, h.cell 1, h.cell 2⟩
theorem slice_nil0 {base e size n c : Nat} {w : World} {xs : List Value} (h : w.ownsRow base e size (.slice none n c) n xs) : n = 0 ∧ c = 0 := by
  rcases h.2 with ⟨hv, h0⟩ | ⟨g', cap, cur, hv, _⟩
  · injection hv with _ _ e3; exact ⟨h0, e3⟩
  · cases hv
theorem look_less (win : Nat) (ls : List (List Item)) (S : List UInt8) (seen : Nat) (R : List UInt8) (hs : seen ≤ S.length) : (lookM win ls S seen R).S.length + (lookM win ls S seen R).R.length ≤ S.length + R.length := by
  have h := (lookGo_keeps win ls (lookN S seen R) S seen R 0 hs).1
  have h2 := congrArg List.length h
  rw [List.length_drop, List.length_append, List.length_append] at h2
  show (lookGo win ls (lookN S seen R) S seen R 0).S.length + (lookGo win ls (lookN S seen R) S seen R 0).R.length ≤ _
  omega

set_option maxRecDepth 20000 in
set_option maxHeartbeats 16000000 in
theorem holdPlays_any (A : Option Addr) (c : Nat) (x : Int) (l : List ActV) (w : World) (hin : ActsIn w A l) (hok : ∀ a ∈ l, ActOk a) (hx : I64 x) (hn : l.length ≤ 9223372036854775807) :
    Calls Try.prog 5 #[.agg #[.int .i64 x, .slice A l.length c]] w fun e w' => e = .returned (.bool true) ∧ Below w.heap.size w w' := by
  have HIN := hid hin; have HOK := hid hok
  obtain ⟨n, hln⟩ : ∃ n, l.length = n := ⟨_, rfl⟩
  have HLN := hid hln
  have hn2 := hn
  rw [hln] at hn2 ⊢
  clear hn
  have CN : Hid (∀ W, Calls Try.prog 22 #[.int .i64 x] W fun e w' => ∃ h, e = .returned (.pointer (some ⟨h, 0, none⟩)) ∧ HoldAt h (fun k => k = h) w' h (clampN x 4096) [] 0 [] none ∧ W.heap.size ≤ h ∧ Below W.heap.size W w') := fun W => (hoNew_any x W hx.1 hx.2).mono fun e w' ⟨h1, h2, h3⟩ => ⟨_, h1, h2, Nat.le_refl _, h3⟩
  have CX : Hid (∀ W, Calls Try.prog 23 #[.int .i64 x] W fun e w' => e = .returned (.agg #[.int .i64 ((clampN x 4096 : Nat) : Int), .string ⟨#[]⟩, .int .i64 0, .slice none 0 0]) ∧ Below W.heap.size W w') := fun W => refNew_any x W
  obtain ⟨win, hwin⟩ : ∃ m, clampN x 4096 = m := ⟨_, rfl⟩
  rw [hwin] at CN CX
  have CR := hid (fun W => rgNew_any 24 W (by omega) (by omega))
  rw [show clampN 24 4096 = 24 from rfl] at CR
  have CLV := hid (fun W => lives19_any W)
  clear hin hok hln hwin hx
  obtain ⟨Q, hQ⟩ : ∃ Q : Ending → World → Prop, (fun e w' => e = .returned (.bool true) ∧ Below w.heap.size w w') = Q := ⟨_, rfl⟩
  have HQ : Hid (∀ W, Below w.heap.size w W → Q (.returned (.bool true)) W) := fun W h => by rw [← hQ]; exact ⟨rfl, h⟩
  rw [show (fun e w' => e = Ending.returned (.bool true) ∧ Below w.heap.size w w') = Q from hQ]
  clear hQ
  go_enter Try.func5, Try.ntmps5
  go_upto_region 1 with fail
  obtain ⟨wa, gp, hwa, hgp, hb, hp, hgp1, hgp2⟩ := alloc_step w 44 #[.int .i64 x, .slice A n c]
  rw [hwa, hgp]
  have HPA := hid hp
  have HBA : Hid (Below w.heap.size w wa) := hb
  clear hwa hgp hb hp
  apply later
  · intro KEY
    refine wp_region_ord (.val 0 (.val 3 (.three 1 (.three 2 (.two 4 (.two 5 (.two 6 (.op 7 (.val 8 (.op 9 (.val 10 (.val 11 (.nil)))))) 7 (.op 6 (.val 8 (.op 9 (.val 10 (.val 11 (.nil))))))) 7 (.op 5 (.op 6 (.val 8 (.op 9 (.val 10 (.val 11 (.nil)))))))) 7 (.op 4 (.op 5 (.op 6 (.val 8 (.op 9 (.val 10 (.val 11 (.nil))))))))) 4 (.two 2 (.two 5 (.two 6 (.op 7 (.val 8 (.op 9 (.val 10 (.val 11 (.nil)))))) 7 (.op 6 (.val 8 (.op 9 (.val 10 (.val 11 (.nil))))))) 7 (.op 5 (.op 6 (.val 8 (.op 9 (.val 10 (.val 11 (.nil)))))))) 7 (.op 2 (.op 5 (.op 6 (.val 8 (.op 9 (.val 10 (.val 11 (.nil))))))))) 7 (.two 2 (.op 4 (.op 5 (.op 6 (.val 8 (.op 9 (.val 10 (.val 11 (.nil)))))))) 4 (.op 2 (.op 5 (.op 6 (.val 8 (.op 9 (.val 10 (.val 11 (.nil)))))))))) 4 (.two 1 (.two 2 (.two 5 (.two 6 (.op 7 (.val 8 (.op 9 (.val 10 (.val 11 (.nil)))))) 7 (.op 6 (.val 8 (.op 9 (.val 10 (.val 11 (.nil))))))) 7 (.op 5 (.op 6 (.val 8 (.op 9 (.val 10 (.val 11 (.nil)))))))) 7 (.op 2 (.op 5 (.op 6 (.val 8 (.op 9 (.val 10 (.val 11 (.nil))))))))) 7 (.op 1 (.op 2 (.op 5 (.op 6 (.val 8 (.op 9 (.val 10 (.val 11 (.nil)))))))))) 7 (.two 1 (.two 2 (.op 4 (.op 5 (.op 6 (.val 8 (.op 9 (.val 10 (.val 11 (.nil)))))))) 4 (.op 2 (.op 5 (.op 6 (.val 8 (.op 9 (.val 10 (.val 11 (.nil))))))))) 4 (.op 1 (.op 2 (.op 5 (.op 6 (.val 8 (.op 9 (.val 10 (.val 11 (.nil))))))))))))) (by kernel_rfl) (by kernel_rfl) ?_
    obtain ⟨wc, hwc⟩ : ∃ W, wa.drewN 1 = W := ⟨_, rfl⟩
    have HP := hid (HPA.out.below (show Below wa.heap.size wa wc from by rw [← hwc]; exact drewN_below wa 1) HPA.out.lt)
    have HB : Hid (Below w.heap.size w wc) := by rw [← hwc]; exact HBA.out.trans ((drewN_below wa 1).mono HBA.out.size)
    have sa : wa.heap.size ≤ wc.heap.size := by rw [← hwc]; exact Nat.le_refl _
    have sa0 := HBA.out.size
    rw [hwc]
    clear hwc
    obtain ⟨p0, p1⟩ := fact2 HP.out
    refine wpOrd_val rfl ?_
    go_big_quiet_step (fail)
    refine wpQuiet_nil ?_
    refine wpOrd_val rfl ?_
    go_big_quiet_step (fail)
    refine wpQuiet_nil ?_
    refine wpOrd_three rfl rfl rfl ?_ ?_ ?_
    · skip
      go_wp2_with fail
      refine wpOrd_three rfl rfl rfl ?_ ?_ ?_
      · skip
        go_wp2_with fail
        refine (CN.out _).mono ?_
        rintro en wc ⟨h, rfl, hh, h1, hb⟩
        have s2 := hb.size; have lh := hh.lt
        try replace HRR := hid (HRR.out.below hb)
        try replace HXX := hid (HXX.out.below hb HXX.out.lt)
        try replace HH := hid (HH.out.below hb)
        replace HP := hid (HP.out.below hb HP.out.lt)
        replace HB := hid (HB.out.trans (hb.mono HB.out.size))
        clear p0 p1
        obtain ⟨p0, p1⟩ := fact2 HP.out
        have HH := hid hh
        clear hh hb
        go_wp2_with fail
        refine wpOrd_two rfl rfl ?_ ?_
        · skip
          go_wp2_with fail
          refine wpOrd_two rfl rfl ?_ ?_
          · skip
            go_wp2_with fail
            refine (CX.out _).mono ?_
            rintro en wc ⟨rfl, hb⟩
            have s5 := hb.size
            try replace HRR := hid (HRR.out.below hb)
            try replace HXX := hid (HXX.out.below hb HXX.out.lt)
            try replace HH := hid (HH.out.below hb)
            replace HP := hid (HP.out.below hb HP.out.lt)
            replace HB := hid (HB.out.trans (hb.mono HB.out.size))
            clear p0 p1
            obtain ⟨p0, p1⟩ := fact2 HP.out
            clear hb
            go_wp2_with fail
            refine wpOrd_two rfl rfl ?_ ?_
            · skip
              go_wp2_with fail
              refine (CR.out _).mono ?_
              rintro en wc ⟨g, gb, rfl, hr, hg1, hg2, hb⟩
              have s6 := hb.size; have lg := hr.lt
              try replace HRR := hid (HRR.out.below hb)
              try replace HXX := hid (HXX.out.below hb HXX.out.lt)
              try replace HH := hid (HH.out.below hb)
              replace HP := hid (HP.out.below hb HP.out.lt)
              replace HB := hid (HB.out.trans (hb.mono HB.out.size))
              clear p0 p1
              obtain ⟨p0, p1⟩ := fact2 HP.out
              have HRR := hid hr
              clear hr hb
              go_wp2_with fail
              refine wpOrd_op rfl ?_
              go_wp2_with fail
              obtain ⟨wc, gx, hwn, hgx, hb, hx, hx1, hx2⟩ := alloc_step wc 49 #[.int .i64 0, .string ⟨#[]⟩, .int .i64 0, .slice none 0 0]
              rw [hwn, hgx]
              have s7 := hb.size
              try replace HRR := hid (HRR.out.below hb)
              try replace HXX := hid (HXX.out.below hb HXX.out.lt)
              try replace HH := hid (HH.out.below hb)
              replace HP := hid (HP.out.below hb HP.out.lt)
              replace HB := hid (HB.out.trans (hb.mono HB.out.size))
              clear p0 p1
              obtain ⟨p0, p1⟩ := fact2 HP.out
              have HXX := hid hx
              clear hx hb hwn hgx
              refine wpOrd_val rfl ?_
              go_big_quiet_step (fail)
              refine wpQuiet_nil ?_
              refine wpOrd_op rfl ?_
              obtain ⟨z0, z1, z2, z3⟩ := fact4 HXX.out
              have y0 := HXX.out.frozen 0; have y1 := HXX.out.frozen 1; have y2 := HXX.out.frozen 2; have y3 := HXX.out.frozen 3; have yl := HXX.out.lt
              go_wp2_with fail
              refine wpOrd_val rfl ?_
              go_big_quiet_step (fail)
              refine wpQuiet_nil ?_
              refine wpOrd_val rfl ?_
              go_big_quiet_step (fail)
              refine wpQuiet_nil ?_
              refine wpOrd_nil ?_
              have hB := HB.out.size
              have hsz := HXX.out.lt
              have hgw : w.heap.size ≤ gx := by omega
              obtain ⟨wz, hwz⟩ : ∃ W, set4 wc gx (.int .i64 (win : Int)) (.string ⟨#[]⟩) (.int .i64 0) (.slice none 0 0) = W := ⟨_, rfl⟩
              have HXF : Hid (HX w.heap.size wz h g gb gx 24 win [] 0 [] [] [] 0 [] (.slice none 0 0) [(gp, 44, #[.int .i64 x, .slice A n c])]) := by
                rw [← hwz]; exact HX.start HH.out HRR.out HXX.out HP.out (by omega) hB
              have HBF : Hid (Below w.heap.size w wz) := by rw [← hwz]; exact set4_below HB.out hgw _ _ _ _
              unfold set4 at hwz
              rw [hwz]
              clear hwz HH HRR HXX HP HB p0 p1 z0 z1 z2 z3 y0 y1 y2 y3 yl hB hsz hgw h1 lh hg1 hg2 lg hx1 hx2
              revert HBF HXF
              revert wz
              revert gx
              revert gb
              revert g
              revert h
              exact KEY
            · skip
              go_wp2_with fail
              obtain ⟨wc, gx, hwn, hgx, hb, hx, hx1, hx2⟩ := alloc_step wc 49 #[.int .i64 0, .string ⟨#[]⟩, .int .i64 0, .slice none 0 0]
              rw [hwn, hgx]
              have s7 := hb.size
              try replace HRR := hid (HRR.out.below hb)
              try replace HXX := hid (HXX.out.below hb HXX.out.lt)
              try replace HH := hid (HH.out.below hb)
              replace HP := hid (HP.out.below hb HP.out.lt)
              replace HB := hid (HB.out.trans (hb.mono HB.out.size))
              clear p0 p1
              obtain ⟨p0, p1⟩ := fact2 HP.out
              have HXX := hid hx
              clear hx hb hwn hgx
              refine wpOrd_op rfl ?_
              go_wp2_with fail
              refine (CR.out _).mono ?_
              rintro en wc ⟨g, gb, rfl, hr, hg1, hg2, hb⟩
              have s6 := hb.size; have lg := hr.lt
              try replace HRR := hid (HRR.out.below hb)
              try replace HXX := hid (HXX.out.below hb HXX.out.lt)
              try replace HH := hid (HH.out.below hb)
              replace HP := hid (HP.out.below hb HP.out.lt)
              replace HB := hid (HB.out.trans (hb.mono HB.out.size))
              clear p0 p1
              obtain ⟨p0, p1⟩ := fact2 HP.out
              have HRR := hid hr
              clear hr hb
              go_wp2_with fail
              refine wpOrd_val rfl ?_
              go_big_quiet_step (fail)
              refine wpQuiet_nil ?_
              refine wpOrd_op rfl ?_
              obtain ⟨z0, z1, z2, z3⟩ := fact4 HXX.out
              have y0 := HXX.out.frozen 0; have y1 := HXX.out.frozen 1; have y2 := HXX.out.frozen 2; have y3 := HXX.out.frozen 3; have yl := HXX.out.lt
              go_wp2_with fail
              refine wpOrd_val rfl ?_
              go_big_quiet_step (fail)
              refine wpQuiet_nil ?_
              refine wpOrd_val rfl ?_
              go_big_quiet_step (fail)
              refine wpQuiet_nil ?_
              refine wpOrd_nil ?_
              have hB := HB.out.size
              have hsz := HXX.out.lt
              have hgw : w.heap.size ≤ gx := by omega
              obtain ⟨wz, hwz⟩ : ∃ W, set4 wc gx (.int .i64 (win : Int)) (.string ⟨#[]⟩) (.int .i64 0) (.slice none 0 0) = W := ⟨_, rfl⟩
              have HXF : Hid (HX w.heap.size wz h g gb gx 24 win [] 0 [] [] [] 0 [] (.slice none 0 0) [(gp, 44, #[.int .i64 x, .slice A n c])]) := by
                rw [← hwz]; exact HX.start HH.out HRR.out HXX.out HP.out (by omega) hB
              have HBF : Hid (Below w.heap.size w wz) := by rw [← hwz]; exact set4_below HB.out hgw _ _ _ _
              unfold set4 at hwz
              rw [hwz]
              clear hwz HH HRR HXX HP HB p0 p1 z0 z1 z2 z3 y0 y1 y2 y3 yl hB hsz hgw h1 lh hg1 hg2 lg hx1 hx2
              revert HBF HXF
              revert wz
              revert gx
              revert gb
              revert g
              revert h
              exact KEY
          · skip
            go_wp2_with fail
            obtain ⟨wc, gx, hwn, hgx, hb, hx, hx1, hx2⟩ := alloc_step wc 49 #[.int .i64 0, .string ⟨#[]⟩, .int .i64 0, .slice none 0 0]
            rw [hwn, hgx]
            have s7 := hb.size
            try replace HRR := hid (HRR.out.below hb)
            try replace HXX := hid (HXX.out.below hb HXX.out.lt)
            try replace HH := hid (HH.out.below hb)
            replace HP := hid (HP.out.below hb HP.out.lt)
            replace HB := hid (HB.out.trans (hb.mono HB.out.size))
            clear p0 p1
            obtain ⟨p0, p1⟩ := fact2 HP.out
            have HXX := hid hx
            clear hx hb hwn hgx
            refine wpOrd_op rfl ?_
            go_wp2_with fail
            refine (CX.out _).mono ?_
            rintro en wc ⟨rfl, hb⟩
            have s5 := hb.size
            try replace HRR := hid (HRR.out.below hb)
            try replace HXX := hid (HXX.out.below hb HXX.out.lt)
            try replace HH := hid (HH.out.below hb)
            replace HP := hid (HP.out.below hb HP.out.lt)
            replace HB := hid (HB.out.trans (hb.mono HB.out.size))
            clear p0 p1
            obtain ⟨p0, p1⟩ := fact2 HP.out
            clear hb
            go_wp2_with fail
            refine wpOrd_op rfl ?_
            go_wp2_with fail
            refine (CR.out _).mono ?_
            rintro en wc ⟨g, gb, rfl, hr, hg1, hg2, hb⟩
            have s6 := hb.size; have lg := hr.lt
            try replace HRR := hid (HRR.out.below hb)
            try replace HXX := hid (HXX.out.below hb HXX.out.lt)
            try replace HH := hid (HH.out.below hb)
            replace HP := hid (HP.out.below hb HP.out.lt)
            replace HB := hid (HB.out.trans (hb.mono HB.out.size))
            clear p0 p1
            obtain ⟨p0, p1⟩ := fact2 HP.out
            have HRR := hid hr
            clear hr hb
            go_wp2_with fail
            refine wpOrd_val rfl ?_
            go_big_quiet_step (fail)
            refine wpQuiet_nil ?_
            refine wpOrd_op rfl ?_
            obtain ⟨z0, z1, z2, z3⟩ := fact4 HXX.out
            have y0 := HXX.out.frozen 0; have y1 := HXX.out.frozen 1; have y2 := HXX.out.frozen 2; have y3 := HXX.out.frozen 3; have yl := HXX.out.lt
            go_wp2_with fail
            refine wpOrd_val rfl ?_
            go_big_quiet_step (fail)
            refine wpQuiet_nil ?_
            refine wpOrd_val rfl ?_
            go_big_quiet_step (fail)
            refine wpQuiet_nil ?_
            refine wpOrd_nil ?_
            have hB := HB.out.size
            have hsz := HXX.out.lt
            have hgw : w.heap.size ≤ gx := by omega
            obtain ⟨wz, hwz⟩ : ∃ W, set4 wc gx (.int .i64 (win : Int)) (.string ⟨#[]⟩) (.int .i64 0) (.slice none 0 0) = W := ⟨_, rfl⟩
            have HXF : Hid (HX w.heap.size wz h g gb gx 24 win [] 0 [] [] [] 0 [] (.slice none 0 0) [(gp, 44, #[.int .i64 x, .slice A n c])]) := by
              rw [← hwz]; exact HX.start HH.out HRR.out HXX.out HP.out (by omega) hB
            have HBF : Hid (Below w.heap.size w wz) := by rw [← hwz]; exact set4_below HB.out hgw _ _ _ _
            unfold set4 at hwz
            rw [hwz]
            clear hwz HH HRR HXX HP HB p0 p1 z0 z1 z2 z3 y0 y1 y2 y3 yl hB hsz hgw h1 lh hg1 hg2 lg hx1 hx2
            revert HBF HXF
            revert wz
            revert gx
            revert gb
            revert g
            revert h
            exact KEY
        · skip
          go_wp2_with fail
          obtain ⟨wc, gx, hwn, hgx, hb, hx, hx1, hx2⟩ := alloc_step wc 49 #[.int .i64 0, .string ⟨#[]⟩, .int .i64 0, .slice none 0 0]
          rw [hwn, hgx]
          have s7 := hb.size
          try replace HRR := hid (HRR.out.below hb)
          try replace HXX := hid (HXX.out.below hb HXX.out.lt)
          try replace HH := hid (HH.out.below hb)
          replace HP := hid (HP.out.below hb HP.out.lt)
          replace HB := hid (HB.out.trans (hb.mono HB.out.size))
          clear p0 p1
          obtain ⟨p0, p1⟩ := fact2 HP.out
          have HXX := hid hx
          clear hx hb hwn hgx
          refine wpOrd_op rfl ?_
          go_wp2_with fail
          refine wpOrd_op rfl ?_
          go_wp2_with fail
          refine (CX.out _).mono ?_
          rintro en wc ⟨rfl, hb⟩
          have s5 := hb.size
          try replace HRR := hid (HRR.out.below hb)
          try replace HXX := hid (HXX.out.below hb HXX.out.lt)
          try replace HH := hid (HH.out.below hb)
          replace HP := hid (HP.out.below hb HP.out.lt)
          replace HB := hid (HB.out.trans (hb.mono HB.out.size))
          clear p0 p1
          obtain ⟨p0, p1⟩ := fact2 HP.out
          clear hb
          go_wp2_with fail
          refine wpOrd_op rfl ?_
          go_wp2_with fail
          refine (CR.out _).mono ?_
          rintro en wc ⟨g, gb, rfl, hr, hg1, hg2, hb⟩
          have s6 := hb.size; have lg := hr.lt
          try replace HRR := hid (HRR.out.below hb)
          try replace HXX := hid (HXX.out.below hb HXX.out.lt)
          try replace HH := hid (HH.out.below hb)
          replace HP := hid (HP.out.below hb HP.out.lt)
          replace HB := hid (HB.out.trans (hb.mono HB.out.size))
          clear p0 p1
          obtain ⟨p0, p1⟩ := fact2 HP.out
          have HRR := hid hr
          clear hr hb
          go_wp2_with fail
          refine wpOrd_val rfl ?_
          go_big_quiet_step (fail)
          refine wpQuiet_nil ?_
          refine wpOrd_op rfl ?_
          obtain ⟨z0, z1, z2, z3⟩ := fact4 HXX.out
          have y0 := HXX.out.frozen 0; have y1 := HXX.out.frozen 1; have y2 := HXX.out.frozen 2; have y3 := HXX.out.frozen 3; have yl := HXX.out.lt
          go_wp2_with fail
          refine wpOrd_val rfl ?_
          go_big_quiet_step (fail)
          refine wpQuiet_nil ?_
          refine wpOrd_val rfl ?_
          go_big_quiet_step (fail)
          refine wpQuiet_nil ?_
          refine wpOrd_nil ?_
          have hB := HB.out.size
          have hsz := HXX.out.lt
          have hgw : w.heap.size ≤ gx := by omega
          obtain ⟨wz, hwz⟩ : ∃ W, set4 wc gx (.int .i64 (win : Int)) (.string ⟨#[]⟩) (.int .i64 0) (.slice none 0 0) = W := ⟨_, rfl⟩
          have HXF : Hid (HX w.heap.size wz h g gb gx 24 win [] 0 [] [] [] 0 [] (.slice none 0 0) [(gp, 44, #[.int .i64 x, .slice A n c])]) := by
            rw [← hwz]; exact HX.start HH.out HRR.out HXX.out HP.out (by omega) hB
          have HBF : Hid (Below w.heap.size w wz) := by rw [← hwz]; exact set4_below HB.out hgw _ _ _ _
          unfold set4 at hwz
          rw [hwz]
          clear hwz HH HRR HXX HP HB p0 p1 z0 z1 z2 z3 y0 y1 y2 y3 yl hB hsz hgw h1 lh hg1 hg2 lg hx1 hx2
          revert HBF HXF
          revert wz
          revert gx
          revert gb
          revert g
          revert h
          exact KEY
      · skip
        go_wp2_with fail
        refine wpOrd_two rfl rfl ?_ ?_
        · skip
          go_wp2_with fail
          refine (CN.out _).mono ?_
          rintro en wc ⟨h, rfl, hh, h1, hb⟩
          have s2 := hb.size; have lh := hh.lt
          try replace HRR := hid (HRR.out.below hb)
          try replace HXX := hid (HXX.out.below hb HXX.out.lt)
          try replace HH := hid (HH.out.below hb)
          replace HP := hid (HP.out.below hb HP.out.lt)
          replace HB := hid (HB.out.trans (hb.mono HB.out.size))
          clear p0 p1
          obtain ⟨p0, p1⟩ := fact2 HP.out
          have HH := hid hh
          clear hh hb
          go_wp2_with fail
          refine wpOrd_two rfl rfl ?_ ?_
          · skip
            go_wp2_with fail
            refine (CX.out _).mono ?_
            rintro en wc ⟨rfl, hb⟩
            have s5 := hb.size
            try replace HRR := hid (HRR.out.below hb)
            try replace HXX := hid (HXX.out.below hb HXX.out.lt)
            try replace HH := hid (HH.out.below hb)
            replace HP := hid (HP.out.below hb HP.out.lt)
            replace HB := hid (HB.out.trans (hb.mono HB.out.size))
            clear p0 p1
            obtain ⟨p0, p1⟩ := fact2 HP.out
            clear hb
            go_wp2_with fail
            refine wpOrd_two rfl rfl ?_ ?_
            · skip
              go_wp2_with fail
              refine (CR.out _).mono ?_
              rintro en wc ⟨g, gb, rfl, hr, hg1, hg2, hb⟩
              have s6 := hb.size; have lg := hr.lt
              try replace HRR := hid (HRR.out.below hb)
              try replace HXX := hid (HXX.out.below hb HXX.out.lt)
              try replace HH := hid (HH.out.below hb)
              replace HP := hid (HP.out.below hb HP.out.lt)
              replace HB := hid (HB.out.trans (hb.mono HB.out.size))
              clear p0 p1
              obtain ⟨p0, p1⟩ := fact2 HP.out
              have HRR := hid hr
              clear hr hb
              go_wp2_with fail
              refine wpOrd_op rfl ?_
              go_wp2_with fail
              obtain ⟨wc, gx, hwn, hgx, hb, hx, hx1, hx2⟩ := alloc_step wc 49 #[.int .i64 0, .string ⟨#[]⟩, .int .i64 0, .slice none 0 0]
              rw [hwn, hgx]
              have s7 := hb.size
              try replace HRR := hid (HRR.out.below hb)
              try replace HXX := hid (HXX.out.below hb HXX.out.lt)
              try replace HH := hid (HH.out.below hb)
              replace HP := hid (HP.out.below hb HP.out.lt)
              replace HB := hid (HB.out.trans (hb.mono HB.out.size))
              clear p0 p1
              obtain ⟨p0, p1⟩ := fact2 HP.out
              have HXX := hid hx
              clear hx hb hwn hgx
              refine wpOrd_val rfl ?_
              go_big_quiet_step (fail)
              refine wpQuiet_nil ?_
              refine wpOrd_op rfl ?_
              obtain ⟨z0, z1, z2, z3⟩ := fact4 HXX.out
              have y0 := HXX.out.frozen 0; have y1 := HXX.out.frozen 1; have y2 := HXX.out.frozen 2; have y3 := HXX.out.frozen 3; have yl := HXX.out.lt
              go_wp2_with fail
              refine wpOrd_val rfl ?_
              go_big_quiet_step (fail)
              refine wpQuiet_nil ?_
              refine wpOrd_val rfl ?_
              go_big_quiet_step (fail)
              refine wpQuiet_nil ?_
              refine wpOrd_nil ?_
              have hB := HB.out.size
              have hsz := HXX.out.lt
              have hgw : w.heap.size ≤ gx := by omega
              obtain ⟨wz, hwz⟩ : ∃ W, set4 wc gx (.int .i64 (win : Int)) (.string ⟨#[]⟩) (.int .i64 0) (.slice none 0 0) = W := ⟨_, rfl⟩
              have HXF : Hid (HX w.heap.size wz h g gb gx 24 win [] 0 [] [] [] 0 [] (.slice none 0 0) [(gp, 44, #[.int .i64 x, .slice A n c])]) := by
                rw [← hwz]; exact HX.start HH.out HRR.out HXX.out HP.out (by omega) hB
              have HBF : Hid (Below w.heap.size w wz) := by rw [← hwz]; exact set4_below HB.out hgw _ _ _ _
              unfold set4 at hwz
              rw [hwz]
              clear hwz HH HRR HXX HP HB p0 p1 z0 z1 z2 z3 y0 y1 y2 y3 yl hB hsz hgw h1 lh hg1 hg2 lg hx1 hx2
              revert HBF HXF
              revert wz
              revert gx
              revert gb
              revert g
              revert h
              exact KEY
            · skip
              go_wp2_with fail
              obtain ⟨wc, gx, hwn, hgx, hb, hx, hx1, hx2⟩ := alloc_step wc 49 #[.int .i64 0, .string ⟨#[]⟩, .int .i64 0, .slice none 0 0]
              rw [hwn, hgx]
              have s7 := hb.size
              try replace HRR := hid (HRR.out.below hb)
              try replace HXX := hid (HXX.out.below hb HXX.out.lt)
              try replace HH := hid (HH.out.below hb)
              replace HP := hid (HP.out.below hb HP.out.lt)
              replace HB := hid (HB.out.trans (hb.mono HB.out.size))
              clear p0 p1
              obtain ⟨p0, p1⟩ := fact2 HP.out
              have HXX := hid hx
              clear hx hb hwn hgx
              refine wpOrd_op rfl ?_
              go_wp2_with fail
              refine (CR.out _).mono ?_
              rintro en wc ⟨g, gb, rfl, hr, hg1, hg2, hb⟩
              have s6 := hb.size; have lg := hr.lt
              try replace HRR := hid (HRR.out.below hb)
              try replace HXX := hid (HXX.out.below hb HXX.out.lt)
              try replace HH := hid (HH.out.below hb)
              replace HP := hid (HP.out.below hb HP.out.lt)
              replace HB := hid (HB.out.trans (hb.mono HB.out.size))
              clear p0 p1
              obtain ⟨p0, p1⟩ := fact2 HP.out
              have HRR := hid hr
              clear hr hb
              go_wp2_with fail
              refine wpOrd_val rfl ?_
              go_big_quiet_step (fail)
              refine wpQuiet_nil ?_
              refine wpOrd_op rfl ?_
              obtain ⟨z0, z1, z2, z3⟩ := fact4 HXX.out
              have y0 := HXX.out.frozen 0; have y1 := HXX.out.frozen 1; have y2 := HXX.out.frozen 2; have y3 := HXX.out.frozen 3; have yl := HXX.out.lt
              go_wp2_with fail
              refine wpOrd_val rfl ?_
              go_big_quiet_step (fail)
              refine wpQuiet_nil ?_
              refine wpOrd_val rfl ?_
              go_big_quiet_step (fail)
              refine wpQuiet_nil ?_
              refine wpOrd_nil ?_
              have hB := HB.out.size
              have hsz := HXX.out.lt
              have hgw : w.heap.size ≤ gx := by omega
              obtain ⟨wz, hwz⟩ : ∃ W, set4 wc gx (.int .i64 (win : Int)) (.string ⟨#[]⟩) (.int .i64 0) (.slice none 0 0) = W := ⟨_, rfl⟩
              have HXF : Hid (HX w.heap.size wz h g gb gx 24 win [] 0 [] [] [] 0 [] (.slice none 0 0) [(gp, 44, #[.int .i64 x, .slice A n c])]) := by
                rw [← hwz]; exact HX.start HH.out HRR.out HXX.out HP.out (by omega) hB
              have HBF : Hid (Below w.heap.size w wz) := by rw [← hwz]; exact set4_below HB.out hgw _ _ _ _
              unfold set4 at hwz
              rw [hwz]
              clear hwz HH HRR HXX HP HB p0 p1 z0 z1 z2 z3 y0 y1 y2 y3 yl hB hsz hgw h1 lh hg1 hg2 lg hx1 hx2
              revert HBF HXF
              revert wz
              revert gx
              revert gb
              revert g
              revert h
              exact KEY
          · skip
            go_wp2_with fail
            obtain ⟨wc, gx, hwn, hgx, hb, hx, hx1, hx2⟩ := alloc_step wc 49 #[.int .i64 0, .string ⟨#[]⟩, .int .i64 0, .slice none 0 0]
            rw [hwn, hgx]
            have s7 := hb.size
            try replace HRR := hid (HRR.out.below hb)
            try replace HXX := hid (HXX.out.below hb HXX.out.lt)
            try replace HH := hid (HH.out.below hb)
            replace HP := hid (HP.out.below hb HP.out.lt)
            replace HB := hid (HB.out.trans (hb.mono HB.out.size))
            clear p0 p1
            obtain ⟨p0, p1⟩ := fact2 HP.out
            have HXX := hid hx
            clear hx hb hwn hgx
            refine wpOrd_op rfl ?_
            go_wp2_with fail
            refine (CX.out _).mono ?_
            rintro en wc ⟨rfl, hb⟩
            have s5 := hb.size
            try replace HRR := hid (HRR.out.below hb)
            try replace HXX := hid (HXX.out.below hb HXX.out.lt)
            try replace HH := hid (HH.out.below hb)
            replace HP := hid (HP.out.below hb HP.out.lt)
            replace HB := hid (HB.out.trans (hb.mono HB.out.size))
            clear p0 p1
            obtain ⟨p0, p1⟩ := fact2 HP.out
            clear hb
            go_wp2_with fail
            refine wpOrd_op rfl ?_
            go_wp2_with fail
            refine (CR.out _).mono ?_
            rintro en wc ⟨g, gb, rfl, hr, hg1, hg2, hb⟩
            have s6 := hb.size; have lg := hr.lt
            try replace HRR := hid (HRR.out.below hb)
            try replace HXX := hid (HXX.out.below hb HXX.out.lt)
            try replace HH := hid (HH.out.below hb)
            replace HP := hid (HP.out.below hb HP.out.lt)
            replace HB := hid (HB.out.trans (hb.mono HB.out.size))
            clear p0 p1
            obtain ⟨p0, p1⟩ := fact2 HP.out
            have HRR := hid hr
            clear hr hb
            go_wp2_with fail
            refine wpOrd_val rfl ?_
            go_big_quiet_step (fail)
            refine wpQuiet_nil ?_
            refine wpOrd_op rfl ?_
            obtain ⟨z0, z1, z2, z3⟩ := fact4 HXX.out
            have y0 := HXX.out.frozen 0; have y1 := HXX.out.frozen 1; have y2 := HXX.out.frozen 2; have y3 := HXX.out.frozen 3; have yl := HXX.out.lt
            go_wp2_with fail
            refine wpOrd_val rfl ?_
            go_big_quiet_step (fail)
            refine wpQuiet_nil ?_
            refine wpOrd_val rfl ?_
            go_big_quiet_step (fail)
            refine wpQuiet_nil ?_
            refine wpOrd_nil ?_
            have hB := HB.out.size
            have hsz := HXX.out.lt
            have hgw : w.heap.size ≤ gx := by omega
            obtain ⟨wz, hwz⟩ : ∃ W, set4 wc gx (.int .i64 (win : Int)) (.string ⟨#[]⟩) (.int .i64 0) (.slice none 0 0) = W := ⟨_, rfl⟩
            have HXF : Hid (HX w.heap.size wz h g gb gx 24 win [] 0 [] [] [] 0 [] (.slice none 0 0) [(gp, 44, #[.int .i64 x, .slice A n c])]) := by
              rw [← hwz]; exact HX.start HH.out HRR.out HXX.out HP.out (by omega) hB
            have HBF : Hid (Below w.heap.size w wz) := by rw [← hwz]; exact set4_below HB.out hgw _ _ _ _
            unfold set4 at hwz
            rw [hwz]
            clear hwz HH HRR HXX HP HB p0 p1 z0 z1 z2 z3 y0 y1 y2 y3 yl hB hsz hgw h1 lh hg1 hg2 lg hx1 hx2
            revert HBF HXF
            revert wz
            revert gx
            revert gb
            revert g
            revert h
            exact KEY
        · skip
          go_wp2_with fail
          obtain ⟨wc, gx, hwn, hgx, hb, hx, hx1, hx2⟩ := alloc_step wc 49 #[.int .i64 0, .string ⟨#[]⟩, .int .i64 0, .slice none 0 0]
          rw [hwn, hgx]
          have s7 := hb.size
          try replace HRR := hid (HRR.out.below hb)
          try replace HXX := hid (HXX.out.below hb HXX.out.lt)
          try replace HH := hid (HH.out.below hb)
          replace HP := hid (HP.out.below hb HP.out.lt)
          replace HB := hid (HB.out.trans (hb.mono HB.out.size))
          clear p0 p1
          obtain ⟨p0, p1⟩ := fact2 HP.out
          have HXX := hid hx
          clear hx hb hwn hgx
          refine wpOrd_op rfl ?_
          go_wp2_with fail
          refine (CN.out _).mono ?_
          rintro en wc ⟨h, rfl, hh, h1, hb⟩
          have s2 := hb.size; have lh := hh.lt
          try replace HRR := hid (HRR.out.below hb)
          try replace HXX := hid (HXX.out.below hb HXX.out.lt)
          try replace HH := hid (HH.out.below hb)
          replace HP := hid (HP.out.below hb HP.out.lt)
          replace HB := hid (HB.out.trans (hb.mono HB.out.size))
          clear p0 p1
          obtain ⟨p0, p1⟩ := fact2 HP.out
          have HH := hid hh
          clear hh hb
          go_wp2_with fail
          refine wpOrd_op rfl ?_
          go_wp2_with fail
          refine (CX.out _).mono ?_
          rintro en wc ⟨rfl, hb⟩
          have s5 := hb.size
          try replace HRR := hid (HRR.out.below hb)
          try replace HXX := hid (HXX.out.below hb HXX.out.lt)
          try replace HH := hid (HH.out.below hb)
          replace HP := hid (HP.out.below hb HP.out.lt)
          replace HB := hid (HB.out.trans (hb.mono HB.out.size))
          clear p0 p1
          obtain ⟨p0, p1⟩ := fact2 HP.out
          clear hb
          go_wp2_with fail
          refine wpOrd_op rfl ?_
          go_wp2_with fail
          refine (CR.out _).mono ?_
          rintro en wc ⟨g, gb, rfl, hr, hg1, hg2, hb⟩
          have s6 := hb.size; have lg := hr.lt
          try replace HRR := hid (HRR.out.below hb)
          try replace HXX := hid (HXX.out.below hb HXX.out.lt)
          try replace HH := hid (HH.out.below hb)
          replace HP := hid (HP.out.below hb HP.out.lt)
          replace HB := hid (HB.out.trans (hb.mono HB.out.size))
          clear p0 p1
          obtain ⟨p0, p1⟩ := fact2 HP.out
          have HRR := hid hr
          clear hr hb
          go_wp2_with fail
          refine wpOrd_val rfl ?_
          go_big_quiet_step (fail)
          refine wpQuiet_nil ?_
          refine wpOrd_op rfl ?_
          obtain ⟨z0, z1, z2, z3⟩ := fact4 HXX.out
          have y0 := HXX.out.frozen 0; have y1 := HXX.out.frozen 1; have y2 := HXX.out.frozen 2; have y3 := HXX.out.frozen 3; have yl := HXX.out.lt
          go_wp2_with fail
          refine wpOrd_val rfl ?_
          go_big_quiet_step (fail)
          refine wpQuiet_nil ?_
          refine wpOrd_val rfl ?_
          go_big_quiet_step (fail)
          refine wpQuiet_nil ?_
          refine wpOrd_nil ?_
          have hB := HB.out.size
          have hsz := HXX.out.lt
          have hgw : w.heap.size ≤ gx := by omega
          obtain ⟨wz, hwz⟩ : ∃ W, set4 wc gx (.int .i64 (win : Int)) (.string ⟨#[]⟩) (.int .i64 0) (.slice none 0 0) = W := ⟨_, rfl⟩
          have HXF : Hid (HX w.heap.size wz h g gb gx 24 win [] 0 [] [] [] 0 [] (.slice none 0 0) [(gp, 44, #[.int .i64 x, .slice A n c])]) := by
            rw [← hwz]; exact HX.start HH.out HRR.out HXX.out HP.out (by omega) hB
          have HBF : Hid (Below w.heap.size w wz) := by rw [← hwz]; exact set4_below HB.out hgw _ _ _ _
          unfold set4 at hwz
          rw [hwz]
          clear hwz HH HRR HXX HP HB p0 p1 z0 z1 z2 z3 y0 y1 y2 y3 yl hB hsz hgw h1 lh hg1 hg2 lg hx1 hx2
          revert HBF HXF
          revert wz
          revert gx
          revert gb
          revert g
          revert h
          exact KEY
      · skip
        go_wp2_with fail
        obtain ⟨wc, gx, hwn, hgx, hb, hx, hx1, hx2⟩ := alloc_step wc 49 #[.int .i64 0, .string ⟨#[]⟩, .int .i64 0, .slice none 0 0]
        rw [hwn, hgx]
        have s7 := hb.size
        try replace HRR := hid (HRR.out.below hb)
        try replace HXX := hid (HXX.out.below hb HXX.out.lt)
        try replace HH := hid (HH.out.below hb)
        replace HP := hid (HP.out.below hb HP.out.lt)
        replace HB := hid (HB.out.trans (hb.mono HB.out.size))
        clear p0 p1
        obtain ⟨p0, p1⟩ := fact2 HP.out
        have HXX := hid hx
        clear hx hb hwn hgx
        refine wpOrd_two rfl rfl ?_ ?_
        · skip
          go_wp2_with fail
          refine (CN.out _).mono ?_
          rintro en wc ⟨h, rfl, hh, h1, hb⟩
          have s2 := hb.size; have lh := hh.lt
          try replace HRR := hid (HRR.out.below hb)
          try replace HXX := hid (HXX.out.below hb HXX.out.lt)
          try replace HH := hid (HH.out.below hb)
          replace HP := hid (HP.out.below hb HP.out.lt)
          replace HB := hid (HB.out.trans (hb.mono HB.out.size))
          clear p0 p1
          obtain ⟨p0, p1⟩ := fact2 HP.out
          have HH := hid hh
          clear hh hb
          go_wp2_with fail
          refine wpOrd_op rfl ?_
          go_wp2_with fail
          refine wpOrd_op rfl ?_
          go_wp2_with fail
          refine (CX.out _).mono ?_
          rintro en wc ⟨rfl, hb⟩
          have s5 := hb.size
          try replace HRR := hid (HRR.out.below hb)
          try replace HXX := hid (HXX.out.below hb HXX.out.lt)
          try replace HH := hid (HH.out.below hb)
          replace HP := hid (HP.out.below hb HP.out.lt)
          replace HB := hid (HB.out.trans (hb.mono HB.out.size))
          clear p0 p1
          obtain ⟨p0, p1⟩ := fact2 HP.out
          clear hb
          go_wp2_with fail
          refine wpOrd_op rfl ?_
          go_wp2_with fail
          refine (CR.out _).mono ?_
          rintro en wc ⟨g, gb, rfl, hr, hg1, hg2, hb⟩
          have s6 := hb.size; have lg := hr.lt
          try replace HRR := hid (HRR.out.below hb)
          try replace HXX := hid (HXX.out.below hb HXX.out.lt)
          try replace HH := hid (HH.out.below hb)
          replace HP := hid (HP.out.below hb HP.out.lt)
          replace HB := hid (HB.out.trans (hb.mono HB.out.size))
          clear p0 p1
          obtain ⟨p0, p1⟩ := fact2 HP.out
          have HRR := hid hr
          clear hr hb
          go_wp2_with fail
          refine wpOrd_val rfl ?_
          go_big_quiet_step (fail)
          refine wpQuiet_nil ?_
          refine wpOrd_op rfl ?_
          obtain ⟨z0, z1, z2, z3⟩ := fact4 HXX.out
          have y0 := HXX.out.frozen 0; have y1 := HXX.out.frozen 1; have y2 := HXX.out.frozen 2; have y3 := HXX.out.frozen 3; have yl := HXX.out.lt
          go_wp2_with fail
          refine wpOrd_val rfl ?_
          go_big_quiet_step (fail)
          refine wpQuiet_nil ?_
          refine wpOrd_val rfl ?_
          go_big_quiet_step (fail)
          refine wpQuiet_nil ?_
          refine wpOrd_nil ?_
          have hB := HB.out.size
          have hsz := HXX.out.lt
          have hgw : w.heap.size ≤ gx := by omega
          obtain ⟨wz, hwz⟩ : ∃ W, set4 wc gx (.int .i64 (win : Int)) (.string ⟨#[]⟩) (.int .i64 0) (.slice none 0 0) = W := ⟨_, rfl⟩
          have HXF : Hid (HX w.heap.size wz h g gb gx 24 win [] 0 [] [] [] 0 [] (.slice none 0 0) [(gp, 44, #[.int .i64 x, .slice A n c])]) := by
            rw [← hwz]; exact HX.start HH.out HRR.out HXX.out HP.out (by omega) hB
          have HBF : Hid (Below w.heap.size w wz) := by rw [← hwz]; exact set4_below HB.out hgw _ _ _ _
          unfold set4 at hwz
          rw [hwz]
          clear hwz HH HRR HXX HP HB p0 p1 z0 z1 z2 z3 y0 y1 y2 y3 yl hB hsz hgw h1 lh hg1 hg2 lg hx1 hx2
          revert HBF HXF
          revert wz
          revert gx
          revert gb
          revert g
          revert h
          exact KEY
        · skip
          go_wp2_with fail
          refine wpOrd_op rfl ?_
          go_wp2_with fail
          refine (CN.out _).mono ?_
          rintro en wc ⟨h, rfl, hh, h1, hb⟩
          have s2 := hb.size; have lh := hh.lt
          try replace HRR := hid (HRR.out.below hb)
          try replace HXX := hid (HXX.out.below hb HXX.out.lt)
          try replace HH := hid (HH.out.below hb)
          replace HP := hid (HP.out.below hb HP.out.lt)
          replace HB := hid (HB.out.trans (hb.mono HB.out.size))
          clear p0 p1
          obtain ⟨p0, p1⟩ := fact2 HP.out
          have HH := hid hh
          clear hh hb
          go_wp2_with fail
          refine wpOrd_op rfl ?_
          go_wp2_with fail
          refine (CX.out _).mono ?_
          rintro en wc ⟨rfl, hb⟩
          have s5 := hb.size
          try replace HRR := hid (HRR.out.below hb)
          try replace HXX := hid (HXX.out.below hb HXX.out.lt)
          try replace HH := hid (HH.out.below hb)
          replace HP := hid (HP.out.below hb HP.out.lt)
          replace HB := hid (HB.out.trans (hb.mono HB.out.size))
          clear p0 p1
          obtain ⟨p0, p1⟩ := fact2 HP.out
          clear hb
          go_wp2_with fail
          refine wpOrd_op rfl ?_
          go_wp2_with fail
          refine (CR.out _).mono ?_
          rintro en wc ⟨g, gb, rfl, hr, hg1, hg2, hb⟩
          have s6 := hb.size; have lg := hr.lt
          try replace HRR := hid (HRR.out.below hb)
          try replace HXX := hid (HXX.out.below hb HXX.out.lt)
          try replace HH := hid (HH.out.below hb)
          replace HP := hid (HP.out.below hb HP.out.lt)
          replace HB := hid (HB.out.trans (hb.mono HB.out.size))
          clear p0 p1
          obtain ⟨p0, p1⟩ := fact2 HP.out
          have HRR := hid hr
          clear hr hb
          go_wp2_with fail
          refine wpOrd_val rfl ?_
          go_big_quiet_step (fail)
          refine wpQuiet_nil ?_
          refine wpOrd_op rfl ?_
          obtain ⟨z0, z1, z2, z3⟩ := fact4 HXX.out
          have y0 := HXX.out.frozen 0; have y1 := HXX.out.frozen 1; have y2 := HXX.out.frozen 2; have y3 := HXX.out.frozen 3; have yl := HXX.out.lt
          go_wp2_with fail
          refine wpOrd_val rfl ?_
          go_big_quiet_step (fail)
          refine wpQuiet_nil ?_
          refine wpOrd_val rfl ?_
          go_big_quiet_step (fail)
          refine wpQuiet_nil ?_
          refine wpOrd_nil ?_
          have hB := HB.out.size
          have hsz := HXX.out.lt
          have hgw : w.heap.size ≤ gx := by omega
          obtain ⟨wz, hwz⟩ : ∃ W, set4 wc gx (.int .i64 (win : Int)) (.string ⟨#[]⟩) (.int .i64 0) (.slice none 0 0) = W := ⟨_, rfl⟩
          have HXF : Hid (HX w.heap.size wz h g gb gx 24 win [] 0 [] [] [] 0 [] (.slice none 0 0) [(gp, 44, #[.int .i64 x, .slice A n c])]) := by
            rw [← hwz]; exact HX.start HH.out HRR.out HXX.out HP.out (by omega) hB
          have HBF : Hid (Below w.heap.size w wz) := by rw [← hwz]; exact set4_below HB.out hgw _ _ _ _
          unfold set4 at hwz
          rw [hwz]
          clear hwz HH HRR HXX HP HB p0 p1 z0 z1 z2 z3 y0 y1 y2 y3 yl hB hsz hgw h1 lh hg1 hg2 lg hx1 hx2
          revert HBF HXF
          revert wz
          revert gx
          revert gb
          revert g
          revert h
          exact KEY
    · skip
      go_wp2_with fail
      refine wpOrd_two rfl rfl ?_ ?_
      · skip
        go_wp2_with fail
        refine wpOrd_two rfl rfl ?_ ?_
        · skip
          go_wp2_with fail
          refine (CN.out _).mono ?_
          rintro en wc ⟨h, rfl, hh, h1, hb⟩
          have s2 := hb.size; have lh := hh.lt
          try replace HRR := hid (HRR.out.below hb)
          try replace HXX := hid (HXX.out.below hb HXX.out.lt)
          try replace HH := hid (HH.out.below hb)
          replace HP := hid (HP.out.below hb HP.out.lt)
          replace HB := hid (HB.out.trans (hb.mono HB.out.size))
          clear p0 p1
          obtain ⟨p0, p1⟩ := fact2 HP.out
          have HH := hid hh
          clear hh hb
          go_wp2_with fail
          refine wpOrd_two rfl rfl ?_ ?_
          · skip
            go_wp2_with fail
            refine (CX.out _).mono ?_
            rintro en wc ⟨rfl, hb⟩
            have s5 := hb.size
            try replace HRR := hid (HRR.out.below hb)
            try replace HXX := hid (HXX.out.below hb HXX.out.lt)
            try replace HH := hid (HH.out.below hb)
            replace HP := hid (HP.out.below hb HP.out.lt)
            replace HB := hid (HB.out.trans (hb.mono HB.out.size))
            clear p0 p1
            obtain ⟨p0, p1⟩ := fact2 HP.out
            clear hb
            go_wp2_with fail
            refine wpOrd_two rfl rfl ?_ ?_
            · skip
              go_wp2_with fail
              refine (CR.out _).mono ?_
              rintro en wc ⟨g, gb, rfl, hr, hg1, hg2, hb⟩
              have s6 := hb.size; have lg := hr.lt
              try replace HRR := hid (HRR.out.below hb)
              try replace HXX := hid (HXX.out.below hb HXX.out.lt)
              try replace HH := hid (HH.out.below hb)
              replace HP := hid (HP.out.below hb HP.out.lt)
              replace HB := hid (HB.out.trans (hb.mono HB.out.size))
              clear p0 p1
              obtain ⟨p0, p1⟩ := fact2 HP.out
              have HRR := hid hr
              clear hr hb
              go_wp2_with fail
              refine wpOrd_op rfl ?_
              go_wp2_with fail
              obtain ⟨wc, gx, hwn, hgx, hb, hx, hx1, hx2⟩ := alloc_step wc 49 #[.int .i64 0, .string ⟨#[]⟩, .int .i64 0, .slice none 0 0]
              rw [hwn, hgx]
              have s7 := hb.size
              try replace HRR := hid (HRR.out.below hb)
              try replace HXX := hid (HXX.out.below hb HXX.out.lt)
              try replace HH := hid (HH.out.below hb)
              replace HP := hid (HP.out.below hb HP.out.lt)
              replace HB := hid (HB.out.trans (hb.mono HB.out.size))
              clear p0 p1
              obtain ⟨p0, p1⟩ := fact2 HP.out
              have HXX := hid hx
              clear hx hb hwn hgx
              refine wpOrd_val rfl ?_
              go_big_quiet_step (fail)
              refine wpQuiet_nil ?_
              refine wpOrd_op rfl ?_
              obtain ⟨z0, z1, z2, z3⟩ := fact4 HXX.out
              have y0 := HXX.out.frozen 0; have y1 := HXX.out.frozen 1; have y2 := HXX.out.frozen 2; have y3 := HXX.out.frozen 3; have yl := HXX.out.lt
              go_wp2_with fail
              refine wpOrd_val rfl ?_
              go_big_quiet_step (fail)
              refine wpQuiet_nil ?_
              refine wpOrd_val rfl ?_
              go_big_quiet_step (fail)
              refine wpQuiet_nil ?_
              refine wpOrd_nil ?_
              have hB := HB.out.size
              have hsz := HXX.out.lt
              have hgw : w.heap.size ≤ gx := by omega
              obtain ⟨wz, hwz⟩ : ∃ W, set4 wc gx (.int .i64 (win : Int)) (.string ⟨#[]⟩) (.int .i64 0) (.slice none 0 0) = W := ⟨_, rfl⟩
              have HXF : Hid (HX w.heap.size wz h g gb gx 24 win [] 0 [] [] [] 0 [] (.slice none 0 0) [(gp, 44, #[.int .i64 x, .slice A n c])]) := by
                rw [← hwz]; exact HX.start HH.out HRR.out HXX.out HP.out (by omega) hB
              have HBF : Hid (Below w.heap.size w wz) := by rw [← hwz]; exact set4_below HB.out hgw _ _ _ _
              unfold set4 at hwz
              rw [hwz]
              clear hwz HH HRR HXX HP HB p0 p1 z0 z1 z2 z3 y0 y1 y2 y3 yl hB hsz hgw h1 lh hg1 hg2 lg hx1 hx2
              revert HBF HXF
              revert wz
              revert gx
              revert gb
              revert g
              revert h
              exact KEY
            · skip
              go_wp2_with fail
              obtain ⟨wc, gx, hwn, hgx, hb, hx, hx1, hx2⟩ := alloc_step wc 49 #[.int .i64 0, .string ⟨#[]⟩, .int .i64 0, .slice none 0 0]
              rw [hwn, hgx]
              have s7 := hb.size
              try replace HRR := hid (HRR.out.below hb)
              try replace HXX := hid (HXX.out.below hb HXX.out.lt)
              try replace HH := hid (HH.out.below hb)
              replace HP := hid (HP.out.below hb HP.out.lt)
              replace HB := hid (HB.out.trans (hb.mono HB.out.size))
              clear p0 p1
              obtain ⟨p0, p1⟩ := fact2 HP.out
              have HXX := hid hx
              clear hx hb hwn hgx
              refine wpOrd_op rfl ?_
              go_wp2_with fail
              refine (CR.out _).mono ?_
              rintro en wc ⟨g, gb, rfl, hr, hg1, hg2, hb⟩
              have s6 := hb.size; have lg := hr.lt
              try replace HRR := hid (HRR.out.below hb)
              try replace HXX := hid (HXX.out.below hb HXX.out.lt)
              try replace HH := hid (HH.out.below hb)
              replace HP := hid (HP.out.below hb HP.out.lt)
              replace HB := hid (HB.out.trans (hb.mono HB.out.size))
              clear p0 p1
              obtain ⟨p0, p1⟩ := fact2 HP.out
              have HRR := hid hr
              clear hr hb
              go_wp2_with fail
              refine wpOrd_val rfl ?_
              go_big_quiet_step (fail)
              refine wpQuiet_nil ?_
              refine wpOrd_op rfl ?_
              obtain ⟨z0, z1, z2, z3⟩ := fact4 HXX.out
              have y0 := HXX.out.frozen 0; have y1 := HXX.out.frozen 1; have y2 := HXX.out.frozen 2; have y3 := HXX.out.frozen 3; have yl := HXX.out.lt
              go_wp2_with fail
              refine wpOrd_val rfl ?_
              go_big_quiet_step (fail)
              refine wpQuiet_nil ?_
              refine wpOrd_val rfl ?_
              go_big_quiet_step (fail)
              refine wpQuiet_nil ?_
              refine wpOrd_nil ?_
              have hB := HB.out.size
              have hsz := HXX.out.lt
              have hgw : w.heap.size ≤ gx := by omega
              obtain ⟨wz, hwz⟩ : ∃ W, set4 wc gx (.int .i64 (win : Int)) (.string ⟨#[]⟩) (.int .i64 0) (.slice none 0 0) = W := ⟨_, rfl⟩
              have HXF : Hid (HX w.heap.size wz h g gb gx 24 win [] 0 [] [] [] 0 [] (.slice none 0 0) [(gp, 44, #[.int .i64 x, .slice A n c])]) := by
                rw [← hwz]; exact HX.start HH.out HRR.out HXX.out HP.out (by omega) hB
              have HBF : Hid (Below w.heap.size w wz) := by rw [← hwz]; exact set4_below HB.out hgw _ _ _ _
              unfold set4 at hwz
              rw [hwz]
              clear hwz HH HRR HXX HP HB p0 p1 z0 z1 z2 z3 y0 y1 y2 y3 yl hB hsz hgw h1 lh hg1 hg2 lg hx1 hx2
              revert HBF HXF
              revert wz
              revert gx
              revert gb
              revert g
              revert h
              exact KEY
          · skip
            go_wp2_with fail
            obtain ⟨wc, gx, hwn, hgx, hb, hx, hx1, hx2⟩ := alloc_step wc 49 #[.int .i64 0, .string ⟨#[]⟩, .int .i64 0, .slice none 0 0]
            rw [hwn, hgx]
            have s7 := hb.size
            try replace HRR := hid (HRR.out.below hb)
            try replace HXX := hid (HXX.out.below hb HXX.out.lt)
            try replace HH := hid (HH.out.below hb)
            replace HP := hid (HP.out.below hb HP.out.lt)
            replace HB := hid (HB.out.trans (hb.mono HB.out.size))
            clear p0 p1
            obtain ⟨p0, p1⟩ := fact2 HP.out
            have HXX := hid hx
            clear hx hb hwn hgx
            refine wpOrd_op rfl ?_
            go_wp2_with fail
            refine (CX.out _).mono ?_
            rintro en wc ⟨rfl, hb⟩
            have s5 := hb.size
            try replace HRR := hid (HRR.out.below hb)
            try replace HXX := hid (HXX.out.below hb HXX.out.lt)
            try replace HH := hid (HH.out.below hb)
            replace HP := hid (HP.out.below hb HP.out.lt)
            replace HB := hid (HB.out.trans (hb.mono HB.out.size))
            clear p0 p1
            obtain ⟨p0, p1⟩ := fact2 HP.out
            clear hb
            go_wp2_with fail
            refine wpOrd_op rfl ?_
            go_wp2_with fail
            refine (CR.out _).mono ?_
            rintro en wc ⟨g, gb, rfl, hr, hg1, hg2, hb⟩
            have s6 := hb.size; have lg := hr.lt
            try replace HRR := hid (HRR.out.below hb)
            try replace HXX := hid (HXX.out.below hb HXX.out.lt)
            try replace HH := hid (HH.out.below hb)
            replace HP := hid (HP.out.below hb HP.out.lt)
            replace HB := hid (HB.out.trans (hb.mono HB.out.size))
            clear p0 p1
            obtain ⟨p0, p1⟩ := fact2 HP.out
            have HRR := hid hr
            clear hr hb
            go_wp2_with fail
            refine wpOrd_val rfl ?_
            go_big_quiet_step (fail)
            refine wpQuiet_nil ?_
            refine wpOrd_op rfl ?_
            obtain ⟨z0, z1, z2, z3⟩ := fact4 HXX.out
            have y0 := HXX.out.frozen 0; have y1 := HXX.out.frozen 1; have y2 := HXX.out.frozen 2; have y3 := HXX.out.frozen 3; have yl := HXX.out.lt
            go_wp2_with fail
            refine wpOrd_val rfl ?_
            go_big_quiet_step (fail)
            refine wpQuiet_nil ?_
            refine wpOrd_val rfl ?_
            go_big_quiet_step (fail)
            refine wpQuiet_nil ?_
            refine wpOrd_nil ?_
            have hB := HB.out.size
            have hsz := HXX.out.lt
            have hgw : w.heap.size ≤ gx := by omega
            obtain ⟨wz, hwz⟩ : ∃ W, set4 wc gx (.int .i64 (win : Int)) (.string ⟨#[]⟩) (.int .i64 0) (.slice none 0 0) = W := ⟨_, rfl⟩
            have HXF : Hid (HX w.heap.size wz h g gb gx 24 win [] 0 [] [] [] 0 [] (.slice none 0 0) [(gp, 44, #[.int .i64 x, .slice A n c])]) := by
              rw [← hwz]; exact HX.start HH.out HRR.out HXX.out HP.out (by omega) hB
            have HBF : Hid (Below w.heap.size w wz) := by rw [← hwz]; exact set4_below HB.out hgw _ _ _ _
            unfold set4 at hwz
            rw [hwz]
            clear hwz HH HRR HXX HP HB p0 p1 z0 z1 z2 z3 y0 y1 y2 y3 yl hB hsz hgw h1 lh hg1 hg2 lg hx1 hx2
            revert HBF HXF
            revert wz
            revert gx
            revert gb
            revert g
            revert h
            exact KEY
        · skip
          go_wp2_with fail
          obtain ⟨wc, gx, hwn, hgx, hb, hx, hx1, hx2⟩ := alloc_step wc 49 #[.int .i64 0, .string ⟨#[]⟩, .int .i64 0, .slice none 0 0]
          rw [hwn, hgx]
          have s7 := hb.size
          try replace HRR := hid (HRR.out.below hb)
          try replace HXX := hid (HXX.out.below hb HXX.out.lt)
          try replace HH := hid (HH.out.below hb)
          replace HP := hid (HP.out.below hb HP.out.lt)
          replace HB := hid (HB.out.trans (hb.mono HB.out.size))
          clear p0 p1
          obtain ⟨p0, p1⟩ := fact2 HP.out
          have HXX := hid hx
          clear hx hb hwn hgx
          refine wpOrd_op rfl ?_
          go_wp2_with fail
          refine (CN.out _).mono ?_
          rintro en wc ⟨h, rfl, hh, h1, hb⟩
          have s2 := hb.size; have lh := hh.lt
          try replace HRR := hid (HRR.out.below hb)
          try replace HXX := hid (HXX.out.below hb HXX.out.lt)
          try replace HH := hid (HH.out.below hb)
          replace HP := hid (HP.out.below hb HP.out.lt)
          replace HB := hid (HB.out.trans (hb.mono HB.out.size))
          clear p0 p1
          obtain ⟨p0, p1⟩ := fact2 HP.out
          have HH := hid hh
          clear hh hb
          go_wp2_with fail
          refine wpOrd_op rfl ?_
          go_wp2_with fail
          refine (CX.out _).mono ?_
          rintro en wc ⟨rfl, hb⟩
          have s5 := hb.size
          try replace HRR := hid (HRR.out.below hb)
          try replace HXX := hid (HXX.out.below hb HXX.out.lt)
          try replace HH := hid (HH.out.below hb)
          replace HP := hid (HP.out.below hb HP.out.lt)
          replace HB := hid (HB.out.trans (hb.mono HB.out.size))
          clear p0 p1
          obtain ⟨p0, p1⟩ := fact2 HP.out
          clear hb
          go_wp2_with fail
          refine wpOrd_op rfl ?_
          go_wp2_with fail
          refine (CR.out _).mono ?_
          rintro en wc ⟨g, gb, rfl, hr, hg1, hg2, hb⟩
          have s6 := hb.size; have lg := hr.lt
          try replace HRR := hid (HRR.out.below hb)
          try replace HXX := hid (HXX.out.below hb HXX.out.lt)
          try replace HH := hid (HH.out.below hb)
          replace HP := hid (HP.out.below hb HP.out.lt)
          replace HB := hid (HB.out.trans (hb.mono HB.out.size))
          clear p0 p1
          obtain ⟨p0, p1⟩ := fact2 HP.out
          have HRR := hid hr
          clear hr hb
          go_wp2_with fail
          refine wpOrd_val rfl ?_
          go_big_quiet_step (fail)
          refine wpQuiet_nil ?_
          refine wpOrd_op rfl ?_
          obtain ⟨z0, z1, z2, z3⟩ := fact4 HXX.out
          have y0 := HXX.out.frozen 0; have y1 := HXX.out.frozen 1; have y2 := HXX.out.frozen 2; have y3 := HXX.out.frozen 3; have yl := HXX.out.lt
          go_wp2_with fail
          refine wpOrd_val rfl ?_
          go_big_quiet_step (fail)
          refine wpQuiet_nil ?_
          refine wpOrd_val rfl ?_
          go_big_quiet_step (fail)
          refine wpQuiet_nil ?_
          refine wpOrd_nil ?_
          have hB := HB.out.size
          have hsz := HXX.out.lt
          have hgw : w.heap.size ≤ gx := by omega
          obtain ⟨wz, hwz⟩ : ∃ W, set4 wc gx (.int .i64 (win : Int)) (.string ⟨#[]⟩) (.int .i64 0) (.slice none 0 0) = W := ⟨_, rfl⟩
          have HXF : Hid (HX w.heap.size wz h g gb gx 24 win [] 0 [] [] [] 0 [] (.slice none 0 0) [(gp, 44, #[.int .i64 x, .slice A n c])]) := by
            rw [← hwz]; exact HX.start HH.out HRR.out HXX.out HP.out (by omega) hB
          have HBF : Hid (Below w.heap.size w wz) := by rw [← hwz]; exact set4_below HB.out hgw _ _ _ _
          unfold set4 at hwz
          rw [hwz]
          clear hwz HH HRR HXX HP HB p0 p1 z0 z1 z2 z3 y0 y1 y2 y3 yl hB hsz hgw h1 lh hg1 hg2 lg hx1 hx2
          revert HBF HXF
          revert wz
          revert gx
          revert gb
          revert g
          revert h
          exact KEY
      · skip
        go_wp2_with fail
        obtain ⟨wc, gx, hwn, hgx, hb, hx, hx1, hx2⟩ := alloc_step wc 49 #[.int .i64 0, .string ⟨#[]⟩, .int .i64 0, .slice none 0 0]
        rw [hwn, hgx]
        have s7 := hb.size
        try replace HRR := hid (HRR.out.below hb)
        try replace HXX := hid (HXX.out.below hb HXX.out.lt)
        try replace HH := hid (HH.out.below hb)
        replace HP := hid (HP.out.below hb HP.out.lt)
        replace HB := hid (HB.out.trans (hb.mono HB.out.size))
        clear p0 p1
        obtain ⟨p0, p1⟩ := fact2 HP.out
        have HXX := hid hx
        clear hx hb hwn hgx
        refine wpOrd_op rfl ?_
        go_wp2_with fail
        refine wpOrd_op rfl ?_
        go_wp2_with fail
        refine (CN.out _).mono ?_
        rintro en wc ⟨h, rfl, hh, h1, hb⟩
        have s2 := hb.size; have lh := hh.lt
        try replace HRR := hid (HRR.out.below hb)
        try replace HXX := hid (HXX.out.below hb HXX.out.lt)
        try replace HH := hid (HH.out.below hb)
        replace HP := hid (HP.out.below hb HP.out.lt)
        replace HB := hid (HB.out.trans (hb.mono HB.out.size))
        clear p0 p1
        obtain ⟨p0, p1⟩ := fact2 HP.out
        have HH := hid hh
        clear hh hb
        go_wp2_with fail
        refine wpOrd_op rfl ?_
        go_wp2_with fail
        refine (CX.out _).mono ?_
        rintro en wc ⟨rfl, hb⟩
        have s5 := hb.size
        try replace HRR := hid (HRR.out.below hb)
        try replace HXX := hid (HXX.out.below hb HXX.out.lt)
        try replace HH := hid (HH.out.below hb)
        replace HP := hid (HP.out.below hb HP.out.lt)
        replace HB := hid (HB.out.trans (hb.mono HB.out.size))
        clear p0 p1
        obtain ⟨p0, p1⟩ := fact2 HP.out
        clear hb
        go_wp2_with fail
        refine wpOrd_op rfl ?_
        go_wp2_with fail
        refine (CR.out _).mono ?_
        rintro en wc ⟨g, gb, rfl, hr, hg1, hg2, hb⟩
        have s6 := hb.size; have lg := hr.lt
        try replace HRR := hid (HRR.out.below hb)
        try replace HXX := hid (HXX.out.below hb HXX.out.lt)
        try replace HH := hid (HH.out.below hb)
        replace HP := hid (HP.out.below hb HP.out.lt)
        replace HB := hid (HB.out.trans (hb.mono HB.out.size))
        clear p0 p1
        obtain ⟨p0, p1⟩ := fact2 HP.out
        have HRR := hid hr
        clear hr hb
        go_wp2_with fail
        refine wpOrd_val rfl ?_
        go_big_quiet_step (fail)
        refine wpQuiet_nil ?_
        refine wpOrd_op rfl ?_
        obtain ⟨z0, z1, z2, z3⟩ := fact4 HXX.out
        have y0 := HXX.out.frozen 0; have y1 := HXX.out.frozen 1; have y2 := HXX.out.frozen 2; have y3 := HXX.out.frozen 3; have yl := HXX.out.lt
        go_wp2_with fail
        refine wpOrd_val rfl ?_
        go_big_quiet_step (fail)
        refine wpQuiet_nil ?_
        refine wpOrd_val rfl ?_
        go_big_quiet_step (fail)
        refine wpQuiet_nil ?_
        refine wpOrd_nil ?_
        have hB := HB.out.size
        have hsz := HXX.out.lt
        have hgw : w.heap.size ≤ gx := by omega
        obtain ⟨wz, hwz⟩ : ∃ W, set4 wc gx (.int .i64 (win : Int)) (.string ⟨#[]⟩) (.int .i64 0) (.slice none 0 0) = W := ⟨_, rfl⟩
        have HXF : Hid (HX w.heap.size wz h g gb gx 24 win [] 0 [] [] [] 0 [] (.slice none 0 0) [(gp, 44, #[.int .i64 x, .slice A n c])]) := by
          rw [← hwz]; exact HX.start HH.out HRR.out HXX.out HP.out (by omega) hB
        have HBF : Hid (Below w.heap.size w wz) := by rw [← hwz]; exact set4_below HB.out hgw _ _ _ _
        unfold set4 at hwz
        rw [hwz]
        clear hwz HH HRR HXX HP HB p0 p1 z0 z1 z2 z3 y0 y1 y2 y3 yl hB hsz hgw h1 lh hg1 hg2 lg hx1 hx2
        revert HBF HXF
        revert wz
        revert gx
        revert gb
        revert g
        revert h
        exact KEY
    · skip
      go_wp2_with fail
      obtain ⟨wc, gx, hwn, hgx, hb, hx, hx1, hx2⟩ := alloc_step wc 49 #[.int .i64 0, .string ⟨#[]⟩, .int .i64 0, .slice none 0 0]
      rw [hwn, hgx]
      have s7 := hb.size
      try replace HRR := hid (HRR.out.below hb)
      try replace HXX := hid (HXX.out.below hb HXX.out.lt)
      try replace HH := hid (HH.out.below hb)
      replace HP := hid (HP.out.below hb HP.out.lt)
      replace HB := hid (HB.out.trans (hb.mono HB.out.size))
      clear p0 p1
      obtain ⟨p0, p1⟩ := fact2 HP.out
      have HXX := hid hx
      clear hx hb hwn hgx
      refine wpOrd_two rfl rfl ?_ ?_
      · skip
        go_wp2_with fail
        refine wpOrd_two rfl rfl ?_ ?_
        · skip
          go_wp2_with fail
          refine (CN.out _).mono ?_
          rintro en wc ⟨h, rfl, hh, h1, hb⟩
          have s2 := hb.size; have lh := hh.lt
          try replace HRR := hid (HRR.out.below hb)
          try replace HXX := hid (HXX.out.below hb HXX.out.lt)
          try replace HH := hid (HH.out.below hb)
          replace HP := hid (HP.out.below hb HP.out.lt)
          replace HB := hid (HB.out.trans (hb.mono HB.out.size))
          clear p0 p1
          obtain ⟨p0, p1⟩ := fact2 HP.out
          have HH := hid hh
          clear hh hb
          go_wp2_with fail
          refine wpOrd_op rfl ?_
          go_wp2_with fail
          refine wpOrd_op rfl ?_
          go_wp2_with fail
          refine (CX.out _).mono ?_
          rintro en wc ⟨rfl, hb⟩
          have s5 := hb.size
          try replace HRR := hid (HRR.out.below hb)
          try replace HXX := hid (HXX.out.below hb HXX.out.lt)
          try replace HH := hid (HH.out.below hb)
          replace HP := hid (HP.out.below hb HP.out.lt)
          replace HB := hid (HB.out.trans (hb.mono HB.out.size))
          clear p0 p1
          obtain ⟨p0, p1⟩ := fact2 HP.out
          clear hb
          go_wp2_with fail
          refine wpOrd_op rfl ?_
          go_wp2_with fail
          refine (CR.out _).mono ?_
          rintro en wc ⟨g, gb, rfl, hr, hg1, hg2, hb⟩
          have s6 := hb.size; have lg := hr.lt
          try replace HRR := hid (HRR.out.below hb)
          try replace HXX := hid (HXX.out.below hb HXX.out.lt)
          try replace HH := hid (HH.out.below hb)
          replace HP := hid (HP.out.below hb HP.out.lt)
          replace HB := hid (HB.out.trans (hb.mono HB.out.size))
          clear p0 p1
          obtain ⟨p0, p1⟩ := fact2 HP.out
          have HRR := hid hr
          clear hr hb
          go_wp2_with fail
          refine wpOrd_val rfl ?_
          go_big_quiet_step (fail)
          refine wpQuiet_nil ?_
          refine wpOrd_op rfl ?_
          obtain ⟨z0, z1, z2, z3⟩ := fact4 HXX.out
          have y0 := HXX.out.frozen 0; have y1 := HXX.out.frozen 1; have y2 := HXX.out.frozen 2; have y3 := HXX.out.frozen 3; have yl := HXX.out.lt
          go_wp2_with fail
          refine wpOrd_val rfl ?_
          go_big_quiet_step (fail)
          refine wpQuiet_nil ?_
          refine wpOrd_val rfl ?_
          go_big_quiet_step (fail)
          refine wpQuiet_nil ?_
          refine wpOrd_nil ?_
          have hB := HB.out.size
          have hsz := HXX.out.lt
          have hgw : w.heap.size ≤ gx := by omega
          obtain ⟨wz, hwz⟩ : ∃ W, set4 wc gx (.int .i64 (win : Int)) (.string ⟨#[]⟩) (.int .i64 0) (.slice none 0 0) = W := ⟨_, rfl⟩
          have HXF : Hid (HX w.heap.size wz h g gb gx 24 win [] 0 [] [] [] 0 [] (.slice none 0 0) [(gp, 44, #[.int .i64 x, .slice A n c])]) := by
            rw [← hwz]; exact HX.start HH.out HRR.out HXX.out HP.out (by omega) hB
          have HBF : Hid (Below w.heap.size w wz) := by rw [← hwz]; exact set4_below HB.out hgw _ _ _ _
          unfold set4 at hwz
          rw [hwz]
          clear hwz HH HRR HXX HP HB p0 p1 z0 z1 z2 z3 y0 y1 y2 y3 yl hB hsz hgw h1 lh hg1 hg2 lg hx1 hx2
          revert HBF HXF
          revert wz
          revert gx
          revert gb
          revert g
          revert h
          exact KEY
        · skip
          go_wp2_with fail
          refine wpOrd_op rfl ?_
          go_wp2_with fail
          refine (CN.out _).mono ?_
          rintro en wc ⟨h, rfl, hh, h1, hb⟩
          have s2 := hb.size; have lh := hh.lt
          try replace HRR := hid (HRR.out.below hb)
          try replace HXX := hid (HXX.out.below hb HXX.out.lt)
          try replace HH := hid (HH.out.below hb)
          replace HP := hid (HP.out.below hb HP.out.lt)
          replace HB := hid (HB.out.trans (hb.mono HB.out.size))
          clear p0 p1
          obtain ⟨p0, p1⟩ := fact2 HP.out
          have HH := hid hh
          clear hh hb
          go_wp2_with fail
          refine wpOrd_op rfl ?_
          go_wp2_with fail
          refine (CX.out _).mono ?_
          rintro en wc ⟨rfl, hb⟩
          have s5 := hb.size
          try replace HRR := hid (HRR.out.below hb)
          try replace HXX := hid (HXX.out.below hb HXX.out.lt)
          try replace HH := hid (HH.out.below hb)
          replace HP := hid (HP.out.below hb HP.out.lt)
          replace HB := hid (HB.out.trans (hb.mono HB.out.size))
          clear p0 p1
          obtain ⟨p0, p1⟩ := fact2 HP.out
          clear hb
          go_wp2_with fail
          refine wpOrd_op rfl ?_
          go_wp2_with fail
          refine (CR.out _).mono ?_
          rintro en wc ⟨g, gb, rfl, hr, hg1, hg2, hb⟩
          have s6 := hb.size; have lg := hr.lt
          try replace HRR := hid (HRR.out.below hb)
          try replace HXX := hid (HXX.out.below hb HXX.out.lt)
          try replace HH := hid (HH.out.below hb)
          replace HP := hid (HP.out.below hb HP.out.lt)
          replace HB := hid (HB.out.trans (hb.mono HB.out.size))
          clear p0 p1
          obtain ⟨p0, p1⟩ := fact2 HP.out
          have HRR := hid hr
          clear hr hb
          go_wp2_with fail
          refine wpOrd_val rfl ?_
          go_big_quiet_step (fail)
          refine wpQuiet_nil ?_
          refine wpOrd_op rfl ?_
          obtain ⟨z0, z1, z2, z3⟩ := fact4 HXX.out
          have y0 := HXX.out.frozen 0; have y1 := HXX.out.frozen 1; have y2 := HXX.out.frozen 2; have y3 := HXX.out.frozen 3; have yl := HXX.out.lt
          go_wp2_with fail
          refine wpOrd_val rfl ?_
          go_big_quiet_step (fail)
          refine wpQuiet_nil ?_
          refine wpOrd_val rfl ?_
          go_big_quiet_step (fail)
          refine wpQuiet_nil ?_
          refine wpOrd_nil ?_
          have hB := HB.out.size
          have hsz := HXX.out.lt
          have hgw : w.heap.size ≤ gx := by omega
          obtain ⟨wz, hwz⟩ : ∃ W, set4 wc gx (.int .i64 (win : Int)) (.string ⟨#[]⟩) (.int .i64 0) (.slice none 0 0) = W := ⟨_, rfl⟩
          have HXF : Hid (HX w.heap.size wz h g gb gx 24 win [] 0 [] [] [] 0 [] (.slice none 0 0) [(gp, 44, #[.int .i64 x, .slice A n c])]) := by
            rw [← hwz]; exact HX.start HH.out HRR.out HXX.out HP.out (by omega) hB
          have HBF : Hid (Below w.heap.size w wz) := by rw [← hwz]; exact set4_below HB.out hgw _ _ _ _
          unfold set4 at hwz
          rw [hwz]
          clear hwz HH HRR HXX HP HB p0 p1 z0 z1 z2 z3 y0 y1 y2 y3 yl hB hsz hgw h1 lh hg1 hg2 lg hx1 hx2
          revert HBF HXF
          revert wz
          revert gx
          revert gb
          revert g
          revert h
          exact KEY
      · skip
        go_wp2_with fail
        refine wpOrd_op rfl ?_
        go_wp2_with fail
        refine wpOrd_op rfl ?_
        go_wp2_with fail
        refine (CN.out _).mono ?_
        rintro en wc ⟨h, rfl, hh, h1, hb⟩
        have s2 := hb.size; have lh := hh.lt
        try replace HRR := hid (HRR.out.below hb)
        try replace HXX := hid (HXX.out.below hb HXX.out.lt)
        try replace HH := hid (HH.out.below hb)
        replace HP := hid (HP.out.below hb HP.out.lt)
        replace HB := hid (HB.out.trans (hb.mono HB.out.size))
        clear p0 p1
        obtain ⟨p0, p1⟩ := fact2 HP.out
        have HH := hid hh
        clear hh hb
        go_wp2_with fail
        refine wpOrd_op rfl ?_
        go_wp2_with fail
        refine (CX.out _).mono ?_
        rintro en wc ⟨rfl, hb⟩
        have s5 := hb.size
        try replace HRR := hid (HRR.out.below hb)
        try replace HXX := hid (HXX.out.below hb HXX.out.lt)
        try replace HH := hid (HH.out.below hb)
        replace HP := hid (HP.out.below hb HP.out.lt)
        replace HB := hid (HB.out.trans (hb.mono HB.out.size))
        clear p0 p1
        obtain ⟨p0, p1⟩ := fact2 HP.out
        clear hb
        go_wp2_with fail
        refine wpOrd_op rfl ?_
        go_wp2_with fail
        refine (CR.out _).mono ?_
        rintro en wc ⟨g, gb, rfl, hr, hg1, hg2, hb⟩
        have s6 := hb.size; have lg := hr.lt
        try replace HRR := hid (HRR.out.below hb)
        try replace HXX := hid (HXX.out.below hb HXX.out.lt)
        try replace HH := hid (HH.out.below hb)
        replace HP := hid (HP.out.below hb HP.out.lt)
        replace HB := hid (HB.out.trans (hb.mono HB.out.size))
        clear p0 p1
        obtain ⟨p0, p1⟩ := fact2 HP.out
        have HRR := hid hr
        clear hr hb
        go_wp2_with fail
        refine wpOrd_val rfl ?_
        go_big_quiet_step (fail)
        refine wpQuiet_nil ?_
        refine wpOrd_op rfl ?_
        obtain ⟨z0, z1, z2, z3⟩ := fact4 HXX.out
        have y0 := HXX.out.frozen 0; have y1 := HXX.out.frozen 1; have y2 := HXX.out.frozen 2; have y3 := HXX.out.frozen 3; have yl := HXX.out.lt
        go_wp2_with fail
        refine wpOrd_val rfl ?_
        go_big_quiet_step (fail)
        refine wpQuiet_nil ?_
        refine wpOrd_val rfl ?_
        go_big_quiet_step (fail)
        refine wpQuiet_nil ?_
        refine wpOrd_nil ?_
        have hB := HB.out.size
        have hsz := HXX.out.lt
        have hgw : w.heap.size ≤ gx := by omega
        obtain ⟨wz, hwz⟩ : ∃ W, set4 wc gx (.int .i64 (win : Int)) (.string ⟨#[]⟩) (.int .i64 0) (.slice none 0 0) = W := ⟨_, rfl⟩
        have HXF : Hid (HX w.heap.size wz h g gb gx 24 win [] 0 [] [] [] 0 [] (.slice none 0 0) [(gp, 44, #[.int .i64 x, .slice A n c])]) := by
          rw [← hwz]; exact HX.start HH.out HRR.out HXX.out HP.out (by omega) hB
        have HBF : Hid (Below w.heap.size w wz) := by rw [← hwz]; exact set4_below HB.out hgw _ _ _ _
        unfold set4 at hwz
        rw [hwz]
        clear hwz HH HRR HXX HP HB p0 p1 z0 z1 z2 z3 y0 y1 y2 y3 yl hB hsz hgw h1 lh hg1 hg2 lg hx1 hx2
        revert HBF HXF
        revert wz
        revert gx
        revert gb
        revert g
        revert h
        exact KEY
  · intro h g gb gx wz HXF HBF
    clear HPA HBA CN CX CR
    go_wp2_with fail
    go_loopw [6, 7] (fun sv iv wr => ∃ (i : Nat) (S : List UInt8) (seen : Nat) (R : List UInt8) (ls : List (List Item)) (v : Value), sv = .string (rgT R) ∧ iv = .int .i64 (i : Int) ∧ i ≤ n ∧ i ≤ 16 ∧ S.length + R.length ≤ 12 * i ∧ ls.length ≤ 8 ∧ (∀ l ∈ ls, l.length ≤ 60) ∧
        HX w.heap.size wr h g gb gx 24 win S seen R ls S seen ls v [(gp, 44, #[.int .i64 x, .slice A n c])] ∧ Below w.heap.size w wr) (fun _ iv _ => 16 - (intOf iv).toNat)
    case atStart => exact ⟨0, [], 0, [], [], .slice none 0 0, rfl, rfl, Nat.zero_le _, by omega, by simp, by simp, by simp, HXF.out, HBF.out⟩
    case round =>
      obtain ⟨i, S, seen, R, ls, v, rfl, rfl, hin, hi16, hlen, hl8, hl60, hxr, hbr⟩ := hrel
      have HXR := hid hxr; have HBR := hid hbr; have HL8 := hid hl8; have HL60 := hid hl60; have HLEN := hid hlen
      clear hxr hbr hl8 hl60 hlen HXF HBF
      obtain ⟨p0, p1⟩ := fact2 (HXR.out.prot (List.mem_cons_self ..))
      obtain ⟨tr, htr⟩ : ∃ y, rgT R = y := ⟨_, rfl⟩
      have HTR0 := hid htr
      rw [htr]
      clear htr
      by_cases hlt : i < n
      · by_cases hlt16 : i < 16
        · have HK : Hid (i < l.length) := by rw [Hid, HLN.out]; exact hlt
          obtain ⟨ba, off, va, hA, hba, htx, d0, d1, d2⟩ := HIN.out.at i HK.out
          have hmem := HOK.out _ (List.getElem_mem HK.out)
          obtain ⟨⟨kd, sa, pa⟩, hact⟩ : ∃ y, l[i]'HK.out = y := ⟨_, rfl⟩
          rw [hact] at htx d0 d1 hmem
          obtain ⟨hk1, hk2, hk3⟩ := hmem
          simp only at htx d0 d1 hk1 hk2 hk3
          obtain ⟨Av, cv, rfl, hrd⟩ := htx
          obtain ⟨np, hnp⟩ : ∃ y, pa.length = y := ⟨_, rfl⟩
          have HNP := hid hnp
          rw [hnp] at d2
          have HSA := hid hk2
          obtain ⟨q, hq⟩ : ∃ q, fewTM pa 3 8 = q := ⟨_, rfl⟩
          obtain ⟨m, hm⟩ : ∃ m, q.length = m := ⟨_, rfl⟩
          have HQM : Hid (q.length = m) := hm
          have hm3 : m ≤ 3 := by have := fewTM_length pa 3 8; rw [hq, hm] at this; exact this
          have HQS : Hid (∀ p ∈ q, p.size ≤ 1000000) := fun p hp => by have := fewTM_size pa 3 8 p (by rw [hq]; exact hp); omega
          have CFW : Hid (∀ W, Below w.heap.size w W → Calls Try.prog 31 #[.slice Av np cv, .int .i64 3, .int .i64 8] W fun e w' => ∃ A' c', e = .returned (.slice A' m c') ∧ w'.ownsRow W.heap.size 9 1 (.slice A' m c') m (textCells q) ∧ Below W.heap.size W w') := fun W hW => by
            have := fewT_any Av np cv pa 3 8 W hnp (hrd.below hW) hk3 (by omega) (by omega)
            rw [hq, hm] at this
            exact this
          have hA2 := (bcell HBR.out).1
          have d0' := (hA2 ba _ hba).trans d0
          have d1' := (hA2 ba _ hba).trans d1
          have d2' := (hA2 ba _ hba).trans d2
          subst hA
          clear hact hk1 hk2 hk3 d0 d1 d2 hrd hA2 hq hm hnp
          go_upto_region 6 with fail
          obtain ⟨w1, ga, hw1, hga, hb, -, hga1, hga2⟩ := alloc_step wr 55 #[.int .i64 kd, .string sa, .slice Av np cv]
          have HX1 := hid (HXR.out.push 55 #[.int .i64 kd, .string sa, .slice Av np cv])
          have HB1 : Hid (Below w.heap.size w w1) := HBR.out.trans (hb.mono HBR.out.size)
          have hgap : gp < wr.heap.size := (HXR.out.prot (List.mem_cons_self ..)).lt
          rw [hw1, hga] at HX1
          rw [hw1, hga]
          have hne : gp ≠ ga := by omega
          clear hw1 hga hb HXR HBR p0 p1 d0' d1' d2' hba
          obtain ⟨a0, a1, a2⟩ := fact3 (HX1.out.prot (List.mem_cons_self ..))
          by_cases hk0 : kd = 0
          · subst hk0
            have K1 := hid (fun W => cutC_any sa 12 W HSA.out (by omega))
            have hz1 := cutM_size 12 sa
            obtain ⟨t, ht⟩ : ∃ t, cutM 12 sa = t := ⟨_, rfl⟩
            rw [ht] at K1 hz1
            clear ht
            go_wp2_with fail
            refine (K1.out _).mono ?_
            rintro en w2 ⟨rfl, rfl⟩
            clear K1
            have CP := hid (hxPut t HX1.out (by omega))
            obtain ⟨n2, hn2⟩ : ∃ y, min t.size (24 - R.length) = y := ⟨_, rfl⟩
            rw [hn2] at CP
            have hn2t : (n2 : Int) ≤ (t.size : Int) := by omega
            have hn20 : (0 : Int) ≤ (n2 : Int) := by omega
            have hn12 : n2 ≤ 12 := by omega
            have hRl := HX1.out.bounds.2.2.2.1
            have hadd : rgT R ++ t.extract 0 n2 = rgT (R ++ t.data.toList.take n2) := by
              apply Go.WideShapes.bytes_inj
              rw [ByteArray.data_append, Array.toList_append, extract_take]
              simp [rgT]
            obtain ⟨R2, hR2⟩ : ∃ y, R ++ t.data.toList.take n2 = y := ⟨_, rfl⟩
            have HLEN2 : Hid (S.length + R2.length ≤ 12 * (i + 1)) := by
              have := HLEN.out
              rw [Hid, ← hR2, List.length_append, List.length_take]; omega
            rw [hR2] at CP hadd
            obtain ⟨tr2, htr2⟩ : ∃ y, rgT R2 = y := ⟨_, rfl⟩
            have HTR : Hid (rgT R2 = tr2) := htr2
            rw [HTR0.out, htr2] at hadd
            have hz2 : (tr.size : Int) ≤ 8388608 := by rw [← HTR0.out, rgT_size]; omega
            have hz3 : ((t.extract 0 n2).size : Int) ≤ 8388608 := by rw [ByteArray.size_extract]; omega
            have hrun : ∀ W : World, (Op.stringOp .add tr (t.extract 0 n2)).run Try.prog W = .ok (.string tr2) W := fun W => by
              have := run_string_add (P := Try.prog) W tr (t.extract 0 n2) hz2 hz3
              rw [this, hadd]
            clear hn2 hR2 htr2 hadd hz1 hz2 hz3 hRl
            go_wp2_with fail
            refine CP.out.mono ?_
            rintro en wt ⟨rfl, hxt, hb⟩
            have HXT : Hid (HX w.heap.size wt h g gb gx 24 win S seen R2 ls S seen ls v [(gp, 44, #[.int .i64 x, .slice (some ⟨ba, off, none⟩) n c])]) := hid hxt.drop
            have HBT : Hid (Below w.heap.size w wt) := hid (HB1.out.trans hb)
            clear hxt hb CP HX1 HB1 a0 a1 a2
            have HL82 := HL8; have HL602 := HL60
            have x4 := fact4 HXT.out.xblk
            have hxl := HXT.out.xblk.lt
            obtain ⟨x0, x1, x2, x3⟩ := x4
            have T1 : ∀ q : BW wt.heap.size wt, q.1.cell? ⟨gx, 1, none⟩ = some (.string (rgT S)) := fun q => q.cellAt hxl x1
            have T2 : ∀ q : BW wt.heap.size wt, q.1.cell? ⟨gx, 2, none⟩ = some (.int .i64 (seen : Int)) := fun q => q.cellAt hxl x2
            have CTx := hid (fun (q : BW wt.heap.size wt) => hxText (HXT.out.below q.2))
            have CFr := hid (fun (q : BW wt.heap.size wt) => hxFresh (HXT.out.below q.2))
            have CLn := hid (fun (q : BW wt.heap.size wt) => hxLen (HXT.out.below q.2))
            have CPk : Hid (∀ q : BW wt.heap.size wt, Calls Try.prog 36 #[.pointer (some ⟨g, 0, none⟩), .int .i64 0, .int .i64 24] q.1 fun e w' => e = .returned (.string (rgT R2)) ∧ Below q.1.heap.size q.1 w') := fun q => hxPeek (m := 24) (HXT.out.below q.2) (by decide)
            have HBN := hid HXT.out.bounds
            obtain ⟨hbn1, hbn2, hbn3, hbn4, hbn5⟩ := HBN.out
            have hsz2 : S.length = (rgT S).size := by rw [rgT_size]
            have hsn : (seen : Int) ≤ ((rgT S).size : Int) := by omega
            have hsm : ((rgT S).size : Int) ≤ 4096 := by omega
            have hsq : (0 : Int) ≤ (seen : Int) := by omega
            rw [hsz2] at CFr CLn
            obtain ⟨ts, hts⟩ : ∃ y, rgT S = y := ⟨_, rfl⟩
            rw [hts] at T1 CTx CFr CLn hsn hsm
            rw [HTR.out] at CPk
            clear hsz2 hbn1 hbn2 hbn3 hbn4 hbn5 HBN x0 x1 x2 x3 hts
            go_upto_region 20 with fail
            refine wp_region_below wt.heap.size (by kernel_rfl) (by kernel_rfl) ?_
            repeat (go_big_quiet_step (first | (go_at_call 33; exact callBW2 (Nat.le_refl _) CTx.out _) | (go_at_call 34; exact callBW2 (Nat.le_refl _) CFr.out _) | (go_at_call 35; exact callBW2 (Nat.le_refl _) CLn.out _) | (go_at_call 36; exact callBW2 (Nat.le_refl _) CPk.out _)))
            refine wpQuiet_nil ?_
            intro wu hqu
            have HBU : Hid (Below w.heap.size w wu) := by obtain ⟨q, rfl⟩ := hqu; exact HBT.out.trans (q.2.mono HBT.out.size)
            have HXU : Hid (HX w.heap.size wu h g gb gx 24 win S seen R2 ls S seen ls v [(gp, 44, #[.int .i64 x, .slice (some ⟨ba, off, none⟩) n c])]) := by obtain ⟨q, rfl⟩ := hqu; exact (HXT.out.below q.2)
            clear hqu T1 T2 CTx CFr CLn CPk HXT HBT
            go_wp2_with fail
            go_roundw
            case rel => exact ⟨i + 1, S, seen, R2, ls, v, by rw [HTR.out], by go_num, by omega, by omega, HLEN2.out, HL82.out, HL602.out, HXU.out, HBU.out⟩
            case measure => simp [intOf]; omega
          · by_cases hk1 : kd = 1
            · subst hk1
              have hbnd := HX1.out.bounds
              have hRl := HLEN.out
              have HLESS := hid (look_less win ls S seen R hbnd.1)
              have CLK := hid (fun W (hW : Below w1.heap.size w1 W) => refLook_any 0 win seen S R v ls W (HX1.out.below hW).pat hbnd.1 hbnd.2.1 hbnd.2.2.1 (by omega) HL8.out HL60.out)
              have CHK := hid (fun W h g gb gx S2 seen2 v pr (H : HX w.heap.size W h g gb gx 24 win S seen R ls S2 seen2 ls v pr) => hxLook H)
              obtain ⟨⟨XS, Xs, XR, mt, fl, k, gn, rd⟩, hX⟩ : ∃ X, lookM win ls S seen R = X := ⟨_, rfl⟩
              rw [hX] at CLK CHK HLESS
              simp only at CLK CHK HLESS
              clear hX hbnd hRl
              obtain ⟨Ax, nx, cx, rfl⟩ := HX1.out.slice
              unfold refV foundV at CLK
              unfold foundV at CHK
              obtain ⟨ts0, hts0⟩ : ∃ y, rgT S = y := ⟨_, rfl⟩
              obtain ⟨ts3, hts3⟩ : ∃ y, rgT XS = y := ⟨_, rfl⟩
              have HTS3 := hid hts3
              obtain ⟨tr3, htr3⟩ : ∃ y, rgT XR = y := ⟨_, rfl⟩
              have HTR : Hid (rgT XR = tr3) := htr3
              rw [hts0, hts3, HTR0.out, htr3] at CLK
              clear hts3 htr3
              have HB1S := hid HB1.out.size
              go_upto_region 12 with fail
              obtain ⟨w2, gf, hw2, hgf, hb, -, hgf1, hgf2⟩ := alloc_step w1 59 #[.bool false, .bool false, .int .i64 0, .int .i64 0, .int .i64 0]
              have HX2 := hid (HX1.out.push 59 #[.bool false, .bool false, .int .i64 0, .int .i64 0, .int .i64 0])
              have HB2 : Hid (Below w.heap.size w w2) := HB1.out.trans (hb.mono HB1.out.size)
              have C2 := hid (CLK.out w2 hb)
              rw [hw2, hgf] at HX2
              rw [hw2, hgf]
              have hnf : gf ≠ ga ∧ gf ≠ gp := by omega
              clear hw2 hgf hb HX1 HB1 a0 a1 a2 CLK
              obtain ⟨x0, x1, x2, x3⟩ := fact4 HX2.out.xblk
              rw [hts0] at x1
              clear hts0
              go_wp2_with fail
              refine C2.out.mono ?_
              rintro en w3 ⟨rfl, hb⟩
              have HX3 := hid (HX2.out.below hb)
              have HB3 : Hid (Below w.heap.size w w3) := HB2.out.trans (hb.mono HB2.out.size)
              clear C2 x0 x1 x2 x3
              obtain ⟨x0, x1, x2, x3⟩ := fact4 HX3.out.xblk
              obtain ⟨f0, f1, f2, f3, f4⟩ := fact5 (HX3.out.prot (List.mem_cons_self ..))
              have hxl := HX3.out.xblk.lt
              have y0 := HX3.out.xblk.frozen 0; have y1 := HX3.out.xblk.frozen 1; have y2 := HX3.out.xblk.frozen 2; have y3 := HX3.out.xblk.frozen 3
              have hfl := (HX3.out.prot (List.mem_cons_self ..)).lt
              have z0 := (HX3.out.prot (List.mem_cons_self ..)).frozen 0; have z1 := (HX3.out.prot (List.mem_cons_self ..)).frozen 1; have z2 := (HX3.out.prot (List.mem_cons_self ..)).frozen 2; have z3 := (HX3.out.prot (List.mem_cons_self ..)).frozen 3; have z4 := (HX3.out.prot (List.mem_cons_self ..)).frozen 4
              have hfx := HX3.out.far (List.mem_cons_self ..)
              have hxf : gx ≠ gf := fun e => hfx e.symm
              have hgx := HX3.out.ge
              have hgfB : w.heap.size ≤ gf := by have := HB1S.out; omega
              clear hb HX2 HB2
              go_upto_region 13 with fail
              obtain ⟨w4, hw4⟩ : ∃ W, set5 (set4 w3 gx (.int .i64 (win : Int)) (.string ts3) (.int .i64 (Xs : Int)) (.slice Ax nx cx)) gf (.bool mt) (.bool fl) (.int .i64 (k : Int)) (.int .i64 (gn : Int)) (.int .i64 (rd : Int)) = W := ⟨_, rfl⟩
              have HX4 : Hid (HX w.heap.size w4 h g gb gx 24 win S seen R ls XS Xs ls (.slice Ax nx cx) [(gf, 59, #[.bool mt, .bool fl, .int .i64 (k : Int), .int .i64 (gn : Int), .int .i64 (rd : Int)]), (ga, 55, #[.int .i64 1, .string sa, .slice Av np cv]), (gp, 44, #[.int .i64 x, .slice (some ⟨ba, off, none⟩) n c])]) := by
                have H := HX3.out.setx XS Xs
                rw [HTS3.out] at H
                have H2 := H.setProt (set5_self _ gf (.bool mt) (.bool fl) (.int .i64 (k : Int)) (.int .i64 (gn : Int)) (.int .i64 (rd : Int))) (set5_blk (H.prot (List.mem_cons_self ..)) _ _ _ _ _) (by
                  intro b hb
                  rcases List.mem_cons.1 hb with rfl | hb
                  · exact fun e => hnf.1 e.symm
                  · rcases List.mem_cons.1 hb with rfl | hb
                    · exact fun e => hnf.2 e.symm
                    · cases hb)
                rw [hw4] at H2
                exact H2
              have HB4 : Hid (Below w.heap.size w w4) := by
                rw [← hw4]
                unfold set5
                exact (((((set4_below HB3.out hgx _ _ _ _).setCell hgfB _).setCell hgfB _).setCell hgfB _).setCell hgfB _).setCell hgfB _
              unfold set5 set4 at hw4
              rw [hw4]
              clear hw4 HX3 HB3 x0 x1 x2 x3 f0 f1 f2 f3 f4 hxl y0 y1 y2 y3 hfl z0 z1 z2 z3 z4 hfx hxf hgx hgfB HTS3
              refine wp_region_ord (.val 0 (.val 1 (.two 2 (.op 3 (.op 4 (.val 5 (.nil)))) 3 (.op 2 (.op 4 (.val 5 (.nil))))))) (by kernel_rfl) (by kernel_rfl) ?_
              obtain ⟨wl, hwl⟩ : ∃ W, w4.drewN 1 = W := ⟨_, rfl⟩
              have HXL := hid (HX4.out.below (show Below w4.heap.size w4 wl from by rw [← hwl]; exact drewN_below w4 1))
              have HBL : Hid (Below w.heap.size w wl) := by rw [← hwl]; exact HB4.out.trans ((drewN_below w4 1).mono HB4.out.size)
              rw [hwl]
              clear hwl HX4 HB4
              obtain ⟨f0, f1, f2, f3, f4⟩ := fact5 (HXL.out.prot (List.mem_cons_self ..))
              refine wpOrd_val rfl ?_
              go_big_quiet_step (fail)
              refine wpQuiet_nil ?_
              refine wpOrd_val rfl ?_
              go_big_quiet_step (fail)
              refine wpQuiet_nil ?_
              refine wpOrd_two rfl rfl ?_ ?_
              · skip
                go_wp2_with fail
                refine (CHK.out _ _ _ _ _ _ _ _ _ HXL.out).mono ?_
                rintro en wl ⟨rfl, hxl, hb⟩
                replace HXL := hid hxl
                replace HBL := hid (HBL.out.trans hb)
                clear hxl hb f0 f1 f2 f3 f4
                obtain ⟨f0, f1, f2, f3, f4⟩ := fact5 (HXL.out.prot (List.mem_cons_self ..))
                go_wp2_with fail
                refine wpOrd_op rfl ?_
                go_wp2_with fail
                refine wpOrd_op rfl ?_
                go_wp2_with fail
                refine (same19_any mt fl k gn rd _).mono ?_
                rintro en wt ⟨rfl, hbs⟩
                go_wp2_with fail
                refine wpOrd_val rfl ?_
                go_big_quiet_step (fail)
                refine wpQuiet_nil ?_
                refine wpOrd_nil ?_
                have HBT := hid (HBL.out.trans (hbs.mono HBL.out.size))
                have HXT : Hid (HX w.heap.size wt h g gb gx 24 win XS Xs XR ls XS Xs ls (.slice Ax nx cx) [(gp, 44, #[.int .i64 x, .slice (some ⟨ba, off, none⟩) n c])]) := hid (HXL.out.below hbs).drop.drop
                have HLEN2 : Hid (XS.length + XR.length ≤ 12 * (i + 1)) := by have := HLEN.out; have := HLESS.out; rw [Hid]; omega
                have HL82 := HL8; have HL602 := HL60
                clear HXL HBL HLEN HLESS CHK hbs f0 f1 f2 f3 f4
                have x4 := fact4 HXT.out.xblk
                have hxl := HXT.out.xblk.lt
                obtain ⟨x0, x1, x2, x3⟩ := x4
                have T1 : ∀ q : BW wt.heap.size wt, q.1.cell? ⟨gx, 1, none⟩ = some (.string (rgT XS)) := fun q => q.cellAt hxl x1
                have T2 : ∀ q : BW wt.heap.size wt, q.1.cell? ⟨gx, 2, none⟩ = some (.int .i64 (Xs : Int)) := fun q => q.cellAt hxl x2
                have CTx := hid (fun (q : BW wt.heap.size wt) => hxText (HXT.out.below q.2))
                have CFr := hid (fun (q : BW wt.heap.size wt) => hxFresh (HXT.out.below q.2))
                have CLn := hid (fun (q : BW wt.heap.size wt) => hxLen (HXT.out.below q.2))
                have CPk : Hid (∀ q : BW wt.heap.size wt, Calls Try.prog 36 #[.pointer (some ⟨g, 0, none⟩), .int .i64 0, .int .i64 24] q.1 fun e w' => e = .returned (.string (rgT XR)) ∧ Below q.1.heap.size q.1 w') := fun q => hxPeek (m := 24) (HXT.out.below q.2) (by decide)
                have HBN := hid HXT.out.bounds
                obtain ⟨hbn1, hbn2, hbn3, hbn4, hbn5⟩ := HBN.out
                have hsz2 : XS.length = (rgT XS).size := by rw [rgT_size]
                have hsn : (Xs : Int) ≤ ((rgT XS).size : Int) := by omega
                have hsm : ((rgT XS).size : Int) ≤ 4096 := by omega
                have hsq : (0 : Int) ≤ (Xs : Int) := by omega
                rw [hsz2] at CFr CLn
                obtain ⟨ts, hts⟩ : ∃ y, rgT XS = y := ⟨_, rfl⟩
                rw [hts] at T1 CTx CFr CLn hsn hsm
                rw [HTR.out] at CPk
                clear hsz2 hbn1 hbn2 hbn3 hbn4 hbn5 HBN x0 x1 x2 x3 hts
                go_upto_region 20 with fail
                refine wp_region_below wt.heap.size (by kernel_rfl) (by kernel_rfl) ?_
                repeat (go_big_quiet_step (first | (go_at_call 33; exact callBW2 (Nat.le_refl _) CTx.out _) | (go_at_call 34; exact callBW2 (Nat.le_refl _) CFr.out _) | (go_at_call 35; exact callBW2 (Nat.le_refl _) CLn.out _) | (go_at_call 36; exact callBW2 (Nat.le_refl _) CPk.out _)))
                refine wpQuiet_nil ?_
                intro wu hqu
                have HBU : Hid (Below w.heap.size w wu) := by obtain ⟨q, rfl⟩ := hqu; exact HBT.out.trans (q.2.mono HBT.out.size)
                have HXU : Hid (HX w.heap.size wu h g gb gx 24 win XS Xs XR ls XS Xs ls (.slice Ax nx cx) [(gp, 44, #[.int .i64 x, .slice (some ⟨ba, off, none⟩) n c])]) := by obtain ⟨q, rfl⟩ := hqu; exact (HXT.out.below q.2)
                clear hqu T1 T2 CTx CFr CLn CPk HXT HBT
                go_wp2_with fail
                go_roundw
                case rel => exact ⟨i + 1, XS, Xs, XR, ls, (.slice Ax nx cx), by rw [HTR.out], by go_num, by omega, by omega, HLEN2.out, HL82.out, HL602.out, HXU.out, HBU.out⟩
                case measure => simp [intOf]; omega
              · skip
                go_wp2_with fail
                refine wpOrd_op rfl ?_
                go_wp2_with fail
                refine (CHK.out _ _ _ _ _ _ _ _ _ HXL.out).mono ?_
                rintro en wl ⟨rfl, hxl, hb⟩
                replace HXL := hid hxl
                replace HBL := hid (HBL.out.trans hb)
                clear hxl hb f0 f1 f2 f3 f4
                obtain ⟨f0, f1, f2, f3, f4⟩ := fact5 (HXL.out.prot (List.mem_cons_self ..))
                go_wp2_with fail
                refine wpOrd_op rfl ?_
                go_wp2_with fail
                refine (same19_any mt fl k gn rd _).mono ?_
                rintro en wt ⟨rfl, hbs⟩
                go_wp2_with fail
                refine wpOrd_val rfl ?_
                go_big_quiet_step (fail)
                refine wpQuiet_nil ?_
                refine wpOrd_nil ?_
                have HBT := hid (HBL.out.trans (hbs.mono HBL.out.size))
                have HXT : Hid (HX w.heap.size wt h g gb gx 24 win XS Xs XR ls XS Xs ls (.slice Ax nx cx) [(gp, 44, #[.int .i64 x, .slice (some ⟨ba, off, none⟩) n c])]) := hid (HXL.out.below hbs).drop.drop
                have HLEN2 : Hid (XS.length + XR.length ≤ 12 * (i + 1)) := by have := HLEN.out; have := HLESS.out; rw [Hid]; omega
                have HL82 := HL8; have HL602 := HL60
                clear HXL HBL HLEN HLESS CHK hbs f0 f1 f2 f3 f4
                have x4 := fact4 HXT.out.xblk
                have hxl := HXT.out.xblk.lt
                obtain ⟨x0, x1, x2, x3⟩ := x4
                have T1 : ∀ q : BW wt.heap.size wt, q.1.cell? ⟨gx, 1, none⟩ = some (.string (rgT XS)) := fun q => q.cellAt hxl x1
                have T2 : ∀ q : BW wt.heap.size wt, q.1.cell? ⟨gx, 2, none⟩ = some (.int .i64 (Xs : Int)) := fun q => q.cellAt hxl x2
                have CTx := hid (fun (q : BW wt.heap.size wt) => hxText (HXT.out.below q.2))
                have CFr := hid (fun (q : BW wt.heap.size wt) => hxFresh (HXT.out.below q.2))
                have CLn := hid (fun (q : BW wt.heap.size wt) => hxLen (HXT.out.below q.2))
                have CPk : Hid (∀ q : BW wt.heap.size wt, Calls Try.prog 36 #[.pointer (some ⟨g, 0, none⟩), .int .i64 0, .int .i64 24] q.1 fun e w' => e = .returned (.string (rgT XR)) ∧ Below q.1.heap.size q.1 w') := fun q => hxPeek (m := 24) (HXT.out.below q.2) (by decide)
                have HBN := hid HXT.out.bounds
                obtain ⟨hbn1, hbn2, hbn3, hbn4, hbn5⟩ := HBN.out
                have hsz2 : XS.length = (rgT XS).size := by rw [rgT_size]
                have hsn : (Xs : Int) ≤ ((rgT XS).size : Int) := by omega
                have hsm : ((rgT XS).size : Int) ≤ 4096 := by omega
                have hsq : (0 : Int) ≤ (Xs : Int) := by omega
                rw [hsz2] at CFr CLn
                obtain ⟨ts, hts⟩ : ∃ y, rgT XS = y := ⟨_, rfl⟩
                rw [hts] at T1 CTx CFr CLn hsn hsm
                rw [HTR.out] at CPk
                clear hsz2 hbn1 hbn2 hbn3 hbn4 hbn5 HBN x0 x1 x2 x3 hts
                go_upto_region 20 with fail
                refine wp_region_below wt.heap.size (by kernel_rfl) (by kernel_rfl) ?_
                repeat (go_big_quiet_step (first | (go_at_call 33; exact callBW2 (Nat.le_refl _) CTx.out _) | (go_at_call 34; exact callBW2 (Nat.le_refl _) CFr.out _) | (go_at_call 35; exact callBW2 (Nat.le_refl _) CLn.out _) | (go_at_call 36; exact callBW2 (Nat.le_refl _) CPk.out _)))
                refine wpQuiet_nil ?_
                intro wu hqu
                have HBU : Hid (Below w.heap.size w wu) := by obtain ⟨q, rfl⟩ := hqu; exact HBT.out.trans (q.2.mono HBT.out.size)
                have HXU : Hid (HX w.heap.size wu h g gb gx 24 win XS Xs XR ls XS Xs ls (.slice Ax nx cx) [(gp, 44, #[.int .i64 x, .slice (some ⟨ba, off, none⟩) n c])]) := by obtain ⟨q, rfl⟩ := hqu; exact (HXT.out.below q.2)
                clear hqu T1 T2 CTx CFr CLn CPk HXT HBT
                go_wp2_with fail
                go_roundw
                case rel => exact ⟨i + 1, XS, Xs, XR, ls, (.slice Ax nx cx), by rw [HTR.out], by go_num, by omega, by omega, HLEN2.out, HL82.out, HL602.out, HXU.out, HBU.out⟩
                case measure => simp [intOf]; omega
            · by_cases hk2 : kd = 2
              · subst hk2
                obtain ⟨Ax, nx, cx, rfl⟩ := HX1.out.slice
                have HQ8 := hid (newM_few q)
                have HQG := hid (newM_good q)
                have CBX : Hid (∀ A6 c6 W, W.ownsRow 0 9 1 (.slice A6 m c6) m (textCells q) → Calls Try.prog 30 #[.agg #[.int .i64 (win : Int), .string (rgT S), .int .i64 (seen : Int), .slice Ax nx cx], .slice A6 m c6] W fun e w' => RefB win seen S (.slice Ax nx cx) (newM q) W e w') := fun A6 c6 W ho => refBegin_any win seen S (.slice Ax nx cx) A6 m c6 q W ⟨_, _, _, rfl⟩ HQM.out (by omega) HQS.out (Rd_of_own ho)
                have CBH : Hid (∀ A9 c9 W s3 ls3 v3 pr, HX w.heap.size W h g gb gx 24 win S seen R ls S s3 ls3 v3 pr → W.ownsRow 0 9 1 (.slice A9 m c9) m (textCells q) → Calls Try.prog 32 #[.pointer (some ⟨h, 0, none⟩), .slice A9 m c9] W fun e w' => e = .returned (.int .i64 (((newM q).2.2 : Nat) : Int)) ∧
                    ((newM q).2.2 ≠ 0 → HX w.heap.size w' h g gb gx 24 win S seen R ls S s3 ls3 v3 pr) ∧ ((newM q).2.2 = 0 → HX w.heap.size w' h g gb gx 24 win S 0 R (newM q).1 S s3 ls3 v3 pr) ∧ Below w.heap.size W w') := fun A9 c9 W s3 ls3 v3 pr H ho => hxBegin A9 m c9 q H HQM.out (by omega) HQS.out (Rd_of_own ho) (fun hn => by subst hn; exact slice_nil0 ho)
                obtain ⟨⟨lq, iq, er⟩, hZ⟩ : ∃ Z, newM q = Z := ⟨_, rfl⟩
                rw [hZ] at HQ8 HQG CBX CBH
                have HQ60 : Hid (∀ l ∈ lq, l.length ≤ 60) := fun l hl => (HQG.out l hl).2.2
                simp only at HQ8 CBH
                clear hZ HQG
                go_upto_region 17 with fail
                refine wp_region_ord (.val 1 (.two 0 (.op 2 (.op 3 (.op 4 (.val 5 (.val 6 (.val 7 (.op 8 (.val 9 (.nil))))))))) 2 (.two 0 (.op 3 (.op 4 (.val 5 (.val 6 (.val 7 (.op 8 (.val 9 (.nil)))))))) 3 (.op 0 (.op 4 (.val 5 (.val 6 (.val 7 (.op 8 (.val 9 (.nil))))))))))) (by kernel_rfl) (by kernel_rfl) ?_
                obtain ⟨wl, hwl⟩ : ∃ W, w1.drewN 1 = W := ⟨_, rfl⟩
                have HXL := hid (HX1.out.below (show Below w1.heap.size w1 wl from by rw [← hwl]; exact drewN_below w1 1))
                have HBL : Hid (Below w.heap.size w wl) := by rw [← hwl]; exact HB1.out.trans ((drewN_below w1 1).mono HB1.out.size)
                rw [hwl]
                clear hwl HX1 HB1 a0 a1 a2
                obtain ⟨a0, a1, a2⟩ := fact3 (HXL.out.prot (List.mem_cons_self ..))
                obtain ⟨x0, x1, x2, x3⟩ := fact4 HXL.out.xblk
                refine wpOrd_val rfl ?_
                go_big_quiet_step (fail)
                refine wpQuiet_nil ?_
                refine wpOrd_two rfl rfl ?_ ?_
                · skip
                  go_wp2_with fail
                  refine wpOrd_op rfl ?_
                  go_wp2_with fail
                  refine wpOrd_op rfl ?_
                  go_wp2_with fail
                  refine (CFW.out _ HBL.out).mono ?_
                  rintro en wl ⟨A6, c6, rfl, hown, hb⟩
                  replace HXL := hid (HXL.out.below hb)
                  replace HBL := hid (HBL.out.trans (hb.mono HBL.out.size))
                  clear a0 a1 a2 x0 x1 x2 x3
                  obtain ⟨a0, a1, a2⟩ := fact3 (HXL.out.prot (List.mem_cons_self ..))
                  obtain ⟨x0, x1, x2, x3⟩ := fact4 HXL.out.xblk
                  have HOW := hid (own_base hown (Nat.zero_le _))
                  clear hown hb
                  go_wp2_with fail
                  refine wpOrd_op rfl ?_
                  go_wp2_with fail
                  refine (CBX.out A6 c6 _ HOW.out).mono ?_
                  rintro en w6 hz
                  obtain ⟨s3, ls3, A7, n7, c7, rfl, hb, hx7, he1, he2⟩ := hxRef HXL.out hz
                  simp only at he1 he2
                  have HX6 := hid (HXL.out.below hb)
                  have HB6 : Hid (Below w.heap.size w w6) := HBL.out.trans (hb.mono HBL.out.size)
                  have HX7 := hid hx7; have HE1 := hid he1; have HE2 := hid he2
                  clear hz hb hx7 he1 he2 HXL HBL HOW a0 a1 a2 x0 x1 x2 x3
                  have y0 := HX6.out.xblk.frozen 0; have y1 := HX6.out.xblk.frozen 1; have y2 := HX6.out.xblk.frozen 2; have y3 := HX6.out.xblk.frozen 3
                  have hxl := HX6.out.xblk.lt
                  have hgx := HX6.out.ge
                  obtain ⟨x0, x1, x2, x3⟩ := fact4 HX6.out.xblk
                  go_wp2_with fail
                  refine wpOrd_val rfl ?_
                  go_big_quiet_step (fail)
                  refine wpQuiet_nil ?_
                  refine wpOrd_val rfl ?_
                  go_big_quiet_step (fail)
                  refine wpQuiet_nil ?_
                  refine wpOrd_val rfl ?_
                  go_big_quiet_step (fail)
                  refine wpQuiet_nil ?_
                  refine wpOrd_op rfl ?_
                  go_wp2_with fail
                  refine wpOrd_val rfl ?_
                  go_big_quiet_step (fail)
                  refine wpQuiet_nil ?_
                  refine wpOrd_nil ?_
                  obtain ⟨w7, hw7⟩ : ∃ W, set4 w6 gx (.int .i64 (win : Int)) (.string (rgT S)) (.int .i64 (s3 : Int)) (.slice A7 n7 c7) = W := ⟨_, rfl⟩
                  have HB7 : Hid (Below w.heap.size w w7) := by rw [← hw7]; exact set4_below HB6.out hgx _ _ _ _
                  rw [hw7] at HX7
                  unfold set4 at hw7
                  rw [hw7]
                  clear hw7 HX6 HB6 x0 x1 x2 x3 y0 y1 y2 y3 hxl hgx
                  obtain ⟨a0, a1, a2⟩ := fact3 (HX7.out.prot (List.mem_cons_self ..))
                  go_wp2_with fail
                  refine (CFW.out _ HB7.out).mono ?_
                  rintro en w8 ⟨A9, c9, rfl, hown, hb⟩
                  have HX8 := hid (HX7.out.below hb)
                  have HB8 : Hid (Below w.heap.size w w8) := HB7.out.trans (hb.mono HB7.out.size)
                  have C8 := hid (CBH.out A9 c9 _ _ _ _ _ HX8.out (own_base hown (Nat.zero_le _)))
                  clear hown hb HX7 HB7 a0 a1 a2
                  go_wp2_with fail
                  refine C8.out.mono ?_
                  rintro en wt ⟨rfl, h1, h2, hb⟩
                  have HBT : Hid (Below w.heap.size w wt) := HB8.out.trans hb
                  have HEX : Hid (∃ s4 ls4, HX w.heap.size wt h g gb gx 24 win S s4 R ls4 S s4 ls4 (.slice A7 n7 c7) [(gp, 44, #[.int .i64 x, .slice (some ⟨ba, off, none⟩) n c])] ∧ ls4.length ≤ 8 ∧ ∀ l ∈ ls4, l.length ≤ 60) := by
                    by_cases he : er = 0
                    · obtain ⟨e1, e2⟩ := HE2.out he
                      subst e1; subst e2
                      exact ⟨0, _, (h2 he).drop, HQ8.out, HQ60.out⟩
                    · obtain ⟨e1, e2⟩ := HE1.out he
                      subst e1; subst e2
                      exact ⟨_, _, (h1 he).drop, HL8.out, HL60.out⟩
                  clear h1 h2 hb C8 HE1 HE2 HX8 HB8
                  obtain ⟨s4, ls4, hx4, h84, h604⟩ := HEX.out
                  have HXT := hid hx4; have HL82 := hid h84; have HL602 := hid h604
                  clear HEX hx4 h84 h604
                  have HTR := HTR0
                  have HLEN2 : Hid (S.length + R.length ≤ 12 * (i + 1)) := by have := HLEN.out; rw [Hid]; omega
                  have x4 := fact4 HXT.out.xblk
                  have hxl := HXT.out.xblk.lt
                  obtain ⟨x0, x1, x2, x3⟩ := x4
                  have T1 : ∀ q : BW wt.heap.size wt, q.1.cell? ⟨gx, 1, none⟩ = some (.string (rgT S)) := fun q => q.cellAt hxl x1
                  have T2 : ∀ q : BW wt.heap.size wt, q.1.cell? ⟨gx, 2, none⟩ = some (.int .i64 (s4 : Int)) := fun q => q.cellAt hxl x2
                  have CTx := hid (fun (q : BW wt.heap.size wt) => hxText (HXT.out.below q.2))
                  have CFr := hid (fun (q : BW wt.heap.size wt) => hxFresh (HXT.out.below q.2))
                  have CLn := hid (fun (q : BW wt.heap.size wt) => hxLen (HXT.out.below q.2))
                  have CPk : Hid (∀ q : BW wt.heap.size wt, Calls Try.prog 36 #[.pointer (some ⟨g, 0, none⟩), .int .i64 0, .int .i64 24] q.1 fun e w' => e = .returned (.string (rgT R)) ∧ Below q.1.heap.size q.1 w') := fun q => hxPeek (m := 24) (HXT.out.below q.2) (by decide)
                  have HBN := hid HXT.out.bounds
                  obtain ⟨hbn1, hbn2, hbn3, hbn4, hbn5⟩ := HBN.out
                  have hsz2 : S.length = (rgT S).size := by rw [rgT_size]
                  have hsn : (s4 : Int) ≤ ((rgT S).size : Int) := by omega
                  have hsm : ((rgT S).size : Int) ≤ 4096 := by omega
                  have hsq : (0 : Int) ≤ (s4 : Int) := by omega
                  rw [hsz2] at CFr CLn
                  obtain ⟨ts, hts⟩ : ∃ y, rgT S = y := ⟨_, rfl⟩
                  rw [hts] at T1 CTx CFr CLn hsn hsm
                  rw [HTR.out] at CPk
                  clear hsz2 hbn1 hbn2 hbn3 hbn4 hbn5 HBN x0 x1 x2 x3 hts
                  go_upto_region 20 with fail
                  refine wp_region_below wt.heap.size (by kernel_rfl) (by kernel_rfl) ?_
                  repeat (go_big_quiet_step (first | (go_at_call 33; exact callBW2 (Nat.le_refl _) CTx.out _) | (go_at_call 34; exact callBW2 (Nat.le_refl _) CFr.out _) | (go_at_call 35; exact callBW2 (Nat.le_refl _) CLn.out _) | (go_at_call 36; exact callBW2 (Nat.le_refl _) CPk.out _)))
                  refine wpQuiet_nil ?_
                  intro wu hqu
                  have HBU : Hid (Below w.heap.size w wu) := by obtain ⟨q, rfl⟩ := hqu; exact HBT.out.trans (q.2.mono HBT.out.size)
                  have HXU : Hid (HX w.heap.size wu h g gb gx 24 win S s4 R ls4 S s4 ls4 (.slice A7 n7 c7) [(gp, 44, #[.int .i64 x, .slice (some ⟨ba, off, none⟩) n c])]) := by obtain ⟨q, rfl⟩ := hqu; exact (HXT.out.below q.2)
                  clear hqu T1 T2 CTx CFr CLn CPk HXT HBT
                  go_wp2_with fail
                  go_roundw
                  case rel => exact ⟨i + 1, S, s4, R, ls4, (.slice A7 n7 c7), by rw [HTR.out], by go_num, by omega, by omega, HLEN2.out, HL82.out, HL602.out, HXU.out, HBU.out⟩
                  case measure => simp [intOf]; omega
                · skip
                  go_wp2_with fail
                  refine wpOrd_two rfl rfl ?_ ?_
                  · skip
                    go_wp2_with fail
                    refine wpOrd_op rfl ?_
                    go_wp2_with fail
                    refine (CFW.out _ HBL.out).mono ?_
                    rintro en wl ⟨A6, c6, rfl, hown, hb⟩
                    replace HXL := hid (HXL.out.below hb)
                    replace HBL := hid (HBL.out.trans (hb.mono HBL.out.size))
                    clear a0 a1 a2 x0 x1 x2 x3
                    obtain ⟨a0, a1, a2⟩ := fact3 (HXL.out.prot (List.mem_cons_self ..))
                    obtain ⟨x0, x1, x2, x3⟩ := fact4 HXL.out.xblk
                    have HOW := hid (own_base hown (Nat.zero_le _))
                    clear hown hb
                    go_wp2_with fail
                    refine wpOrd_op rfl ?_
                    go_wp2_with fail
                    refine (CBX.out A6 c6 _ HOW.out).mono ?_
                    rintro en w6 hz
                    obtain ⟨s3, ls3, A7, n7, c7, rfl, hb, hx7, he1, he2⟩ := hxRef HXL.out hz
                    simp only at he1 he2
                    have HX6 := hid (HXL.out.below hb)
                    have HB6 : Hid (Below w.heap.size w w6) := HBL.out.trans (hb.mono HBL.out.size)
                    have HX7 := hid hx7; have HE1 := hid he1; have HE2 := hid he2
                    clear hz hb hx7 he1 he2 HXL HBL HOW a0 a1 a2 x0 x1 x2 x3
                    have y0 := HX6.out.xblk.frozen 0; have y1 := HX6.out.xblk.frozen 1; have y2 := HX6.out.xblk.frozen 2; have y3 := HX6.out.xblk.frozen 3
                    have hxl := HX6.out.xblk.lt
                    have hgx := HX6.out.ge
                    obtain ⟨x0, x1, x2, x3⟩ := fact4 HX6.out.xblk
                    go_wp2_with fail
                    refine wpOrd_val rfl ?_
                    go_big_quiet_step (fail)
                    refine wpQuiet_nil ?_
                    refine wpOrd_val rfl ?_
                    go_big_quiet_step (fail)
                    refine wpQuiet_nil ?_
                    refine wpOrd_val rfl ?_
                    go_big_quiet_step (fail)
                    refine wpQuiet_nil ?_
                    refine wpOrd_op rfl ?_
                    go_wp2_with fail
                    refine wpOrd_val rfl ?_
                    go_big_quiet_step (fail)
                    refine wpQuiet_nil ?_
                    refine wpOrd_nil ?_
                    obtain ⟨w7, hw7⟩ : ∃ W, set4 w6 gx (.int .i64 (win : Int)) (.string (rgT S)) (.int .i64 (s3 : Int)) (.slice A7 n7 c7) = W := ⟨_, rfl⟩
                    have HB7 : Hid (Below w.heap.size w w7) := by rw [← hw7]; exact set4_below HB6.out hgx _ _ _ _
                    rw [hw7] at HX7
                    unfold set4 at hw7
                    rw [hw7]
                    clear hw7 HX6 HB6 x0 x1 x2 x3 y0 y1 y2 y3 hxl hgx
                    obtain ⟨a0, a1, a2⟩ := fact3 (HX7.out.prot (List.mem_cons_self ..))
                    go_wp2_with fail
                    refine (CFW.out _ HB7.out).mono ?_
                    rintro en w8 ⟨A9, c9, rfl, hown, hb⟩
                    have HX8 := hid (HX7.out.below hb)
                    have HB8 : Hid (Below w.heap.size w w8) := HB7.out.trans (hb.mono HB7.out.size)
                    have C8 := hid (CBH.out A9 c9 _ _ _ _ _ HX8.out (own_base hown (Nat.zero_le _)))
                    clear hown hb HX7 HB7 a0 a1 a2
                    go_wp2_with fail
                    refine C8.out.mono ?_
                    rintro en wt ⟨rfl, h1, h2, hb⟩
                    have HBT : Hid (Below w.heap.size w wt) := HB8.out.trans hb
                    have HEX : Hid (∃ s4 ls4, HX w.heap.size wt h g gb gx 24 win S s4 R ls4 S s4 ls4 (.slice A7 n7 c7) [(gp, 44, #[.int .i64 x, .slice (some ⟨ba, off, none⟩) n c])] ∧ ls4.length ≤ 8 ∧ ∀ l ∈ ls4, l.length ≤ 60) := by
                      by_cases he : er = 0
                      · obtain ⟨e1, e2⟩ := HE2.out he
                        subst e1; subst e2
                        exact ⟨0, _, (h2 he).drop, HQ8.out, HQ60.out⟩
                      · obtain ⟨e1, e2⟩ := HE1.out he
                        subst e1; subst e2
                        exact ⟨_, _, (h1 he).drop, HL8.out, HL60.out⟩
                    clear h1 h2 hb C8 HE1 HE2 HX8 HB8
                    obtain ⟨s4, ls4, hx4, h84, h604⟩ := HEX.out
                    have HXT := hid hx4; have HL82 := hid h84; have HL602 := hid h604
                    clear HEX hx4 h84 h604
                    have HTR := HTR0
                    have HLEN2 : Hid (S.length + R.length ≤ 12 * (i + 1)) := by have := HLEN.out; rw [Hid]; omega
                    have x4 := fact4 HXT.out.xblk
                    have hxl := HXT.out.xblk.lt
                    obtain ⟨x0, x1, x2, x3⟩ := x4
                    have T1 : ∀ q : BW wt.heap.size wt, q.1.cell? ⟨gx, 1, none⟩ = some (.string (rgT S)) := fun q => q.cellAt hxl x1
                    have T2 : ∀ q : BW wt.heap.size wt, q.1.cell? ⟨gx, 2, none⟩ = some (.int .i64 (s4 : Int)) := fun q => q.cellAt hxl x2
                    have CTx := hid (fun (q : BW wt.heap.size wt) => hxText (HXT.out.below q.2))
                    have CFr := hid (fun (q : BW wt.heap.size wt) => hxFresh (HXT.out.below q.2))
                    have CLn := hid (fun (q : BW wt.heap.size wt) => hxLen (HXT.out.below q.2))
                    have CPk : Hid (∀ q : BW wt.heap.size wt, Calls Try.prog 36 #[.pointer (some ⟨g, 0, none⟩), .int .i64 0, .int .i64 24] q.1 fun e w' => e = .returned (.string (rgT R)) ∧ Below q.1.heap.size q.1 w') := fun q => hxPeek (m := 24) (HXT.out.below q.2) (by decide)
                    have HBN := hid HXT.out.bounds
                    obtain ⟨hbn1, hbn2, hbn3, hbn4, hbn5⟩ := HBN.out
                    have hsz2 : S.length = (rgT S).size := by rw [rgT_size]
                    have hsn : (s4 : Int) ≤ ((rgT S).size : Int) := by omega
                    have hsm : ((rgT S).size : Int) ≤ 4096 := by omega
                    have hsq : (0 : Int) ≤ (s4 : Int) := by omega
                    rw [hsz2] at CFr CLn
                    obtain ⟨ts, hts⟩ : ∃ y, rgT S = y := ⟨_, rfl⟩
                    rw [hts] at T1 CTx CFr CLn hsn hsm
                    rw [HTR.out] at CPk
                    clear hsz2 hbn1 hbn2 hbn3 hbn4 hbn5 HBN x0 x1 x2 x3 hts
                    go_upto_region 20 with fail
                    refine wp_region_below wt.heap.size (by kernel_rfl) (by kernel_rfl) ?_
                    repeat (go_big_quiet_step (first | (go_at_call 33; exact callBW2 (Nat.le_refl _) CTx.out _) | (go_at_call 34; exact callBW2 (Nat.le_refl _) CFr.out _) | (go_at_call 35; exact callBW2 (Nat.le_refl _) CLn.out _) | (go_at_call 36; exact callBW2 (Nat.le_refl _) CPk.out _)))
                    refine wpQuiet_nil ?_
                    intro wu hqu
                    have HBU : Hid (Below w.heap.size w wu) := by obtain ⟨q, rfl⟩ := hqu; exact HBT.out.trans (q.2.mono HBT.out.size)
                    have HXU : Hid (HX w.heap.size wu h g gb gx 24 win S s4 R ls4 S s4 ls4 (.slice A7 n7 c7) [(gp, 44, #[.int .i64 x, .slice (some ⟨ba, off, none⟩) n c])]) := by obtain ⟨q, rfl⟩ := hqu; exact (HXT.out.below q.2)
                    clear hqu T1 T2 CTx CFr CLn CPk HXT HBT
                    go_wp2_with fail
                    go_roundw
                    case rel => exact ⟨i + 1, S, s4, R, ls4, (.slice A7 n7 c7), by rw [HTR.out], by go_num, by omega, by omega, HLEN2.out, HL82.out, HL602.out, HXU.out, HBU.out⟩
                    case measure => simp [intOf]; omega
                  · skip
                    go_wp2_with fail
                    refine (CFW.out _ HBL.out).mono ?_
                    rintro en wl ⟨A6, c6, rfl, hown, hb⟩
                    replace HXL := hid (HXL.out.below hb)
                    replace HBL := hid (HBL.out.trans (hb.mono HBL.out.size))
                    clear a0 a1 a2 x0 x1 x2 x3
                    obtain ⟨a0, a1, a2⟩ := fact3 (HXL.out.prot (List.mem_cons_self ..))
                    obtain ⟨x0, x1, x2, x3⟩ := fact4 HXL.out.xblk
                    have HOW := hid (own_base hown (Nat.zero_le _))
                    clear hown hb
                    go_wp2_with fail
                    refine wpOrd_op rfl ?_
                    go_wp2_with fail
                    refine wpOrd_op rfl ?_
                    go_wp2_with fail
                    refine (CBX.out A6 c6 _ HOW.out).mono ?_
                    rintro en w6 hz
                    obtain ⟨s3, ls3, A7, n7, c7, rfl, hb, hx7, he1, he2⟩ := hxRef HXL.out hz
                    simp only at he1 he2
                    have HX6 := hid (HXL.out.below hb)
                    have HB6 : Hid (Below w.heap.size w w6) := HBL.out.trans (hb.mono HBL.out.size)
                    have HX7 := hid hx7; have HE1 := hid he1; have HE2 := hid he2
                    clear hz hb hx7 he1 he2 HXL HBL HOW a0 a1 a2 x0 x1 x2 x3
                    have y0 := HX6.out.xblk.frozen 0; have y1 := HX6.out.xblk.frozen 1; have y2 := HX6.out.xblk.frozen 2; have y3 := HX6.out.xblk.frozen 3
                    have hxl := HX6.out.xblk.lt
                    have hgx := HX6.out.ge
                    obtain ⟨x0, x1, x2, x3⟩ := fact4 HX6.out.xblk
                    go_wp2_with fail
                    refine wpOrd_val rfl ?_
                    go_big_quiet_step (fail)
                    refine wpQuiet_nil ?_
                    refine wpOrd_val rfl ?_
                    go_big_quiet_step (fail)
                    refine wpQuiet_nil ?_
                    refine wpOrd_val rfl ?_
                    go_big_quiet_step (fail)
                    refine wpQuiet_nil ?_
                    refine wpOrd_op rfl ?_
                    go_wp2_with fail
                    refine wpOrd_val rfl ?_
                    go_big_quiet_step (fail)
                    refine wpQuiet_nil ?_
                    refine wpOrd_nil ?_
                    obtain ⟨w7, hw7⟩ : ∃ W, set4 w6 gx (.int .i64 (win : Int)) (.string (rgT S)) (.int .i64 (s3 : Int)) (.slice A7 n7 c7) = W := ⟨_, rfl⟩
                    have HB7 : Hid (Below w.heap.size w w7) := by rw [← hw7]; exact set4_below HB6.out hgx _ _ _ _
                    rw [hw7] at HX7
                    unfold set4 at hw7
                    rw [hw7]
                    clear hw7 HX6 HB6 x0 x1 x2 x3 y0 y1 y2 y3 hxl hgx
                    obtain ⟨a0, a1, a2⟩ := fact3 (HX7.out.prot (List.mem_cons_self ..))
                    go_wp2_with fail
                    refine (CFW.out _ HB7.out).mono ?_
                    rintro en w8 ⟨A9, c9, rfl, hown, hb⟩
                    have HX8 := hid (HX7.out.below hb)
                    have HB8 : Hid (Below w.heap.size w w8) := HB7.out.trans (hb.mono HB7.out.size)
                    have C8 := hid (CBH.out A9 c9 _ _ _ _ _ HX8.out (own_base hown (Nat.zero_le _)))
                    clear hown hb HX7 HB7 a0 a1 a2
                    go_wp2_with fail
                    refine C8.out.mono ?_
                    rintro en wt ⟨rfl, h1, h2, hb⟩
                    have HBT : Hid (Below w.heap.size w wt) := HB8.out.trans hb
                    have HEX : Hid (∃ s4 ls4, HX w.heap.size wt h g gb gx 24 win S s4 R ls4 S s4 ls4 (.slice A7 n7 c7) [(gp, 44, #[.int .i64 x, .slice (some ⟨ba, off, none⟩) n c])] ∧ ls4.length ≤ 8 ∧ ∀ l ∈ ls4, l.length ≤ 60) := by
                      by_cases he : er = 0
                      · obtain ⟨e1, e2⟩ := HE2.out he
                        subst e1; subst e2
                        exact ⟨0, _, (h2 he).drop, HQ8.out, HQ60.out⟩
                      · obtain ⟨e1, e2⟩ := HE1.out he
                        subst e1; subst e2
                        exact ⟨_, _, (h1 he).drop, HL8.out, HL60.out⟩
                    clear h1 h2 hb C8 HE1 HE2 HX8 HB8
                    obtain ⟨s4, ls4, hx4, h84, h604⟩ := HEX.out
                    have HXT := hid hx4; have HL82 := hid h84; have HL602 := hid h604
                    clear HEX hx4 h84 h604
                    have HTR := HTR0
                    have HLEN2 : Hid (S.length + R.length ≤ 12 * (i + 1)) := by have := HLEN.out; rw [Hid]; omega
                    have x4 := fact4 HXT.out.xblk
                    have hxl := HXT.out.xblk.lt
                    obtain ⟨x0, x1, x2, x3⟩ := x4
                    have T1 : ∀ q : BW wt.heap.size wt, q.1.cell? ⟨gx, 1, none⟩ = some (.string (rgT S)) := fun q => q.cellAt hxl x1
                    have T2 : ∀ q : BW wt.heap.size wt, q.1.cell? ⟨gx, 2, none⟩ = some (.int .i64 (s4 : Int)) := fun q => q.cellAt hxl x2
                    have CTx := hid (fun (q : BW wt.heap.size wt) => hxText (HXT.out.below q.2))
                    have CFr := hid (fun (q : BW wt.heap.size wt) => hxFresh (HXT.out.below q.2))
                    have CLn := hid (fun (q : BW wt.heap.size wt) => hxLen (HXT.out.below q.2))
                    have CPk : Hid (∀ q : BW wt.heap.size wt, Calls Try.prog 36 #[.pointer (some ⟨g, 0, none⟩), .int .i64 0, .int .i64 24] q.1 fun e w' => e = .returned (.string (rgT R)) ∧ Below q.1.heap.size q.1 w') := fun q => hxPeek (m := 24) (HXT.out.below q.2) (by decide)
                    have HBN := hid HXT.out.bounds
                    obtain ⟨hbn1, hbn2, hbn3, hbn4, hbn5⟩ := HBN.out
                    have hsz2 : S.length = (rgT S).size := by rw [rgT_size]
                    have hsn : (s4 : Int) ≤ ((rgT S).size : Int) := by omega
                    have hsm : ((rgT S).size : Int) ≤ 4096 := by omega
                    have hsq : (0 : Int) ≤ (s4 : Int) := by omega
                    rw [hsz2] at CFr CLn
                    obtain ⟨ts, hts⟩ : ∃ y, rgT S = y := ⟨_, rfl⟩
                    rw [hts] at T1 CTx CFr CLn hsn hsm
                    rw [HTR.out] at CPk
                    clear hsz2 hbn1 hbn2 hbn3 hbn4 hbn5 HBN x0 x1 x2 x3 hts
                    go_upto_region 20 with fail
                    refine wp_region_below wt.heap.size (by kernel_rfl) (by kernel_rfl) ?_
                    repeat (go_big_quiet_step (first | (go_at_call 33; exact callBW2 (Nat.le_refl _) CTx.out _) | (go_at_call 34; exact callBW2 (Nat.le_refl _) CFr.out _) | (go_at_call 35; exact callBW2 (Nat.le_refl _) CLn.out _) | (go_at_call 36; exact callBW2 (Nat.le_refl _) CPk.out _)))
                    refine wpQuiet_nil ?_
                    intro wu hqu
                    have HBU : Hid (Below w.heap.size w wu) := by obtain ⟨q, rfl⟩ := hqu; exact HBT.out.trans (q.2.mono HBT.out.size)
                    have HXU : Hid (HX w.heap.size wu h g gb gx 24 win S s4 R ls4 S s4 ls4 (.slice A7 n7 c7) [(gp, 44, #[.int .i64 x, .slice (some ⟨ba, off, none⟩) n c])]) := by obtain ⟨q, rfl⟩ := hqu; exact (HXT.out.below q.2)
                    clear hqu T1 T2 CTx CFr CLn CPk HXT HBT
                    go_wp2_with fail
                    go_roundw
                    case rel => exact ⟨i + 1, S, s4, R, ls4, (.slice A7 n7 c7), by rw [HTR.out], by go_num, by omega, by omega, HLEN2.out, HL82.out, HL602.out, HXU.out, HBU.out⟩
                    case measure => simp [intOf]; omega
              · skip
                have ek0 : (kd == 0) = false := by rw [beq_eq_false_iff_ne]; exact hk0
                have ek1 : (kd == 1) = false := by rw [beq_eq_false_iff_ne]; exact hk1
                have ek2 : (kd == 2) = false := by rw [beq_eq_false_iff_ne]; exact hk2
                go_upto_region 20 with fail
                obtain ⟨wt, hwt⟩ : ∃ y, w1 = y := ⟨_, rfl⟩
                rw [hwt]
                have HXT : Hid (HX w.heap.size wt h g gb gx 24 win S seen R ls S seen ls v [(gp, 44, #[.int .i64 x, .slice (some ⟨ba, off, none⟩) n c])]) := by rw [← hwt]; exact HX1.out.drop
                have HBT : Hid (Below w.heap.size w wt) := by rw [← hwt]; exact HB1.out
                have HTR : Hid (rgT R = tr) := HTR0
                have HLEN2 : Hid (S.length + R.length ≤ 12 * (i + 1)) := by have := HLEN.out; rw [Hid]; omega
                clear HX1 HB1 hwt a0 a1 a2
                have HL82 := HL8; have HL602 := HL60
                have x4 := fact4 HXT.out.xblk
                have hxl := HXT.out.xblk.lt
                obtain ⟨x0, x1, x2, x3⟩ := x4
                have T1 : ∀ q : BW wt.heap.size wt, q.1.cell? ⟨gx, 1, none⟩ = some (.string (rgT S)) := fun q => q.cellAt hxl x1
                have T2 : ∀ q : BW wt.heap.size wt, q.1.cell? ⟨gx, 2, none⟩ = some (.int .i64 (seen : Int)) := fun q => q.cellAt hxl x2
                have CTx := hid (fun (q : BW wt.heap.size wt) => hxText (HXT.out.below q.2))
                have CFr := hid (fun (q : BW wt.heap.size wt) => hxFresh (HXT.out.below q.2))
                have CLn := hid (fun (q : BW wt.heap.size wt) => hxLen (HXT.out.below q.2))
                have CPk : Hid (∀ q : BW wt.heap.size wt, Calls Try.prog 36 #[.pointer (some ⟨g, 0, none⟩), .int .i64 0, .int .i64 24] q.1 fun e w' => e = .returned (.string (rgT R)) ∧ Below q.1.heap.size q.1 w') := fun q => hxPeek (m := 24) (HXT.out.below q.2) (by decide)
                have HBN := hid HXT.out.bounds
                obtain ⟨hbn1, hbn2, hbn3, hbn4, hbn5⟩ := HBN.out
                have hsz2 : S.length = (rgT S).size := by rw [rgT_size]
                have hsn : (seen : Int) ≤ ((rgT S).size : Int) := by omega
                have hsm : ((rgT S).size : Int) ≤ 4096 := by omega
                have hsq : (0 : Int) ≤ (seen : Int) := by omega
                rw [hsz2] at CFr CLn
                obtain ⟨ts, hts⟩ : ∃ y, rgT S = y := ⟨_, rfl⟩
                rw [hts] at T1 CTx CFr CLn hsn hsm
                rw [HTR.out] at CPk
                clear hsz2 hbn1 hbn2 hbn3 hbn4 hbn5 HBN x0 x1 x2 x3 hts
                refine wp_region_below wt.heap.size (by kernel_rfl) (by kernel_rfl) ?_
                repeat (go_big_quiet_step (first | (go_at_call 33; exact callBW2 (Nat.le_refl _) CTx.out _) | (go_at_call 34; exact callBW2 (Nat.le_refl _) CFr.out _) | (go_at_call 35; exact callBW2 (Nat.le_refl _) CLn.out _) | (go_at_call 36; exact callBW2 (Nat.le_refl _) CPk.out _)))
                refine wpQuiet_nil ?_
                intro wu hqu
                have HBU : Hid (Below w.heap.size w wu) := by obtain ⟨q, rfl⟩ := hqu; exact HBT.out.trans (q.2.mono HBT.out.size)
                have HXU : Hid (HX w.heap.size wu h g gb gx 24 win S seen R ls S seen ls v [(gp, 44, #[.int .i64 x, .slice (some ⟨ba, off, none⟩) n c])]) := by obtain ⟨q, rfl⟩ := hqu; exact (HXT.out.below q.2)
                clear hqu T1 T2 CTx CFr CLn CPk HXT HBT
                go_wp2_with fail
                go_roundw
                case rel => exact ⟨i + 1, S, seen, R, ls, v, by rw [HTR.out], by go_num, by omega, by omega, HLEN2.out, HL82.out, HL602.out, HXU.out, HBU.out⟩
                case measure => simp [intOf]; omega
        · skip
          go_wp2_with fail
          refine (CLV.out _).mono ?_
          rintro en w2 ⟨rfl, hb⟩
          go_wp2_with fail
          try go_ret
          exact HQ.out _ (HBR.out.trans (hb.mono HBR.out.size))
      · skip
        go_wp2_with fail
        refine (CLV.out _).mono ?_
        rintro en w2 ⟨rfl, hb⟩
        go_wp2_with fail
        try go_ret
        exact HQ.out _ (HBR.out.trans (hb.mono HBR.out.size))
end Go.Proofs.Ytdbiodofofnpgaa
namespace Go.Proofs.Ytdbiodofofnpgaa
open Go.ChangeShapes Go.WideShapes Go.ChangeAt Go.RowKit Go.WideElems Go.Deep
open Go.ChangeMaps (open_string shut_string)

set_option maxRecDepth 100000 in
theorem holdPlays_lifted (os : Os) (started : os.Started) (H : Type) (enc : TypeId × Value → H) :
    ReturnsInHanded {} Try.checked os 5 .any (Rows.holdPlaysSpec.pre6 enc Try.prog Try.f5 [] false) (Rows.holdPlaysSpec.post enc Try.prog Try.f5 false true false false) := by
  refine law_lifted 5 Try.f5 Rows.holdPlaysSpec os started H enc Try.func5 (by kernel_rfl) (by kernel_rfl) (by kernel_rfl) rfl (fun ds h => ?_)
    (ChangeSpec.witness6 (enc := enc) (C := Try.checked) false ⟨#[], #[.agg #[.int .i64 0, .slice none 0 0]], []⟩ 8 (by kernel_rfl) (by kernel_rfl) (by kernel_rfl) (by kernel_rfl)) ?_
  · have hn : ds.length = 1 := h
    match ds, hn with
    | [d0], _ => rfl
  · intro W args ds p base hval hA _ _
    rw [show Try.f5.params.toList = [44] from by rw [Try.params5]] at hval hA
    obtain ⟨v0, _, d0, _, p0, _, rfl, rfl, rfl, h0, hA⟩ := all_cons hA
    obtain rfl := all_nil hA
    obtain ⟨x0, A0, c0, l0, rfl, hi0, ho0, hx0, hn0⟩ := open_playArg (hval 0 _ v0 rfl rfl) h0
    exact holdPlays_any A0 c0 x0 l0 W hi0 ho0 hx0 hn0

theorem holdPlays_holds : Rows.HoldPlaysSaid :=
  OpenClaim.holds_of_wide 5 Try.f5 rfl rfl rfl rfl rfl rfl rfl ⟨rfl, rfl, rfl, rfl, rfl⟩ rfl rfl rfl rfl rfl (by kernel_rfl) Try.func5 (by kernel_rfl)
    (of_decide_eq_true (by kernel_rfl)) (by unfold Func.isWrapper; first | (rw [if_pos (by decide +kernel)]; kernel_rfl) | (rw [if_neg (by decide +kernel)]; exact ⟨rfl, rfl⟩))
    (fun os started H enc _ => holdPlays_lifted os started H enc)
#print axioms holdPlays_holds
end Go.Proofs.Ytdbiodofofnpgaa
