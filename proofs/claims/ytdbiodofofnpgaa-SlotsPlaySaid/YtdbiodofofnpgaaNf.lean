/- Walks: the reference of layer 28: Open. Walks: the reference of layer 28: Close. Walks: law 28's told. -/
import Derived.Test.YtdbiodofofnpgaaNe
import Derived.Test.YtdbiodofofnpgaaNa
namespace Go.Proofs.Ytdbiodofofnpgaa
open Go.RowKit Go.Maps

theorem append_none {P : Program} (w : World) (t ty e : TypeId) (i : TypeInfo) (ht : P.underlying t = some (.slice e)) (hi : P.info? e = some i) (A : Option Addr) (n c : Nat) (hA : A = none → n = 0 ∧ c = 0) (hn : n ≤ c) :
    (Builtin.append_ #[t, t] ty #[.slice A n c, .slice none 0 0]).run P w = .ok (.slice A n c) w := by
  cases A with
  | none =>
    obtain ⟨rfl, rfl⟩ := hA rfl
    simp [Builtin.append_, run_underlying ht, sizeOf, typeInfo, hi, Builtin.lenOf, Builtin.firstCells]
  | some ad =>
    simp [Builtin.append_, run_underlying ht, sizeOf, typeInfo, hi, Builtin.lenOf, Builtin.firstCells, loadCells, storeCells, hn]
/-- 'out = append(out, xs...)': what is appended may be read, or there is none. -/
theorem wpList_appendR {P : Program} (w : World) {ops : Array Oper} {rest : List Oper} {o : Oper} {a : Act} {Q : Exit → Act → World → Prop} (hgd : o.guard = none) (s x : Operand) (t : TypeId)
    (ho : o.op = .call { callee := .builtin .append, args := #[s, x], argTypes := #[t, t] })
    (base : Nat) (e : TypeId) (z : Value) (size bytes : Nat) (ht : P.underlying t = some (.slice e)) (hi : (P.info? e).map (fun i => (i.zero, i.size, i.bytes)) = some (some z, size, bytes))
    (hzs : z.cells.size = size) (hsz : 0 < size)
    (v : Value) (n : Nat) (xs : List Value) (hs : a.eval s = v) (hown : w.ownsRow base e size v n xs)
    (A : Option Addr) (m c : Nat) (news : List Value) (hx : a.eval x = .slice A m c) (hl : news.length = m * size) (hnews : Rd w A news) (hA : A = none → m = 0 ∧ c = 0) (h1 : ∀ u ∈ news, u.oneCell' = true)
    (hbytes : (n + m) * bytes ≤ 140737488355328) (hby : 1 ≤ bytes) (hbase : base ≤ w.heap.size)
    (h : ∀ A c' w', w'.ownsRow base e size (.slice A (n + m) c') (n + m) (xs ++ news) → Keep (fun k => v.ownBlock = some k) w w' → (∀ k, (Value.slice A (n + m) c').ownBlock = some k → v.ownBlock = some k ∨ w.heap.size ≤ k) → wpList P ops Q rest (a.put o.dst (.slice A (n + m) c')) w') :
    wpList P ops Q (o :: rest) a w := by
  cases A with
  | some ad =>
    refine wpList_appendK w hgd s x t ho base e z size bytes ht hi hzs hsz v n xs hs hown ad m c news hx hl ?_ h1 hbytes hby hbase h
    rcases hnews with h | ⟨b, off, e, _, hc⟩
    · intro j u hj; rw [h] at hj; simp at hj
    · injection e with e; subst e
      intro j u hj
      rw [show (⟨b, off, none⟩ : Addr).add j = ⟨b, off + j, none⟩ from by unfold Addr.add; split <;> simp_all]
      exact hc j u hj
  | none =>
    obtain ⟨rfl, rfl⟩ := hA rfl
    have hn : news = [] := List.eq_nil_of_length_eq_zero (by simpa using hl)
    subst hn
    obtain ⟨i, hi', hz, hz1, hz2⟩ := info_parts hi
    have hv : ∃ A c', v = .slice A n c' ∧ (A = none → n = 0 ∧ c' = 0) ∧ n ≤ c' := by
      rcases hown.2 with ⟨hv, h0⟩ | ⟨g, cap, cur, hv, _, _, hnc, _⟩
      · exact ⟨none, 0, by rw [h0]; exact hv, fun _ => ⟨h0, rfl⟩, by omega⟩
      · exact ⟨_, _, hv, fun h => (by cases h), hnc⟩
    obtain ⟨A, c', rfl, hA', hnc⟩ := hv
    have hr := append_none (P := P) w t o.type e i ht hi' A n c' hA' hnc
    refine wpList_plain hgd fun _ hK => ?_
    unfold Oper.wp execOp
    simp only [ho, resolve, invoke, builtin, Sem.run_bind, Sem.run_pure, Result.andThen_ok, List.map_toArray, List.map_cons, List.map_nil, hs, hx, hr]
    exact hK _ _ (h A c' w (by simpa using hown) (Keep.refl _ _) (fun k hk => .inl hk))

def set3 (w : World) (g : Nat) (a b c : Value) : World := ((w.setCell ⟨g, 0, none⟩ a).setCell ⟨g, 1, none⟩ b).setCell ⟨g, 2, none⟩ c
theorem set3_blk {w : World} {g : Nat} {t : TypeId} {x0 x1 x2 : Value} (h : Blk w g t #[x0, x1, x2]) (a b c : Value) : Blk (set3 w g a b c) g t #[a, b, c] := by
  have h0 : Blk _ g t #[a, x1, x2] := h.set 0 a
  have h1 : Blk _ g t #[a, b, x2] := h0.set 1 b
  exact h1.set 2 c
theorem set3_far {w : World} {g g' : Nat} {t : TypeId} {cs : Array Value} (h : Blk w g t cs) (hne : g ≠ g') (a b c : Value) : Blk (set3 w g' a b c) g t cs := ((h.set_far hne).set_far hne).set_far hne
theorem set3_below {B g : Nat} {w w1 : World} (h : Below B w w1) (hg : B ≤ g) (a b c : Value) : Below B w (set3 w1 g a b c) := ((h.setCell hg a).setCell hg b).setCell hg c
theorem set3_own {w : World} {base g : Nat} {e : TypeId} {size : Nat} {v : Value} {n : Nat} {xs : List Value} (h : w.ownsRow base e size v n xs) (hne : v.ownBlock ≠ some g) (a b c : Value) : (set3 w g a b c).ownsRow base e size v n xs := own_kept_set (own_kept_set (own_kept_set h ⟨g, 0, none⟩ a hne) ⟨g, 1, none⟩ b hne) ⟨g, 2, none⟩ c hne
def setP2 (w : World) (g : Nat) (a b : Value) : World := (w.setCell ⟨g, 0, none⟩ a).setCell ⟨g, 1, none⟩ b
theorem setP2_blk {w : World} {g : Nat} {t : TypeId} {x0 x1 : Value} (h : Blk w g t #[x0, x1]) (a b : Value) : Blk (setP2 w g a b) g t #[a, b] := by
  have h0 : Blk _ g t #[a, x1] := h.set 0 a
  exact h0.set 1 b
theorem setP2_far {w : World} {g g' : Nat} {t : TypeId} {cs : Array Value} (h : Blk w g t cs) (hne : g ≠ g') (a b : Value) : Blk (setP2 w g' a b) g t cs := (h.set_far hne).set_far hne
theorem setP2_below {B g : Nat} {w w1 : World} (h : Below B w w1) (hg : B ≤ g) (a b : Value) : Below B w (setP2 w1 g a b) := (h.setCell hg a).setCell hg b
theorem setP2_own {w : World} {base g : Nat} {e : TypeId} {size : Nat} {v : Value} {n : Nat} {xs : List Value} (h : w.ownsRow base e size v n xs) (hne : v.ownBlock ≠ some g) (a b : Value) : (setP2 w g a b).ownsRow base e size v n xs := own_kept_set (own_kept_set h ⟨g, 0, none⟩ a hne) ⟨g, 1, none⟩ b hne
theorem fact2' {w : World} {g : Nat} {t : TypeId} {a b : Value} (h : Blk w g t #[a, b]) : w.cell? ⟨g, 0, none⟩ = some a ∧ w.cell? ⟨g, 1, none⟩ = some b := ⟨h.cell 0, h.cell 1⟩
theorem Try.infoOne : (Try.prog.info? 95).map (fun i => (i.zero, i.size, i.bytes)) = some (some (.agg #[.int .i64 0, .int .i64 0]), 2, 16) := by kernel_rfl
theorem oneCells_one (L : SlL) : ∀ u ∈ oneCells L, u.oneCell' = true := by
  intro u hu
  unfold oneCells at hu
  obtain ⟨x, _, hx⟩ := List.mem_flatMap.1 hu
  simp at hx
  rcases hx with rfl | rfl <;> rfl

def RO (w : World) (gx g2 g3 : Nat) (wr : World) (A : Option Addr) (n c m next : Nat) : Prop :=
  Blk wr gx 90 #[.slice A n c, .int .i64 (m : Int), .int .i64 (next : Int)] ∧ Blk wr g2 90 #[.slice none 0 0, .int .i64 0, .int .i64 0] ∧ Blk wr g3 95 #[.int .i64 0, .int .i64 0] ∧
  Below w.heap.size w wr ∧ w.heap.size ≤ gx ∧ gx < g2 ∧ g2 < g3 ∧ g3 < wr.heap.size
theorem RO.below {w wr w' : World} {gx g2 g3 n c m next : Nat} {A : Option Addr} (h : RO w gx g2 g3 wr A n c m next) (hb : Below wr.heap.size wr w') : RO w gx g2 g3 w' A n c m next := by
  obtain ⟨h1, h2, h3, h4, h5, h6, h7, h8⟩ := h
  have := hb.size
  exact ⟨h1.below hb h1.lt, h2.below hb h2.lt, h3.below hb h3.lt, h4.trans (hb.mono h4.size), h5, h6, h7, by omega⟩
theorem RO.start (w : World) (A : Option Addr) (n c m next : Nat) : RO w w.heap.size (w.heap.size + 1) (w.heap.size + 1 + 1)
    (((w.alloc (.cells #[.slice A n c, .int .i64 (m : Int), .int .i64 (next : Int)] 90)).alloc (.cells #[.slice none 0 0, .int .i64 0, .int .i64 0] 90)).alloc (.cells #[.int .i64 0, .int .i64 0] 95)) A n c m next := by
  refine ⟨((Blk.new w _ _).alloc _).alloc _, ?_, ?_, ((((Below.refl _ _).alloc (Nat.le_refl _) _).alloc (by simp) _).alloc (by simp; omega) _), Nat.le_refl _, by omega, by omega, by simp⟩
  · have := (Blk.new (w.alloc (.cells #[.slice A n c, .int .i64 (m : Int), .int .i64 (next : Int)] 90)) 90 #[.slice none 0 0, .int .i64 0, .int .i64 0]).alloc (.cells #[.int .i64 0, .int .i64 0] 95)
    simpa using this
  · have := Blk.new ((w.alloc (.cells #[.slice A n c, .int .i64 (m : Int), .int .i64 (next : Int)] 90)).alloc (.cells #[.slice none 0 0, .int .i64 0, .int .i64 0] 90)) 95 #[.int .i64 0, .int .i64 0]
    simpa using this

/-- What Open tells. -/
def OpenR (A : Option Addr) (n c m next k0 : Nat) (L : SlL) (w : World) (e : Ending) (w' : World) : Prop := Below w.heap.size w w' ∧
  ((k0 = m ∧ e = .returned (.tuple #[refS A n c m next, .agg #[.int .i64 0, .int .i64 0], .bool false])) ∨
   (k0 ≠ m ∧ ∃ A' c', e = .returned (.tuple #[refS A' (n + 1) c' m (next + 1), .agg #[.int .i64 (next : Int), .int .i64 (k0 : Int)], .bool true]) ∧ w'.ownsRow w.heap.size 95 2 (.slice A' (n + 1) c') (n + 1) (oneCells (L ++ [(next, k0)]))))

set_option maxRecDepth 20000 in
set_option maxHeartbeats 4000000 in
theorem refOpenL_any (A : Option Addr) (n c m next k0 : Nat) (L : SlL) (w : World) (hl : L.length = n) (hn : n ≤ 1024) (hr : Rd w A (oneCells L)) (hA : A = none → n = 0 ∧ c = 0) (hk : whoAt L k0 = -1) (hlow : ∀ j, j < k0 → whoAt L j ≠ -1) (hk0 : k0 ≤ 1024) (_ : m ≤ 1024) (hnx : next < 4096) :
    Calls Try.prog 48 #[refS A n c m next] w fun e w' => OpenR A n c m next k0 L w e w' := by
  have HL := hid hl; have HR := hid hr; have HA := hid hA; have HK := hid hk; have HLOW := hid hlow
  have CW : Hid (∀ W (k : Nat), Below w.heap.size w W → Calls Try.prog 91 #[.agg #[.slice A n c, .int .i64 (m : Int), .int .i64 (next : Int)], .int .i64 (k : Int)] W fun e w' => e = .returned (.int .i64 (whoAt L k)) ∧ Below W.heap.size W w') := fun W k hW => by
    have := refWho_any A n c m next L (k : Int) W hl (by omega) (hr.below hW)
    rwa [whoR_nat] at this
  obtain ⟨Q, hQ⟩ : ∃ Q : Ending → World → Prop, (fun e w' => OpenR A n c m next k0 L w e w') = Q := ⟨_, rfl⟩
  have HQ : Hid (∀ e W, OpenR A n c m next k0 L w e W → Q e W) := fun e W h => by rw [← hQ]; exact h
  rw [hQ]
  clear hl hr hA hk hlow hQ
  unfold refS
  go_enter Try.func48, Try.ntmps48
  go_upto_region 1 with fail
  have HO := hid (RO.start w A n c m next)
  obtain ⟨w0, hw0⟩ : ∃ W, (((w.alloc (.cells #[.slice A n c, .int .i64 (m : Int), .int .i64 (next : Int)] 90)).alloc (.cells #[.slice none 0 0, .int .i64 0, .int .i64 0] 90)).alloc (.cells #[.int .i64 0, .int .i64 0] 95)) = W := ⟨_, rfl⟩
  rw [hw0] at HO ⊢
  clear hw0
  obtain ⟨gx, hgx⟩ : ∃ x, w.heap.size = x := ⟨_, rfl⟩
  have HGX := hid hgx
  rw [hgx] at HO ⊢
  obtain ⟨g2, hg2⟩ : ∃ x, gx + 1 = x := ⟨_, rfl⟩
  rw [hg2] at HO ⊢
  obtain ⟨g3, hg3⟩ : ∃ x, g2 + 1 = x := ⟨_, rfl⟩
  rw [hg3] at HO ⊢
  clear hgx hg2 hg3
  go_wp2_with fail
  go_loopw [5] (fun kv wr => ∃ k : Nat, k ≤ k0 ∧ kv = .int .i64 (k : Int) ∧ RO w gx g2 g3 wr A n c m next) (fun kv _ => k0 - (intOf kv).toNat)
  case atStart => exact ⟨0, Nat.zero_le _, rfl, HO.out⟩
  case round =>
    obtain ⟨k, hkk, rfl, hro⟩ := hrel
    have HRO := hid hro
    obtain ⟨x0, x1, x2⟩ := fact3s hro.1
    have C1 := hid (CW.out wr k hro.2.2.2.1)
    clear hro HO
    by_cases hlt : k < k0
    · have hne := HLOW.out k hlt
      have hge := whoAt_ge L k
      obtain ⟨y, hy⟩ : ∃ y, whoAt L k = y := ⟨_, rfl⟩
      rw [hy] at C1 hne hge
      have hy0 : 0 ≤ y := by omega
      clear hy hne hge
      go_wp2_with fail
      refine C1.out.mono ?_
      rintro en w1 ⟨rfl, hb⟩
      have HRO1 := hid (HRO.out.below hb)
      clear C1 hb HRO
      go_wp2_with fail
      go_roundw
      case rel => exact ⟨k + 1, by omega, by go_num, HRO1.out⟩
      case measure => simp [intOf]; omega
    · have hkk0 : k = k0 := by omega
      rw [hkk0, HK.out] at C1
      obtain ⟨ki, hki⟩ : ∃ y : Int, (k : Int) = y := ⟨_, rfl⟩
      have hki2 : ki = (k0 : Int) := by omega
      rw [hki]
      rw [hkk0] at hki
      clear hkk hlt hkk0
      subst hki
      clear hki2
      go_wp2_with fail
      refine C1.out.mono ?_
      rintro en w1 ⟨rfl, hb⟩
      have HRO1 := hid (HRO.out.below hb)
      clear C1 hb HRO x0 x1 x2
      obtain ⟨b1, b2, b3, b4, b5, b6, b7, b8⟩ := HRO1.out
      obtain ⟨x0, x1, x2⟩ := fact3s b1
      have hxl := b1.lt
      have y0 := b2.frozen 0; have y1 := b2.frozen 1; have y2 := b2.frozen 2
      have z0 := b3.frozen 0; have z1 := b3.frozen 1
      obtain ⟨q0, q1, q2⟩ := fact3s b2
      obtain ⟨r0, r1⟩ := fact2' b3
      have hgne : gx ≠ g2 ∧ gx ≠ g3 ∧ g2 ≠ g3 ∧ g2 ≠ gx ∧ g3 ≠ gx ∧ g3 ≠ g2 := by omega
      obtain ⟨n1, n2, n3, n4, n5, n6⟩ := hgne
      have hnx1 : ((next : Int) == 4096) = false := by rw [beq_eq_false_iff_ne]; omega
      by_cases hkm : k0 = m
      · have hkmi : ((k0 : Int) == (m : Int)) = true := by rw [beq_iff_eq]; omega
        have HKM := hid hkm
        have HBK := hid b2; have HBK3 := hid b3; have HBW := hid b4; have HBL := hid (show w.heap.size ≤ g2 ∧ w.heap.size ≤ g3 from by omega)
        clear b1 b2 b3 b4 b5 b6 b7 hkm
        go_wp2_with fail
        obtain ⟨wz, hwz⟩ : ∃ W, setP2 (set3 w1 g2 (.slice A n c) (.int .i64 (m : Int)) (.int .i64 (next : Int))) g3 (.int .i64 0) (.int .i64 0) = W := ⟨_, rfl⟩
        have Z1 : Blk wz g2 90 #[.slice A n c, .int .i64 (m : Int), .int .i64 (next : Int)] := by rw [← hwz]; exact setP2_far (set3_blk HBK.out _ _ _) n3 _ _
        have Z2 : Blk wz g3 95 #[.int .i64 0, .int .i64 0] := by rw [← hwz]; exact setP2_blk (set3_far HBK3.out n6 _ _ _) _ _
        have Z3 : Below w.heap.size w wz := by rw [← hwz]; exact setP2_below (set3_below HBW.out HBL.out.1 _ _ _) HBL.out.2 _ _
        unfold setP2 set3 at hwz
        rw [hwz]
        obtain ⟨t0, t1, t2⟩ := fact3s Z1
        obtain ⟨t3, t4⟩ := fact2' Z2
        refine bodyPost_ret (v := .tuple #[.agg #[.slice A n c, .int .i64 (m : Int), .int .i64 (next : Int)], .agg #[.int .i64 0, .int .i64 0], .bool false]) (by simp [results, Try.results48, go_sem, t0, t1, t2, t3, t4]) rfl (HQ.out _ _ ⟨Z3, .inl ⟨HKM.out, rfl⟩⟩)
      · have hkmi : ((k0 : Int) == (m : Int)) = false := by rw [beq_eq_false_iff_ne]; omega
        have HKM := hid hkm
        clear hkm
        go_upto_region 7 with fail
        obtain ⟨wd, gy, hwd, hgy, hb, hblk, hgy1, hgy2⟩ := alloc_step' w1 95 #[.int .i64 (next : Int), .int .i64 (k0 : Int)]
        rw [hwd, hgy]
        have HRO2 := hid (HRO1.out.below hb)
        have HGY := hid hblk
        have hgy3 : g3 < gy := by omega
        clear hwd hgy hb hblk HRO1 b1 b2 b3 b4 b5 b6 b7 b8 x0 x1 x2 hxl y0 y1 y2 z0 z1 q0 q1 q2 r0 r1
        obtain ⟨b1, b2, b3, b4, b5, b6, b7, b8⟩ := HRO2.out
        have HG1 := hid b1; have HG2 := hid b2; have HG3 := hid b3; have HBD := hid b4
        obtain ⟨x0, x1, x2⟩ := fact3s b1
        obtain ⟨v0, v1⟩ := fact2' HGY.out
        have hxl := b1.lt
        have T0 : ∀ q : BW wd.heap.size wd, q.1.cell? ⟨gx, 0, none⟩ = some (.slice A n c) := fun q => q.cellAt hxl x0
        have T2 : ∀ q : BW wd.heap.size wd, q.1.cell? ⟨gx, 2, none⟩ = some (.int .i64 (next : Int)) := fun q => q.cellAt hxl x2
        have T3 : ∀ q : BW wd.heap.size wd, q.1.cell? ⟨gy, 0, none⟩ = some (.int .i64 (next : Int)) := fun q => q.cellAt hgy2 v0
        have T4 : ∀ q : BW wd.heap.size wd, q.1.cell? ⟨gy, 1, none⟩ = some (.int .i64 (k0 : Int)) := fun q => q.cellAt hgy2 v1
        clear b1 b2 b3 b4 x0 x1 x2 v0 v1 HRO2
        refine wp_region_ordT wd.heap.size [11, 13] (.val 1 (.val 2 (.val 4 (.val 7 (.val 8 (.val 9 (.two 0 (.two 3 (.op 5 (.op 6 (.val 10 (.op 11 (.val 12 (.op 13 (.nil))))))) 5 (.op 3 (.op 6 (.val 10 (.op 11 (.val 12 (.op 13 (.nil)))))))) 5 (.op 0 (.op 3 (.op 6 (.val 10 (.op 11 (.val 12 (.op 13 (.nil))))))))))))))) (by kernel_rfl) (by kernel_rfl) ?_
        obtain ⟨wc, hwc⟩ : ∃ W, wd.drewN 1 = W := ⟨_, rfl⟩
        have HBW : Hid (Below wd.heap.size wd wc) := by rw [← hwc]; exact drewN_below wd 1
        rw [hwc]
        clear hwc
        refine wpOrdT_val rfl rfl ?_
        go_big_quiet_step (fail)
        refine wpQuiet_nil ?_
        refine wpOrdT_load rfl rfl (inBW HBW.out) ?_
        go_big_quiet_step (fail)
        refine wpQuiet_nil ?_
        refine wpOrdT_load rfl rfl (inBW HBW.out) ?_
        go_big_quiet_step (fail)
        refine wpQuiet_nil ?_
        refine wpOrdT_val rfl rfl ?_
        go_big_quiet_step (fail)
        refine wpQuiet_nil ?_
        refine wpOrdT_load rfl rfl (inBW HBW.out) ?_
        go_big_quiet_step (fail)
        refine wpQuiet_nil ?_
        refine wpOrdT_val rfl rfl ?_
        go_big_quiet_step (fail)
        refine wpQuiet_nil ?_
        refine wpOrdT_two rfl rfl ?_ ?_
        · skip
          go_wp2_with fail
          have hsz := HBW.out.size
          obtain ⟨wc, ge, hw, hg, hb, hblk, he1, he2⟩ := alloc_step' wc 95 #[]
          rw [hw, hg]
          try replace HOE := hid (own_below HOE.out hb)
          try replace HO3 := hid (own_below HO3.out hb)
          try replace HB1 := hid (HB1.out.below hb HB1.out.lt)
          replace HBW := hid (HBW.out.trans (hb.mono HBW.out.size))
          have HOE : Hid (wc.ownsRow wd.heap.size 95 2 (.slice (some ⟨ge, 0, none⟩) 0 0) 0 []) := by
            rw [Hid, ← hw, ← hg]
            exact World.ownsRow_made (base := wd.heap.size) (e := 95) (size := 2) _ #[] 0 hsz (by simp [maxLen]) (by simp)
          have s0 := hb.size
          clear hw hg hb hblk
          refine KT.keep (inBW HBW.out) ?_
          refine wpOrdT_two rfl rfl ?_ ?_
          · skip
            have hrd := HR.out.below (HBD.out.trans (HBW.out.mono HBD.out.size))
            have hsz3 := HBW.out.size
            have hlc := HL.out
            go_wp2_with (at_builtin; refine wpList_appendR _ rfl _ _ 88 rfl wd.heap.size 95 _ 2 16 Try.underlying88 Try.infoOne rfl (by decide) _ _ _ rfl HOE.out A n c (oneCells L) rfl (by rw [oneCells_length, hlc]) hrd HA.out (oneCells_one L) (by omega) (by decide) hsz3 ?_)
            intro A3 c3 wc hown3 hk3 hf3
            have s3 := hk3.size
            have hb := hk3.below hsz3 (fun k hk => by simp [Value.ownBlock] at hk; omega)
            try replace HB1 := hid (hk3.blk HB1.out (fun hk => by simp [Value.ownBlock] at hk; omega))
            replace HBW : Hid (Below wd.heap.size wd wc) := hid (HBW.out.trans hb)
            have HO3 : Hid (wc.ownsRow wd.heap.size 95 2 (.slice A3 n c3) n (oneCells L)) := by rw [Hid]; simpa using hown3
            try rw [Nat.zero_add]
            clear hown3 hk3 hf3 hb HOE hrd hsz3 hlc
            go_wp2_with fail
            refine KT.keep (inBW HBW.out) ?_
            refine wpOrdT_op rfl ?_
            go_wp2_with fail
            have hsz5 := HBW.out.size
            obtain ⟨wc, gq, hw, hg, hb, hblk, hq1, hq2⟩ := alloc_step' wc 95 #[.int .i64 (next : Int), .int .i64 (k0 : Int)]
            rw [hw, hg]
            try replace HOE := hid (own_below HOE.out hb)
            try replace HO3 := hid (own_below HO3.out hb)
            try replace HB1 := hid (HB1.out.below hb HB1.out.lt)
            replace HBW := hid (HBW.out.trans (hb.mono HBW.out.size))
            have HB1 := hid hblk
            have s5 := hb.size
            clear hw hg hb hblk
            refine KT.keep (inBW HBW.out) ?_
            refine wpOrdT_op rfl ?_
            have hsz6 := HBW.out.size
            obtain ⟨c10, c11⟩ := fact2' HB1.out
            go_wp2_with (at_builtin; refine wpList_appendK _ rfl _ _ 88 rfl wd.heap.size 95 _ 2 16 Try.underlying88 Try.infoOne rfl (by decide) _ _ _ rfl HO3.out ⟨gq, 0, none⟩ 1 1 (oneCells [(next, k0)]) rfl rfl ?_ (oneCells_one _) (by omega) (by decide) hsz6 ?_)
            · intro j u hj
              rcases j with _ | _ | j
              · injection hj with hj; subst hj; exact c10
              · injection hj with hj; subst hj; exact c11
              · simp [oneCells] at hj
            intro A6 c6 wc hown6 hk6 hf6
            have hb := hk6.below hsz6 (fun k hk => (HO3.out.lt k hk).1)
            replace HBW : Hid (Below wd.heap.size wd wc) := hid (HBW.out.trans hb)
            have HO6 : Hid (wc.ownsRow wd.heap.size 95 2 (.slice A6 (n + 1) c6) (n + 1) (oneCells (L ++ [(next, k0)]))) := by rw [Hid, oneCells_app]; exact hown6
            clear hown6 hk6 hf6 hb HO3 HB1 hsz6 c10 c11
            go_wp2_with fail
            refine KT.keep (inBW HBW.out) ?_
            refine wpOrdT_val rfl rfl ?_
            go_big_quiet_step (fail)
            refine wpQuiet_nil ?_
            refine wpOrdT_op rfl ?_
            have HX := hid (HG1.out.below HBW.out HG1.out.lt)
            obtain ⟨x0, x1, x2⟩ := fact3s HX.out
            have y0 := HX.out.frozen 0; have y2 := HX.out.frozen 2; have hxl2 := HX.out.lt
            go_wp2_with fail
            refine KT.past rfl ?_
            refine wpOrdT_val rfl rfl ?_
            go_big_quiet_step (fail)
            refine wpQuiet_nil ?_
            refine wpOrdT_op rfl ?_
            go_wp2_with fail
            refine KT.past rfl ?_
            refine wpOrdT_nil ?_
            obtain ⟨we, hwe⟩ : ∃ W, (wc.setCell ⟨gx, 0, none⟩ (.slice A6 (n + 1) c6)).setCell ⟨gx, 2, none⟩ (.int .i64 ((next + 1 : Nat) : Int)) = W := ⟨_, rfl⟩
            have hwe2 : (wc.setCell ⟨gx, 0, none⟩ (.slice A6 (n + 1) c6)).setCell ⟨gx, 2, none⟩ (.int .i64 ((next : Int) + 1)) = we := hwe
            have E1 : Hid (Blk we gx 90 #[.slice A6 (n + 1) c6, .int .i64 (m : Int), .int .i64 ((next + 1 : Nat) : Int)]) := by
              rw [Hid, ← hwe]
              have h0 : Blk _ gx 90 #[.slice A6 (n + 1) c6, .int .i64 (m : Int), .int .i64 (next : Int)] := HX.out.set 0 _
              exact h0.set 2 _
            have E2 : Hid (Blk we g2 90 #[.slice none 0 0, .int .i64 0, .int .i64 0]) := by rw [Hid, ← hwe]; exact ((HG2.out.below HBW.out HG2.out.lt).set_far n4).set_far n4
            have E3 : Hid (Blk we g3 95 #[.int .i64 0, .int .i64 0]) := by rw [Hid, ← hwe]; exact ((HG3.out.below HBW.out HG3.out.lt).set_far n5).set_far n5
            have hyx : gy ≠ gx := by omega
            have E4 : Hid (Blk we gy 95 #[.int .i64 (next : Int), .int .i64 (k0 : Int)]) := by rw [Hid, ← hwe]; exact ((HGY.out.below HBW.out HGY.out.lt).set_far hyx).set_far hyx
            have hob : ∀ g, g < wd.heap.size → (Value.slice A6 (n + 1) c6).ownBlock ≠ some g := fun g hg h => by have := (HO6.out.lt g h).1; omega
            have E5 : Hid (we.ownsRow wd.heap.size 95 2 (.slice A6 (n + 1) c6) (n + 1) (oneCells (L ++ [(next, k0)]))) := by rw [Hid, ← hwe]; exact own_kept_set (own_kept_set HO6.out ⟨gx, 0, none⟩ _ (hob gx hxl)) ⟨gx, 2, none⟩ _ (hob gx hxl)
            have E6 : Hid (Below w.heap.size w we) := by rw [Hid, ← hwe]; exact ((HBD.out.trans (HBW.out.mono HBD.out.size)).setCell b5 _).setCell b5 _
            have HOB := hid hob
            have hnc : ((next : Int) + 1) = ((next + 1 : Nat) : Int) := by omega
            obtain ⟨nx1, hnx2⟩ : ∃ y, next + 1 = y := ⟨_, rfl⟩
            have hn1 : ((next : Int) + 1) = (nx1 : Int) := by omega
            have HN1 := hid hnx2
            rw [hwe2]
            rw [hnx2] at E1
            clear hwe hwe2 HX x0 x1 x2 y0 y2 hxl2 HBW HG1 HG2 HG3 HGY HO6 hob T0 T2 T3 T4 hnx2 hnc
            obtain ⟨x0, x1, x2⟩ := fact3s E1.out
            obtain ⟨v0, v1⟩ := fact2' E4.out
            have y0 := E2.out.frozen 0; have y1 := E2.out.frozen 1; have y2 := E2.out.frozen 2
            have z0 := E3.out.frozen 0; have z1 := E3.out.frozen 1
            have l2 := E2.out.lt; have l3 := E3.out.lt; have lx := E1.out.lt; have ly := E4.out.lt
            obtain ⟨q0, q1, q2⟩ := fact3s E2.out
            obtain ⟨r0, r1⟩ := fact2' E3.out
            have T0 : ∀ q : BW we.heap.size we, q.1.cell? ⟨gx, 0, none⟩ = some (.slice A6 (n + 1) c6) := fun q => q.cellAt lx x0
            have T1 : ∀ q : BW we.heap.size we, q.1.cell? ⟨gx, 1, none⟩ = some (.int .i64 (m : Int)) := fun q => q.cellAt lx x1
            have T2 : ∀ q : BW we.heap.size we, q.1.cell? ⟨gx, 2, none⟩ = some (.int .i64 (nx1 : Int)) := fun q => q.cellAt lx x2
            have hy23 : gy ≠ g2 ∧ gy ≠ g3 ∧ g2 ≠ gy ∧ g3 ≠ gy := by omega
            obtain ⟨m1, m2, m3, m4⟩ := hy23
            go_upto_region 8 with fail
            refine wp_region_ordT we.heap.size [2, 3] (.val 0 (.two 1 (.op 2 (.op 3 (.val 4 (.nil)))) 2 (.op 1 (.op 3 (.val 4 (.nil)))))) (by kernel_rfl) (by kernel_rfl) ?_
            obtain ⟨wf, hwf⟩ : ∃ W, we.drewN 1 = W := ⟨_, rfl⟩
            have HBW : Hid (Below we.heap.size we wf) := by rw [← hwf]; exact drewN_below we 1
            have F2 := hid (E2.out.below HBW.out l2); have F3 := hid (E3.out.below HBW.out l3); have F4 := hid (E4.out.below HBW.out ly)
            have F5 := hid (own_below E5.out HBW.out)
            have F6 : Hid (Below w.heap.size w wf) := hid (E6.out.trans (HBW.out.mono E6.out.size))
            rw [hwf]
            clear hwf y0 y1 y2 z0 z1 q0 q1 q2 r0 r1 v0 v1 l2 l3 ly x0 x1 x2
            have y0 := F2.out.frozen 0; have y1 := F2.out.frozen 1; have y2 := F2.out.frozen 2
            have z0 := F3.out.frozen 0; have z1 := F3.out.frozen 1
            have l2 := F2.out.lt; have l3 := F3.out.lt; have ly := F4.out.lt
            obtain ⟨q0, q1, q2⟩ := fact3s F2.out
            obtain ⟨r0, r1⟩ := fact2' F3.out
            obtain ⟨v0, v1⟩ := fact2' F4.out
            refine wpOrdT_load rfl rfl (inBW HBW.out) ?_
            go_big_quiet_step (fail)
            refine wpQuiet_nil ?_
            refine wpOrdT_two rfl rfl ?_ ?_
            · skip
              go_wp2_with fail
              refine KT.same ?_
              refine wpOrdT_op rfl ?_
              go_wp2_with fail
              refine KT.past rfl ?_
              refine wpOrdT_op rfl ?_
              go_wp2_with fail
              refine KT.past rfl ?_
              refine wpOrdT_val rfl rfl ?_
              go_big_quiet_step (fail)
              refine wpQuiet_nil ?_
              refine wpOrdT_nil ?_
              go_wp2_with fail
              obtain ⟨wz, hwz⟩ : ∃ W, setP2 (set3 wf g2 (.slice A6 (n + 1) c6) (.int .i64 (m : Int)) (.int .i64 (nx1 : Int))) g3 (.int .i64 (next : Int)) (.int .i64 (k0 : Int)) = W := ⟨_, rfl⟩
              have Z1 : Blk wz g2 90 #[.slice A6 (n + 1) c6, .int .i64 (m : Int), .int .i64 (nx1 : Int)] := by rw [← hwz]; exact setP2_far (set3_blk F2.out _ _ _) n3 _ _
              have Z2 : Blk wz g3 95 #[.int .i64 (next : Int), .int .i64 (k0 : Int)] := by rw [← hwz]; exact setP2_blk (set3_far F3.out n6 _ _ _) _ _
              have hw2 : w.heap.size ≤ g2 ∧ w.heap.size ≤ g3 := by omega
              have hg2d : g2 < wd.heap.size ∧ g3 < wd.heap.size := by omega
              have Z3 : Below w.heap.size w wz := by rw [← hwz]; exact setP2_below (set3_below F6.out hw2.1 _ _ _) hw2.2 _ _
              have Z4 : wz.ownsRow w.heap.size 95 2 (.slice A6 (n + 1) c6) (n + 1) (oneCells (L ++ [(next, k0)])) := by rw [← hwz]; exact own_base (setP2_own (set3_own F5.out (HOB.out g2 hg2d.1) _ _ _) (HOB.out g3 hg2d.2) _ _) HBD.out.size
              unfold setP2 set3 at hwz
              rw [hwz]
              obtain ⟨t0, t1, t2⟩ := fact3s Z1
              obtain ⟨t3, t4⟩ := fact2' Z2
              refine bodyPost_ret (v := .tuple #[.agg #[.slice A6 (n + 1) c6, .int .i64 (m : Int), .int .i64 (nx1 : Int)], .agg #[.int .i64 (next : Int), .int .i64 (k0 : Int)], .bool true]) (by simp [results, Try.results48, go_sem, t0, t1, t2, t3, t4]) rfl (HQ.out _ _ ⟨Z3, .inr ⟨HKM.out, A6, c6, by rw [HN1.out]; rfl, Z4⟩⟩)
            · skip
              go_wp2_with fail
              refine KT.past rfl ?_
              refine wpOrdT_op rfl ?_
              go_wp2_with fail
              refine KT.same ?_
              refine wpOrdT_op rfl ?_
              go_wp2_with fail
              refine KT.past rfl ?_
              refine wpOrdT_val rfl rfl ?_
              go_big_quiet_step (fail)
              refine wpQuiet_nil ?_
              refine wpOrdT_nil ?_
              go_wp2_with fail
              obtain ⟨wz, hwz⟩ : ∃ W, setP2 (set3 wf g2 (.slice A6 (n + 1) c6) (.int .i64 (m : Int)) (.int .i64 (nx1 : Int))) g3 (.int .i64 (next : Int)) (.int .i64 (k0 : Int)) = W := ⟨_, rfl⟩
              have Z1 : Blk wz g2 90 #[.slice A6 (n + 1) c6, .int .i64 (m : Int), .int .i64 (nx1 : Int)] := by rw [← hwz]; exact setP2_far (set3_blk F2.out _ _ _) n3 _ _
              have Z2 : Blk wz g3 95 #[.int .i64 (next : Int), .int .i64 (k0 : Int)] := by rw [← hwz]; exact setP2_blk (set3_far F3.out n6 _ _ _) _ _
              have hw2 : w.heap.size ≤ g2 ∧ w.heap.size ≤ g3 := by omega
              have hg2d : g2 < wd.heap.size ∧ g3 < wd.heap.size := by omega
              have Z3 : Below w.heap.size w wz := by rw [← hwz]; exact setP2_below (set3_below F6.out hw2.1 _ _ _) hw2.2 _ _
              have Z4 : wz.ownsRow w.heap.size 95 2 (.slice A6 (n + 1) c6) (n + 1) (oneCells (L ++ [(next, k0)])) := by rw [← hwz]; exact own_base (setP2_own (set3_own F5.out (HOB.out g2 hg2d.1) _ _ _) (HOB.out g3 hg2d.2) _ _) HBD.out.size
              unfold setP2 set3 at hwz
              rw [hwz]
              obtain ⟨t0, t1, t2⟩ := fact3s Z1
              obtain ⟨t3, t4⟩ := fact2' Z2
              refine bodyPost_ret (v := .tuple #[.agg #[.slice A6 (n + 1) c6, .int .i64 (m : Int), .int .i64 (nx1 : Int)], .agg #[.int .i64 (next : Int), .int .i64 (k0 : Int)], .bool true]) (by simp [results, Try.results48, go_sem, t0, t1, t2, t3, t4]) rfl (HQ.out _ _ ⟨Z3, .inr ⟨HKM.out, A6, c6, by rw [HN1.out]; rfl, Z4⟩⟩)
          · skip
            go_wp2_with fail
            have hsz5 := HBW.out.size
            obtain ⟨wc, gq, hw, hg, hb, hblk, hq1, hq2⟩ := alloc_step' wc 95 #[.int .i64 (next : Int), .int .i64 (k0 : Int)]
            rw [hw, hg]
            try replace HOE := hid (own_below HOE.out hb)
            try replace HO3 := hid (own_below HO3.out hb)
            try replace HB1 := hid (HB1.out.below hb HB1.out.lt)
            replace HBW := hid (HBW.out.trans (hb.mono HBW.out.size))
            have HB1 := hid hblk
            have s5 := hb.size
            clear hw hg hb hblk
            refine KT.keep (inBW HBW.out) ?_
            refine wpOrdT_op rfl ?_
            have hrd := HR.out.below (HBD.out.trans (HBW.out.mono HBD.out.size))
            have hsz3 := HBW.out.size
            have hlc := HL.out
            go_wp2_with (at_builtin; refine wpList_appendR _ rfl _ _ 88 rfl wd.heap.size 95 _ 2 16 Try.underlying88 Try.infoOne rfl (by decide) _ _ _ rfl HOE.out A n c (oneCells L) rfl (by rw [oneCells_length, hlc]) hrd HA.out (oneCells_one L) (by omega) (by decide) hsz3 ?_)
            intro A3 c3 wc hown3 hk3 hf3
            have s3 := hk3.size
            have hb := hk3.below hsz3 (fun k hk => by simp [Value.ownBlock] at hk; omega)
            try replace HB1 := hid (hk3.blk HB1.out (fun hk => by simp [Value.ownBlock] at hk; omega))
            replace HBW : Hid (Below wd.heap.size wd wc) := hid (HBW.out.trans hb)
            have HO3 : Hid (wc.ownsRow wd.heap.size 95 2 (.slice A3 n c3) n (oneCells L)) := by rw [Hid]; simpa using hown3
            try rw [Nat.zero_add]
            clear hown3 hk3 hf3 hb HOE hrd hsz3 hlc
            go_wp2_with fail
            refine KT.keep (inBW HBW.out) ?_
            refine wpOrdT_op rfl ?_
            have hsz6 := HBW.out.size
            obtain ⟨c10, c11⟩ := fact2' HB1.out
            go_wp2_with (at_builtin; refine wpList_appendK _ rfl _ _ 88 rfl wd.heap.size 95 _ 2 16 Try.underlying88 Try.infoOne rfl (by decide) _ _ _ rfl HO3.out ⟨gq, 0, none⟩ 1 1 (oneCells [(next, k0)]) rfl rfl ?_ (oneCells_one _) (by omega) (by decide) hsz6 ?_)
            · intro j u hj
              rcases j with _ | _ | j
              · injection hj with hj; subst hj; exact c10
              · injection hj with hj; subst hj; exact c11
              · simp [oneCells] at hj
            intro A6 c6 wc hown6 hk6 hf6
            have hb := hk6.below hsz6 (fun k hk => (HO3.out.lt k hk).1)
            replace HBW : Hid (Below wd.heap.size wd wc) := hid (HBW.out.trans hb)
            have HO6 : Hid (wc.ownsRow wd.heap.size 95 2 (.slice A6 (n + 1) c6) (n + 1) (oneCells (L ++ [(next, k0)]))) := by rw [Hid, oneCells_app]; exact hown6
            clear hown6 hk6 hf6 hb HO3 HB1 hsz6 c10 c11
            go_wp2_with fail
            refine KT.keep (inBW HBW.out) ?_
            refine wpOrdT_val rfl rfl ?_
            go_big_quiet_step (fail)
            refine wpQuiet_nil ?_
            refine wpOrdT_op rfl ?_
            have HX := hid (HG1.out.below HBW.out HG1.out.lt)
            obtain ⟨x0, x1, x2⟩ := fact3s HX.out
            have y0 := HX.out.frozen 0; have y2 := HX.out.frozen 2; have hxl2 := HX.out.lt
            go_wp2_with fail
            refine KT.past rfl ?_
            refine wpOrdT_val rfl rfl ?_
            go_big_quiet_step (fail)
            refine wpQuiet_nil ?_
            refine wpOrdT_op rfl ?_
            go_wp2_with fail
            refine KT.past rfl ?_
            refine wpOrdT_nil ?_
            obtain ⟨we, hwe⟩ : ∃ W, (wc.setCell ⟨gx, 0, none⟩ (.slice A6 (n + 1) c6)).setCell ⟨gx, 2, none⟩ (.int .i64 ((next + 1 : Nat) : Int)) = W := ⟨_, rfl⟩
            have hwe2 : (wc.setCell ⟨gx, 0, none⟩ (.slice A6 (n + 1) c6)).setCell ⟨gx, 2, none⟩ (.int .i64 ((next : Int) + 1)) = we := hwe
            have E1 : Hid (Blk we gx 90 #[.slice A6 (n + 1) c6, .int .i64 (m : Int), .int .i64 ((next + 1 : Nat) : Int)]) := by
              rw [Hid, ← hwe]
              have h0 : Blk _ gx 90 #[.slice A6 (n + 1) c6, .int .i64 (m : Int), .int .i64 (next : Int)] := HX.out.set 0 _
              exact h0.set 2 _
            have E2 : Hid (Blk we g2 90 #[.slice none 0 0, .int .i64 0, .int .i64 0]) := by rw [Hid, ← hwe]; exact ((HG2.out.below HBW.out HG2.out.lt).set_far n4).set_far n4
            have E3 : Hid (Blk we g3 95 #[.int .i64 0, .int .i64 0]) := by rw [Hid, ← hwe]; exact ((HG3.out.below HBW.out HG3.out.lt).set_far n5).set_far n5
            have hyx : gy ≠ gx := by omega
            have E4 : Hid (Blk we gy 95 #[.int .i64 (next : Int), .int .i64 (k0 : Int)]) := by rw [Hid, ← hwe]; exact ((HGY.out.below HBW.out HGY.out.lt).set_far hyx).set_far hyx
            have hob : ∀ g, g < wd.heap.size → (Value.slice A6 (n + 1) c6).ownBlock ≠ some g := fun g hg h => by have := (HO6.out.lt g h).1; omega
            have E5 : Hid (we.ownsRow wd.heap.size 95 2 (.slice A6 (n + 1) c6) (n + 1) (oneCells (L ++ [(next, k0)]))) := by rw [Hid, ← hwe]; exact own_kept_set (own_kept_set HO6.out ⟨gx, 0, none⟩ _ (hob gx hxl)) ⟨gx, 2, none⟩ _ (hob gx hxl)
            have E6 : Hid (Below w.heap.size w we) := by rw [Hid, ← hwe]; exact ((HBD.out.trans (HBW.out.mono HBD.out.size)).setCell b5 _).setCell b5 _
            have HOB := hid hob
            have hnc : ((next : Int) + 1) = ((next + 1 : Nat) : Int) := by omega
            obtain ⟨nx1, hnx2⟩ : ∃ y, next + 1 = y := ⟨_, rfl⟩
            have hn1 : ((next : Int) + 1) = (nx1 : Int) := by omega
            have HN1 := hid hnx2
            rw [hwe2]
            rw [hnx2] at E1
            clear hwe hwe2 HX x0 x1 x2 y0 y2 hxl2 HBW HG1 HG2 HG3 HGY HO6 hob T0 T2 T3 T4 hnx2 hnc
            obtain ⟨x0, x1, x2⟩ := fact3s E1.out
            obtain ⟨v0, v1⟩ := fact2' E4.out
            have y0 := E2.out.frozen 0; have y1 := E2.out.frozen 1; have y2 := E2.out.frozen 2
            have z0 := E3.out.frozen 0; have z1 := E3.out.frozen 1
            have l2 := E2.out.lt; have l3 := E3.out.lt; have lx := E1.out.lt; have ly := E4.out.lt
            obtain ⟨q0, q1, q2⟩ := fact3s E2.out
            obtain ⟨r0, r1⟩ := fact2' E3.out
            have T0 : ∀ q : BW we.heap.size we, q.1.cell? ⟨gx, 0, none⟩ = some (.slice A6 (n + 1) c6) := fun q => q.cellAt lx x0
            have T1 : ∀ q : BW we.heap.size we, q.1.cell? ⟨gx, 1, none⟩ = some (.int .i64 (m : Int)) := fun q => q.cellAt lx x1
            have T2 : ∀ q : BW we.heap.size we, q.1.cell? ⟨gx, 2, none⟩ = some (.int .i64 (nx1 : Int)) := fun q => q.cellAt lx x2
            have hy23 : gy ≠ g2 ∧ gy ≠ g3 ∧ g2 ≠ gy ∧ g3 ≠ gy := by omega
            obtain ⟨m1, m2, m3, m4⟩ := hy23
            go_upto_region 8 with fail
            refine wp_region_ordT we.heap.size [2, 3] (.val 0 (.two 1 (.op 2 (.op 3 (.val 4 (.nil)))) 2 (.op 1 (.op 3 (.val 4 (.nil)))))) (by kernel_rfl) (by kernel_rfl) ?_
            obtain ⟨wf, hwf⟩ : ∃ W, we.drewN 1 = W := ⟨_, rfl⟩
            have HBW : Hid (Below we.heap.size we wf) := by rw [← hwf]; exact drewN_below we 1
            have F2 := hid (E2.out.below HBW.out l2); have F3 := hid (E3.out.below HBW.out l3); have F4 := hid (E4.out.below HBW.out ly)
            have F5 := hid (own_below E5.out HBW.out)
            have F6 : Hid (Below w.heap.size w wf) := hid (E6.out.trans (HBW.out.mono E6.out.size))
            rw [hwf]
            clear hwf y0 y1 y2 z0 z1 q0 q1 q2 r0 r1 v0 v1 l2 l3 ly x0 x1 x2
            have y0 := F2.out.frozen 0; have y1 := F2.out.frozen 1; have y2 := F2.out.frozen 2
            have z0 := F3.out.frozen 0; have z1 := F3.out.frozen 1
            have l2 := F2.out.lt; have l3 := F3.out.lt; have ly := F4.out.lt
            obtain ⟨q0, q1, q2⟩ := fact3s F2.out
            obtain ⟨r0, r1⟩ := fact2' F3.out
            obtain ⟨v0, v1⟩ := fact2' F4.out
            refine wpOrdT_load rfl rfl (inBW HBW.out) ?_
            go_big_quiet_step (fail)
            refine wpQuiet_nil ?_
            refine wpOrdT_two rfl rfl ?_ ?_
            · skip
              go_wp2_with fail
              refine KT.same ?_
              refine wpOrdT_op rfl ?_
              go_wp2_with fail
              refine KT.past rfl ?_
              refine wpOrdT_op rfl ?_
              go_wp2_with fail
              refine KT.past rfl ?_
              refine wpOrdT_val rfl rfl ?_
              go_big_quiet_step (fail)
              refine wpQuiet_nil ?_
              refine wpOrdT_nil ?_
              go_wp2_with fail
              obtain ⟨wz, hwz⟩ : ∃ W, setP2 (set3 wf g2 (.slice A6 (n + 1) c6) (.int .i64 (m : Int)) (.int .i64 (nx1 : Int))) g3 (.int .i64 (next : Int)) (.int .i64 (k0 : Int)) = W := ⟨_, rfl⟩
              have Z1 : Blk wz g2 90 #[.slice A6 (n + 1) c6, .int .i64 (m : Int), .int .i64 (nx1 : Int)] := by rw [← hwz]; exact setP2_far (set3_blk F2.out _ _ _) n3 _ _
              have Z2 : Blk wz g3 95 #[.int .i64 (next : Int), .int .i64 (k0 : Int)] := by rw [← hwz]; exact setP2_blk (set3_far F3.out n6 _ _ _) _ _
              have hw2 : w.heap.size ≤ g2 ∧ w.heap.size ≤ g3 := by omega
              have hg2d : g2 < wd.heap.size ∧ g3 < wd.heap.size := by omega
              have Z3 : Below w.heap.size w wz := by rw [← hwz]; exact setP2_below (set3_below F6.out hw2.1 _ _ _) hw2.2 _ _
              have Z4 : wz.ownsRow w.heap.size 95 2 (.slice A6 (n + 1) c6) (n + 1) (oneCells (L ++ [(next, k0)])) := by rw [← hwz]; exact own_base (setP2_own (set3_own F5.out (HOB.out g2 hg2d.1) _ _ _) (HOB.out g3 hg2d.2) _ _) HBD.out.size
              unfold setP2 set3 at hwz
              rw [hwz]
              obtain ⟨t0, t1, t2⟩ := fact3s Z1
              obtain ⟨t3, t4⟩ := fact2' Z2
              refine bodyPost_ret (v := .tuple #[.agg #[.slice A6 (n + 1) c6, .int .i64 (m : Int), .int .i64 (nx1 : Int)], .agg #[.int .i64 (next : Int), .int .i64 (k0 : Int)], .bool true]) (by simp [results, Try.results48, go_sem, t0, t1, t2, t3, t4]) rfl (HQ.out _ _ ⟨Z3, .inr ⟨HKM.out, A6, c6, by rw [HN1.out]; rfl, Z4⟩⟩)
            · skip
              go_wp2_with fail
              refine KT.past rfl ?_
              refine wpOrdT_op rfl ?_
              go_wp2_with fail
              refine KT.same ?_
              refine wpOrdT_op rfl ?_
              go_wp2_with fail
              refine KT.past rfl ?_
              refine wpOrdT_val rfl rfl ?_
              go_big_quiet_step (fail)
              refine wpQuiet_nil ?_
              refine wpOrdT_nil ?_
              go_wp2_with fail
              obtain ⟨wz, hwz⟩ : ∃ W, setP2 (set3 wf g2 (.slice A6 (n + 1) c6) (.int .i64 (m : Int)) (.int .i64 (nx1 : Int))) g3 (.int .i64 (next : Int)) (.int .i64 (k0 : Int)) = W := ⟨_, rfl⟩
              have Z1 : Blk wz g2 90 #[.slice A6 (n + 1) c6, .int .i64 (m : Int), .int .i64 (nx1 : Int)] := by rw [← hwz]; exact setP2_far (set3_blk F2.out _ _ _) n3 _ _
              have Z2 : Blk wz g3 95 #[.int .i64 (next : Int), .int .i64 (k0 : Int)] := by rw [← hwz]; exact setP2_blk (set3_far F3.out n6 _ _ _) _ _
              have hw2 : w.heap.size ≤ g2 ∧ w.heap.size ≤ g3 := by omega
              have hg2d : g2 < wd.heap.size ∧ g3 < wd.heap.size := by omega
              have Z3 : Below w.heap.size w wz := by rw [← hwz]; exact setP2_below (set3_below F6.out hw2.1 _ _ _) hw2.2 _ _
              have Z4 : wz.ownsRow w.heap.size 95 2 (.slice A6 (n + 1) c6) (n + 1) (oneCells (L ++ [(next, k0)])) := by rw [← hwz]; exact own_base (setP2_own (set3_own F5.out (HOB.out g2 hg2d.1) _ _ _) (HOB.out g3 hg2d.2) _ _) HBD.out.size
              unfold setP2 set3 at hwz
              rw [hwz]
              obtain ⟨t0, t1, t2⟩ := fact3s Z1
              obtain ⟨t3, t4⟩ := fact2' Z2
              refine bodyPost_ret (v := .tuple #[.agg #[.slice A6 (n + 1) c6, .int .i64 (m : Int), .int .i64 (nx1 : Int)], .agg #[.int .i64 (next : Int), .int .i64 (k0 : Int)], .bool true]) (by simp [results, Try.results48, go_sem, t0, t1, t2, t3, t4]) rfl (HQ.out _ _ ⟨Z3, .inr ⟨HKM.out, A6, c6, by rw [HN1.out]; rfl, Z4⟩⟩)
        · skip
          go_wp2_with fail
          have hsz5 := HBW.out.size
          obtain ⟨wc, gq, hw, hg, hb, hblk, hq1, hq2⟩ := alloc_step' wc 95 #[.int .i64 (next : Int), .int .i64 (k0 : Int)]
          rw [hw, hg]
          try replace HOE := hid (own_below HOE.out hb)
          try replace HO3 := hid (own_below HO3.out hb)
          try replace HB1 := hid (HB1.out.below hb HB1.out.lt)
          replace HBW := hid (HBW.out.trans (hb.mono HBW.out.size))
          have HB1 := hid hblk
          have s5 := hb.size
          clear hw hg hb hblk
          refine KT.keep (inBW HBW.out) ?_
          refine wpOrdT_op rfl ?_
          go_wp2_with fail
          have hsz := HBW.out.size
          obtain ⟨wc, ge, hw, hg, hb, hblk, he1, he2⟩ := alloc_step' wc 95 #[]
          rw [hw, hg]
          try replace HOE := hid (own_below HOE.out hb)
          try replace HO3 := hid (own_below HO3.out hb)
          try replace HB1 := hid (HB1.out.below hb HB1.out.lt)
          replace HBW := hid (HBW.out.trans (hb.mono HBW.out.size))
          have HOE : Hid (wc.ownsRow wd.heap.size 95 2 (.slice (some ⟨ge, 0, none⟩) 0 0) 0 []) := by
            rw [Hid, ← hw, ← hg]
            exact World.ownsRow_made (base := wd.heap.size) (e := 95) (size := 2) _ #[] 0 hsz (by simp [maxLen]) (by simp)
          have s0 := hb.size
          clear hw hg hb hblk
          refine KT.keep (inBW HBW.out) ?_
          refine wpOrdT_op rfl ?_
          have hrd := HR.out.below (HBD.out.trans (HBW.out.mono HBD.out.size))
          have hsz3 := HBW.out.size
          have hlc := HL.out
          go_wp2_with (at_builtin; refine wpList_appendR _ rfl _ _ 88 rfl wd.heap.size 95 _ 2 16 Try.underlying88 Try.infoOne rfl (by decide) _ _ _ rfl HOE.out A n c (oneCells L) rfl (by rw [oneCells_length, hlc]) hrd HA.out (oneCells_one L) (by omega) (by decide) hsz3 ?_)
          intro A3 c3 wc hown3 hk3 hf3
          have s3 := hk3.size
          have hb := hk3.below hsz3 (fun k hk => by simp [Value.ownBlock] at hk; omega)
          try replace HB1 := hid (hk3.blk HB1.out (fun hk => by simp [Value.ownBlock] at hk; omega))
          replace HBW : Hid (Below wd.heap.size wd wc) := hid (HBW.out.trans hb)
          have HO3 : Hid (wc.ownsRow wd.heap.size 95 2 (.slice A3 n c3) n (oneCells L)) := by rw [Hid]; simpa using hown3
          try rw [Nat.zero_add]
          clear hown3 hk3 hf3 hb HOE hrd hsz3 hlc
          go_wp2_with fail
          refine KT.keep (inBW HBW.out) ?_
          refine wpOrdT_op rfl ?_
          have hsz6 := HBW.out.size
          obtain ⟨c10, c11⟩ := fact2' HB1.out
          go_wp2_with (at_builtin; refine wpList_appendK _ rfl _ _ 88 rfl wd.heap.size 95 _ 2 16 Try.underlying88 Try.infoOne rfl (by decide) _ _ _ rfl HO3.out ⟨gq, 0, none⟩ 1 1 (oneCells [(next, k0)]) rfl rfl ?_ (oneCells_one _) (by omega) (by decide) hsz6 ?_)
          · intro j u hj
            rcases j with _ | _ | j
            · injection hj with hj; subst hj; exact c10
            · injection hj with hj; subst hj; exact c11
            · simp [oneCells] at hj
          intro A6 c6 wc hown6 hk6 hf6
          have hb := hk6.below hsz6 (fun k hk => (HO3.out.lt k hk).1)
          replace HBW : Hid (Below wd.heap.size wd wc) := hid (HBW.out.trans hb)
          have HO6 : Hid (wc.ownsRow wd.heap.size 95 2 (.slice A6 (n + 1) c6) (n + 1) (oneCells (L ++ [(next, k0)]))) := by rw [Hid, oneCells_app]; exact hown6
          clear hown6 hk6 hf6 hb HO3 HB1 hsz6 c10 c11
          go_wp2_with fail
          refine KT.keep (inBW HBW.out) ?_
          refine wpOrdT_val rfl rfl ?_
          go_big_quiet_step (fail)
          refine wpQuiet_nil ?_
          refine wpOrdT_op rfl ?_
          have HX := hid (HG1.out.below HBW.out HG1.out.lt)
          obtain ⟨x0, x1, x2⟩ := fact3s HX.out
          have y0 := HX.out.frozen 0; have y2 := HX.out.frozen 2; have hxl2 := HX.out.lt
          go_wp2_with fail
          refine KT.past rfl ?_
          refine wpOrdT_val rfl rfl ?_
          go_big_quiet_step (fail)
          refine wpQuiet_nil ?_
          refine wpOrdT_op rfl ?_
          go_wp2_with fail
          refine KT.past rfl ?_
          refine wpOrdT_nil ?_
          obtain ⟨we, hwe⟩ : ∃ W, (wc.setCell ⟨gx, 0, none⟩ (.slice A6 (n + 1) c6)).setCell ⟨gx, 2, none⟩ (.int .i64 ((next + 1 : Nat) : Int)) = W := ⟨_, rfl⟩
          have hwe2 : (wc.setCell ⟨gx, 0, none⟩ (.slice A6 (n + 1) c6)).setCell ⟨gx, 2, none⟩ (.int .i64 ((next : Int) + 1)) = we := hwe
          have E1 : Hid (Blk we gx 90 #[.slice A6 (n + 1) c6, .int .i64 (m : Int), .int .i64 ((next + 1 : Nat) : Int)]) := by
            rw [Hid, ← hwe]
            have h0 : Blk _ gx 90 #[.slice A6 (n + 1) c6, .int .i64 (m : Int), .int .i64 (next : Int)] := HX.out.set 0 _
            exact h0.set 2 _
          have E2 : Hid (Blk we g2 90 #[.slice none 0 0, .int .i64 0, .int .i64 0]) := by rw [Hid, ← hwe]; exact ((HG2.out.below HBW.out HG2.out.lt).set_far n4).set_far n4
          have E3 : Hid (Blk we g3 95 #[.int .i64 0, .int .i64 0]) := by rw [Hid, ← hwe]; exact ((HG3.out.below HBW.out HG3.out.lt).set_far n5).set_far n5
          have hyx : gy ≠ gx := by omega
          have E4 : Hid (Blk we gy 95 #[.int .i64 (next : Int), .int .i64 (k0 : Int)]) := by rw [Hid, ← hwe]; exact ((HGY.out.below HBW.out HGY.out.lt).set_far hyx).set_far hyx
          have hob : ∀ g, g < wd.heap.size → (Value.slice A6 (n + 1) c6).ownBlock ≠ some g := fun g hg h => by have := (HO6.out.lt g h).1; omega
          have E5 : Hid (we.ownsRow wd.heap.size 95 2 (.slice A6 (n + 1) c6) (n + 1) (oneCells (L ++ [(next, k0)]))) := by rw [Hid, ← hwe]; exact own_kept_set (own_kept_set HO6.out ⟨gx, 0, none⟩ _ (hob gx hxl)) ⟨gx, 2, none⟩ _ (hob gx hxl)
          have E6 : Hid (Below w.heap.size w we) := by rw [Hid, ← hwe]; exact ((HBD.out.trans (HBW.out.mono HBD.out.size)).setCell b5 _).setCell b5 _
          have HOB := hid hob
          have hnc : ((next : Int) + 1) = ((next + 1 : Nat) : Int) := by omega
          obtain ⟨nx1, hnx2⟩ : ∃ y, next + 1 = y := ⟨_, rfl⟩
          have hn1 : ((next : Int) + 1) = (nx1 : Int) := by omega
          have HN1 := hid hnx2
          rw [hwe2]
          rw [hnx2] at E1
          clear hwe hwe2 HX x0 x1 x2 y0 y2 hxl2 HBW HG1 HG2 HG3 HGY HO6 hob T0 T2 T3 T4 hnx2 hnc
          obtain ⟨x0, x1, x2⟩ := fact3s E1.out
          obtain ⟨v0, v1⟩ := fact2' E4.out
          have y0 := E2.out.frozen 0; have y1 := E2.out.frozen 1; have y2 := E2.out.frozen 2
          have z0 := E3.out.frozen 0; have z1 := E3.out.frozen 1
          have l2 := E2.out.lt; have l3 := E3.out.lt; have lx := E1.out.lt; have ly := E4.out.lt
          obtain ⟨q0, q1, q2⟩ := fact3s E2.out
          obtain ⟨r0, r1⟩ := fact2' E3.out
          have T0 : ∀ q : BW we.heap.size we, q.1.cell? ⟨gx, 0, none⟩ = some (.slice A6 (n + 1) c6) := fun q => q.cellAt lx x0
          have T1 : ∀ q : BW we.heap.size we, q.1.cell? ⟨gx, 1, none⟩ = some (.int .i64 (m : Int)) := fun q => q.cellAt lx x1
          have T2 : ∀ q : BW we.heap.size we, q.1.cell? ⟨gx, 2, none⟩ = some (.int .i64 (nx1 : Int)) := fun q => q.cellAt lx x2
          have hy23 : gy ≠ g2 ∧ gy ≠ g3 ∧ g2 ≠ gy ∧ g3 ≠ gy := by omega
          obtain ⟨m1, m2, m3, m4⟩ := hy23
          go_upto_region 8 with fail
          refine wp_region_ordT we.heap.size [2, 3] (.val 0 (.two 1 (.op 2 (.op 3 (.val 4 (.nil)))) 2 (.op 1 (.op 3 (.val 4 (.nil)))))) (by kernel_rfl) (by kernel_rfl) ?_
          obtain ⟨wf, hwf⟩ : ∃ W, we.drewN 1 = W := ⟨_, rfl⟩
          have HBW : Hid (Below we.heap.size we wf) := by rw [← hwf]; exact drewN_below we 1
          have F2 := hid (E2.out.below HBW.out l2); have F3 := hid (E3.out.below HBW.out l3); have F4 := hid (E4.out.below HBW.out ly)
          have F5 := hid (own_below E5.out HBW.out)
          have F6 : Hid (Below w.heap.size w wf) := hid (E6.out.trans (HBW.out.mono E6.out.size))
          rw [hwf]
          clear hwf y0 y1 y2 z0 z1 q0 q1 q2 r0 r1 v0 v1 l2 l3 ly x0 x1 x2
          have y0 := F2.out.frozen 0; have y1 := F2.out.frozen 1; have y2 := F2.out.frozen 2
          have z0 := F3.out.frozen 0; have z1 := F3.out.frozen 1
          have l2 := F2.out.lt; have l3 := F3.out.lt; have ly := F4.out.lt
          obtain ⟨q0, q1, q2⟩ := fact3s F2.out
          obtain ⟨r0, r1⟩ := fact2' F3.out
          obtain ⟨v0, v1⟩ := fact2' F4.out
          refine wpOrdT_load rfl rfl (inBW HBW.out) ?_
          go_big_quiet_step (fail)
          refine wpQuiet_nil ?_
          refine wpOrdT_two rfl rfl ?_ ?_
          · skip
            go_wp2_with fail
            refine KT.same ?_
            refine wpOrdT_op rfl ?_
            go_wp2_with fail
            refine KT.past rfl ?_
            refine wpOrdT_op rfl ?_
            go_wp2_with fail
            refine KT.past rfl ?_
            refine wpOrdT_val rfl rfl ?_
            go_big_quiet_step (fail)
            refine wpQuiet_nil ?_
            refine wpOrdT_nil ?_
            go_wp2_with fail
            obtain ⟨wz, hwz⟩ : ∃ W, setP2 (set3 wf g2 (.slice A6 (n + 1) c6) (.int .i64 (m : Int)) (.int .i64 (nx1 : Int))) g3 (.int .i64 (next : Int)) (.int .i64 (k0 : Int)) = W := ⟨_, rfl⟩
            have Z1 : Blk wz g2 90 #[.slice A6 (n + 1) c6, .int .i64 (m : Int), .int .i64 (nx1 : Int)] := by rw [← hwz]; exact setP2_far (set3_blk F2.out _ _ _) n3 _ _
            have Z2 : Blk wz g3 95 #[.int .i64 (next : Int), .int .i64 (k0 : Int)] := by rw [← hwz]; exact setP2_blk (set3_far F3.out n6 _ _ _) _ _
            have hw2 : w.heap.size ≤ g2 ∧ w.heap.size ≤ g3 := by omega
            have hg2d : g2 < wd.heap.size ∧ g3 < wd.heap.size := by omega
            have Z3 : Below w.heap.size w wz := by rw [← hwz]; exact setP2_below (set3_below F6.out hw2.1 _ _ _) hw2.2 _ _
            have Z4 : wz.ownsRow w.heap.size 95 2 (.slice A6 (n + 1) c6) (n + 1) (oneCells (L ++ [(next, k0)])) := by rw [← hwz]; exact own_base (setP2_own (set3_own F5.out (HOB.out g2 hg2d.1) _ _ _) (HOB.out g3 hg2d.2) _ _) HBD.out.size
            unfold setP2 set3 at hwz
            rw [hwz]
            obtain ⟨t0, t1, t2⟩ := fact3s Z1
            obtain ⟨t3, t4⟩ := fact2' Z2
            refine bodyPost_ret (v := .tuple #[.agg #[.slice A6 (n + 1) c6, .int .i64 (m : Int), .int .i64 (nx1 : Int)], .agg #[.int .i64 (next : Int), .int .i64 (k0 : Int)], .bool true]) (by simp [results, Try.results48, go_sem, t0, t1, t2, t3, t4]) rfl (HQ.out _ _ ⟨Z3, .inr ⟨HKM.out, A6, c6, by rw [HN1.out]; rfl, Z4⟩⟩)
          · skip
            go_wp2_with fail
            refine KT.past rfl ?_
            refine wpOrdT_op rfl ?_
            go_wp2_with fail
            refine KT.same ?_
            refine wpOrdT_op rfl ?_
            go_wp2_with fail
            refine KT.past rfl ?_
            refine wpOrdT_val rfl rfl ?_
            go_big_quiet_step (fail)
            refine wpQuiet_nil ?_
            refine wpOrdT_nil ?_
            go_wp2_with fail
            obtain ⟨wz, hwz⟩ : ∃ W, setP2 (set3 wf g2 (.slice A6 (n + 1) c6) (.int .i64 (m : Int)) (.int .i64 (nx1 : Int))) g3 (.int .i64 (next : Int)) (.int .i64 (k0 : Int)) = W := ⟨_, rfl⟩
            have Z1 : Blk wz g2 90 #[.slice A6 (n + 1) c6, .int .i64 (m : Int), .int .i64 (nx1 : Int)] := by rw [← hwz]; exact setP2_far (set3_blk F2.out _ _ _) n3 _ _
            have Z2 : Blk wz g3 95 #[.int .i64 (next : Int), .int .i64 (k0 : Int)] := by rw [← hwz]; exact setP2_blk (set3_far F3.out n6 _ _ _) _ _
            have hw2 : w.heap.size ≤ g2 ∧ w.heap.size ≤ g3 := by omega
            have hg2d : g2 < wd.heap.size ∧ g3 < wd.heap.size := by omega
            have Z3 : Below w.heap.size w wz := by rw [← hwz]; exact setP2_below (set3_below F6.out hw2.1 _ _ _) hw2.2 _ _
            have Z4 : wz.ownsRow w.heap.size 95 2 (.slice A6 (n + 1) c6) (n + 1) (oneCells (L ++ [(next, k0)])) := by rw [← hwz]; exact own_base (setP2_own (set3_own F5.out (HOB.out g2 hg2d.1) _ _ _) (HOB.out g3 hg2d.2) _ _) HBD.out.size
            unfold setP2 set3 at hwz
            rw [hwz]
            obtain ⟨t0, t1, t2⟩ := fact3s Z1
            obtain ⟨t3, t4⟩ := fact2' Z2
            refine bodyPost_ret (v := .tuple #[.agg #[.slice A6 (n + 1) c6, .int .i64 (m : Int), .int .i64 (nx1 : Int)], .agg #[.int .i64 (next : Int), .int .i64 (k0 : Int)], .bool true]) (by simp [results, Try.results48, go_sem, t0, t1, t2, t3, t4]) rfl (HQ.out _ _ ⟨Z3, .inr ⟨HKM.out, A6, c6, by rw [HN1.out]; rfl, Z4⟩⟩)
end Go.Proofs.Ytdbiodofofnpgaa
namespace Go.Proofs.Ytdbiodofofnpgaa
open Go.RowKit Go.Maps

theorem closeL_take (L : SlL) (id : Int) (k : Nat) (h : k < L.length) : closeL (L.take (k + 1)) id = closeL (L.take k) id ++ (if ((L[k]).1 : Int) = id then [] else [L[k]]) := by
  rw [List.take_add_one, List.getElem?_eq_getElem h]
  unfold closeL
  rw [List.filter_append]
  congr 1
  by_cases hx : ((L[k]).1 : Int) = id
  · simp [hx]
  · simp [hx]

set_option maxRecDepth 20000 in
set_option maxHeartbeats 4000000 in
theorem refCloseL_any (A : Option Addr) (n c m next : Nat) (L : SlL) (id : Int) (w : World) (hl : L.length = n) (hn : n ≤ 1024) (hr : Rd w A (oneCells L)) :
    Calls Try.prog 51 #[refS A n c m next, .int .i64 id] w fun e w' => ∃ A' c', e = .returned (refS A' (closeL L id).length c' m next) ∧ w'.ownsRow w.heap.size 95 2 (.slice A' (closeL L id).length c') (closeL L id).length (oneCells (closeL L id)) ∧ Below w.heap.size w w' := by
  have HL := hid hl; have HR := hid hr
  obtain ⟨Q, hQ⟩ : ∃ Q : Ending → World → Prop, (fun e w' => ∃ A' c', e = Ending.returned (refS A' (closeL L id).length c' m next) ∧ World.ownsRow w' w.heap.size 95 2 (.slice A' (closeL L id).length c') (closeL L id).length (oneCells (closeL L id)) ∧ Below w.heap.size w w') = Q := ⟨_, rfl⟩
  have HQ : Hid (∀ A' c' q (M : SlL) W, closeL L id = M → M.length = q → W.ownsRow w.heap.size 95 2 (.slice A' q c') q (oneCells M) → Below w.heap.size w W → Q (.returned (.agg #[.slice A' q c', .int .i64 (m : Int), .int .i64 (next : Int)])) W) := fun A' c' q M W h1 h2 h3 h4 => by
    rw [← hQ]; subst h2; subst h1; exact ⟨A', c', rfl, h3, h4⟩
  rw [hQ]
  clear hl hr hQ
  unfold refS
  go_enter Try.func51, Try.ntmps51
  go_upto_region 1 with fail
  have k1 := (Blk.new w 90 #[.slice A n c, .int .i64 (m : Int), .int .i64 (next : Int)]).alloc (.cells #[.slice none 0 0, .int .i64 0, .int .i64 0] 90)
  have k2 := Blk.new (w.alloc (.cells #[.slice A n c, .int .i64 (m : Int), .int .i64 (next : Int)] 90)) 90 #[.slice none 0 0, .int .i64 0, .int .i64 0]
  rw [World.size_alloc] at k2
  have k3 := ((Below.refl w.heap.size w).alloc (Nat.le_refl _) (.cells #[.slice A n c, .int .i64 (m : Int), .int .i64 (next : Int)] 90)).alloc (by simp) (.cells #[.slice none 0 0, .int .i64 0, .int .i64 0] 90)
  obtain ⟨w0, hw0⟩ : ∃ W, ((w.alloc (.cells #[.slice A n c, .int .i64 (m : Int), .int .i64 (next : Int)] 90)).alloc (.cells #[.slice none 0 0, .int .i64 0, .int .i64 0] 90)) = W := ⟨_, rfl⟩
  rw [hw0] at k1 k2 k3
  rw [hw0]
  clear hw0
  obtain ⟨gx, hgx⟩ : ∃ x, w.heap.size = x := ⟨_, rfl⟩
  have HGX := hid hgx
  have hgxw : w.heap.size ≤ gx := by omega
  rw [hgx] at k1 k2 ⊢
  obtain ⟨g4, hg4⟩ : ∃ x, gx + 1 = x := ⟨_, rfl⟩
  rw [hg4] at k2 ⊢
  have hne : gx ≠ g4 ∧ g4 ≠ gx ∧ gx ≤ g4 := by omega
  have hlt := k2.lt
  have hltx := k1.lt
  have HK1 := hid k1; have HK2 := hid k2; have HK3 := hid k3
  clear hgx hg4 k1 k2 k3
  go_upto_region 2 with fail
  obtain ⟨w1, ge, hw1, hge, hb, hblk, he1, he2⟩ := alloc_step' w0 95 #[]
  have HOE : Hid (w1.ownsRow w0.heap.size 95 2 (.slice (some ⟨ge, 0, none⟩) 0 0) 0 []) := by
    rw [Hid, ← hw1, ← hge]
    exact World.ownsRow_made (base := w0.heap.size) (e := 95) (size := 2) _ #[] 0 (Nat.le_refl _) (by simp [maxLen]) (by simp)
  rw [hw1, hge]
  have HB1 : Hid (Below w0.heap.size w0 w1) := hb
  clear hw1 hge hb hblk he1 he2
  go_wp2_with fail
  go_loopw [5, 6] (fun lv iv wr => ∃ (k q ck : Nat) (Ak : Option Addr) (M : SlL), lv = .slice Ak q ck ∧ iv = .int .i64 (k : Int) ∧ k ≤ n ∧ M.length = q ∧ q ≤ k ∧ closeL (L.take k) id = M ∧ wr.ownsRow w0.heap.size 95 2 (.slice Ak q ck) q (oneCells M) ∧ Below w0.heap.size w0 wr) (fun _ iv _ => n - (intOf iv).toNat)
  case atStart => exact ⟨0, 0, 0, some ⟨ge, 0, none⟩, [], rfl, rfl, Nat.zero_le _, rfl, Nat.le_refl _, rfl, HOE.out, HB1.out⟩
  case round =>
    obtain ⟨k, q, ck, Ak, M, rfl, rfl, hkn, hMq, hqk, hM, hown, hb⟩ := hrel
    have HMQ := hid hMq; have HM := hid hM; have HOW := hid hown; have HB := hid hb
    clear hMq hM hown hb HOE HB1
    obtain ⟨x0, x1, x2⟩ := fact3s (HK1.out.below HB.out hltx)
    by_cases hltk : k < n
    · obtain ⟨b, off, i, s, rfl, hbl, hget, d0, d1⟩ := one_cells (HR.out.below (HK3.out.trans (HB.out.mono HK3.out.size))) HL.out hltk
      have hkl : k < L.length := by rw [HL.out]; exact hltk
      have hx : L[k]'hkl = (i, s) := by rw [List.getElem?_eq_getElem hkl] at hget; injection hget
      have hd := closeL_take L id k hkl
      rw [hx, HM.out] at hd
      simp only at hd
      clear hget hx hkl
      by_cases hc : (i : Int) = id
      · subst hc
        rw [if_pos rfl, List.append_nil] at hd
        have HD := hid hd
        clear hd
        go_wp2_with fail
        go_roundw
        case rel => exact ⟨k + 1, q, ck, Ak, M, rfl, by go_num, by omega, HMQ.out, by omega, HD.out, HOW.out, HB.out⟩
        case measure => simp [intOf]; omega
      · rw [if_neg hc] at hd
        have HD := hid hd
        have hc2 : ((i : Int) == id) = false := by rw [beq_eq_false_iff_ne]; exact hc
        have hbs := HB.out.size
        clear hd
        go_wp2_with (at_builtin; refine wpList_append1K _ rfl _ _ 88 rfl w0.heap.size 95 _ 2 16 Try.underlying88 Try.infoOne rfl (by decide) _ _ _ rfl HOW.out 1 [.int .i64 (i : Int), .int .i64 (s : Int)] rfl rfl rfl ?_ (by decide) hbs ?_)
        · omega
        intro g5 c5 w5 hown5 hk5 hf5
        have HO5 : Hid (w5.ownsRow w0.heap.size 95 2 (.slice (some ⟨g5, 0, none⟩) (q + 1) c5) (q + 1) (oneCells (M ++ [(i, s)]))) := by rw [Hid, oneCells_app]; exact hown5
        have HB5 : Hid (Below w0.heap.size w0 w5) := HB.out.trans (hk5.below hbs (fun k hk => (HOW.out.lt k hk).1))
        clear hown5 hk5 hf5 x0 x1 x2
        go_wp2_with fail
        go_roundw
        case rel => exact ⟨k + 1, q + 1, c5, some ⟨g5, 0, none⟩, M ++ [(i, s)], rfl, by go_num, by omega, by rw [List.length_append, HMQ.out]; rfl, by omega, HD.out, HO5.out, HB5.out⟩
        case measure => simp [intOf]; omega
    · have hkn2 : k = n := by omega
      have HE : Hid (closeL L id = M) := by
        have := HM.out
        rw [hkn2, ← HL.out, List.take_length] at this
        exact this
      clear hkn2
      have hx := HK1.out.below HB.out hltx
      have hz := HK2.out.below HB.out hlt
      have y0 := hx.frozen 0
      have hxl := hx.lt
      have HX := hid hx; have HZ := hid hz
      have hb2 : Below w.heap.size w wr := HK3.out.trans (HB.out.mono HK3.out.size)
      have HB2 := hid hb2
      have hob : ∀ g, g < w0.heap.size → (Value.slice Ak q ck).ownBlock ≠ some g := fun g hg h => by have := (HOW.out.lt g h).1; omega
      have HOB := hid hob
      clear hx hz hob hb2
      go_upto_region 8 with fail
      obtain ⟨w2, hw2⟩ : ∃ W, wr.setCell ⟨gx, 0, none⟩ (.slice Ak q ck) = W := ⟨_, rfl⟩
      have Z1 : Blk w2 gx 90 #[.slice Ak q ck, .int .i64 (m : Int), .int .i64 (next : Int)] := by rw [← hw2]; exact HX.out.set 0 _
      have Z2 : Hid (Blk w2 g4 90 #[.slice none 0 0, .int .i64 0, .int .i64 0]) := by rw [← hw2]; exact HZ.out.set_far hne.2.1
      have Z3 : Hid (w2.ownsRow w0.heap.size 95 2 (.slice Ak q ck) q (oneCells M)) := by rw [Hid, ← hw2]; exact own_kept_set HOW.out ⟨gx, 0, none⟩ _ (HOB.out gx hltx)
      have Z4 : Hid (Below w.heap.size w w2) := by rw [← hw2]; exact HB2.out.setCell hgxw _
      rw [hw2]
      clear hw2 x0 x1 x2 y0 hxl HX HZ
      obtain ⟨x0, x1, x2⟩ := fact3s Z1
      have zl := Z2.out.lt
      have z0 := Z2.out.frozen 0; have z1 := Z2.out.frozen 1; have z2 := Z2.out.frozen 2
      obtain ⟨q0, q1, q2⟩ := fact3s Z2.out
      go_wp2_with fail
      obtain ⟨wz, hwz⟩ : ∃ W, set3 w2 g4 (.slice Ak q ck) (.int .i64 (m : Int)) (.int .i64 (next : Int)) = W := ⟨_, rfl⟩
      have Y1 : Blk wz g4 90 #[.slice Ak q ck, .int .i64 (m : Int), .int .i64 (next : Int)] := by rw [← hwz]; exact set3_blk Z2.out _ _ _
      have Y2 : wz.ownsRow w.heap.size 95 2 (.slice Ak q ck) q (oneCells M) := by rw [← hwz]; exact own_base (set3_own Z3.out (HOB.out g4 hlt) _ _ _) HK3.out.size
      have Y3 : Below w.heap.size w wz := by rw [← hwz]; exact set3_below Z4.out (Nat.le_trans hgxw hne.2.2) _ _ _
      unfold set3 at hwz
      rw [hwz]
      obtain ⟨t0, t1, t2⟩ := fact3s Y1
      exact bodyPost_ret (v := .agg #[.slice Ak q ck, .int .i64 (m : Int), .int .i64 (next : Int)]) (by simp [results, Try.results51, go_sem, t0, t1, t2]) rfl (HQ.out Ak ck q M wz HE.out HMQ.out Y2 Y3)
end Go.Proofs.Ytdbiodofofnpgaa
namespace Go.Proofs.Ytdbiodofofnpgaa
open Go.RowKit Go.Maps

theorem whoV_pos (z : Int) (h : z ≠ -1) : whoV z = z := if_neg h
theorem slot_read {w : World} {A : Option Addr} {l : List Int} {n k : Nat} (hr : Rd w A (intCells l)) (hl : l.length = n) (hk : k < n) : ∃ b off, A = some ⟨b, off, none⟩ ∧ b < w.heap.size ∧ w.cell? ⟨b, off + k, none⟩ = some (.int .i64 (l[k]'(by omega))) := by
  subst hl
  obtain ⟨b, off, rfl, hb, hc⟩ := hr.at (by rw [intCells]; simp; omega)
  exact ⟨b, off, rfl, hb, hc _ _ (by rw [intCells, List.getElem?_map, List.getElem?_eq_getElem hk]; rfl)⟩

set_option maxRecDepth 20000 in
set_option maxHeartbeats 4000000 in
theorem told28_any (g gw gm base m next : Nat) (L : SlL) (A : Option Addr) (c : Nat) (z : Int) (hz : (Lit.int .i64 z).wf = true) (w : World) (hs : SL w g gw gm base m L next) (hr : Rd w A (oneCells L)) :
    Calls Try.prog 52 #[.pointer (some ⟨g, 0, none⟩), refS A L.length c m next, .int .i64 z] w fun e w' => e = .returned (.bool true) ∧ Below w.heap.size w w' := by
  obtain ⟨n, hn⟩ : ∃ n, L.length = n := ⟨_, rfl⟩
  have HN := hid hn
  have HOK := hid hs.ok
  have hm : m ≤ 1024 := hs.ok.2.1
  have hnm : n ≤ m := by have := hs.ok.1.le; omega
  have hnx : next ≤ 4096 := hs.ok.2.2.2
  have HS := hid hs; have HR := hid hr
  have C1 := hid (fun W (hW : Below w.heap.size w W) => slSlot_any z (HS.out.below hW) hz)
  have C2 := hid (fun W (hW : Below w.heap.size w W) => slWho_any z (HS.out.below hW))
  have C3 := hid (fun W (hW : Below w.heap.size w W) => refSlot_any A n c m next L z W hn (by omega) (HR.out.below hW))
  have C4 := hid (fun W (hW : Below w.heap.size w W) => refWho_any A n c m next L z W hn (by omega) (HR.out.below hW))
  have C5 := hid (fun W (hW : Below w.heap.size w W) => slLive_any (HS.out.below hW))
  have C6 := hid (fun W (hW : Below w.heap.size w W) => slFree_any (HS.out.below hW))
  have C7 := hid (fun W (hW : Below w.heap.size w W) => slNext_any (HS.out.below hW))
  rw [hn] at C5 C6 ⊢
  have e1 := slotZ_is L z
  have e2 := whoR_is HOK.out.1 z
  rw [e2] at C4
  rw [e1.1, e1.2] at C1
  unfold refS at C3 C4 ⊢
  obtain ⟨a, ha⟩ : ∃ y, slotZ L z = y := ⟨_, rfl⟩
  obtain ⟨b, hb⟩ : ∃ y, whoZ m L z = y := ⟨_, rfl⟩
  have hb1 : -1 ≤ b := by
    rw [← hb]; unfold whoZ
    split
    · exact whoAt_ge _ _
    · omega
  rw [ha] at C1 C3
  rw [hb] at C2 C4
  clear hn hs hr e1 e2 ha hb hz
  have HL := HN
  by_cases ha0 : 0 ≤ a
  all_goals by_cases hb0 : b = -1
  all_goals
    first | rw [if_pos ha0] at C1 | rw [if_neg ha0] at C1
    first | rw [decide_eq_true ha0] at C1 | rw [decide_eq_false ha0] at C1
    first | (rw [hb0] at C2 C4; rw [show whoV (-1) = 0 from rfl, show decide ((-1 : Int) ≠ -1) = false from rfl] at C2) | (rw [whoV_pos b hb0, decide_eq_true hb0] at C2; have hb2 : 0 ≤ b := by omega)
  all_goals clear hb0
  all_goals try clear hb1
  all_goals
    go_enter Try.func52, Try.ntmps52
    go_upto_region 1 with fail
    obtain ⟨w0, gx, hw0, hg, hb, hblk, hg1, hg2⟩ := alloc_step' w 90 #[.slice A n c, .int .i64 (m : Int), .int .i64 (next : Int)]
    rw [hw0, hg]
    have HB := hid hb
    have HX := hid hblk
    clear hw0 hg hb hblk
    go_wp2_with fail
    refine (C1.out _ HB.out).mono ?_
    rintro en w1 ⟨rfl, rfl⟩
    go_wp2_with fail
    refine (C2.out _ HB.out).mono ?_
    rintro en w1 ⟨rfl, rfl⟩
    clear C1 C2
    go_upto_region 3 with fail
    obtain ⟨p0, p1, p2⟩ := fact3s HX.out
    have hxl := HX.out.lt
    have T0 : ∀ q : BW w0.heap.size w0, q.1.cell? ⟨gx, 0, none⟩ = some (.slice A n c) := fun q => q.cellAt hxl p0
    have T1 : ∀ q : BW w0.heap.size w0, q.1.cell? ⟨gx, 1, none⟩ = some (.int .i64 (m : Int)) := fun q => q.cellAt hxl p1
    have T2 : ∀ q : BW w0.heap.size w0, q.1.cell? ⟨gx, 2, none⟩ = some (.int .i64 (next : Int)) := fun q => q.cellAt hxl p2
    clear p0 p1 p2
    refine wp_region_ordT w0.heap.size [] (.val 0 (.val 1 (.val 3 (.val 4 (.val 6 (.op 2 (.op 5 (.op 7 (.val 8 (.val 9 (.val 10 (.nil)))))))))))) (by kernel_rfl) (by kernel_rfl) ?_
    obtain ⟨wc, hwc⟩ : ∃ W, w0.drewN 1 = W := ⟨_, rfl⟩
    have HBW : Hid (Below w0.heap.size w0 wc) := by rw [← hwc]; exact drewN_below w0 1
    rw [hwc]
    clear hwc
    refine wpOrdT_load rfl rfl (inBW HBW.out) ?_
    go_big_quiet_step (fail)
    refine wpQuiet_nil ?_
    refine wpOrdT_val rfl rfl ?_
    go_big_quiet_step (fail)
    refine wpQuiet_nil ?_
    refine wpOrdT_load rfl rfl (inBW HBW.out) ?_
    go_big_quiet_step (fail)
    refine wpQuiet_nil ?_
    refine wpOrdT_val rfl rfl ?_
    go_big_quiet_step (fail)
    refine wpQuiet_nil ?_
    refine wpOrdT_val rfl rfl ?_
    go_big_quiet_step (fail)
    refine wpQuiet_nil ?_
    refine wpOrdT_op rfl ?_
    go_wp2_with fail
    have hbb := HB.out.trans (HBW.out.mono HB.out.size)
    refine (C3.out _ hbb).mono ?_
    rintro en wc ⟨rfl, hb⟩
    clear hbb
    replace HBW := hid (HBW.out.trans (hb.mono HBW.out.size))
    clear hb C3
    go_wp2_with fail
    refine KT.keep (inBW HBW.out) ?_
    refine wpOrdT_op rfl ?_
    go_wp2_with fail
    have hbb := HB.out.trans (HBW.out.mono HB.out.size)
    refine (C4.out _ hbb).mono ?_
    rintro en wc ⟨rfl, hb⟩
    clear hbb
    replace HBW := hid (HBW.out.trans (hb.mono HBW.out.size))
    clear hb C4
    go_wp2_with fail
    refine KT.keep (inBW HBW.out) ?_
    refine wpOrdT_op rfl ?_
    go_wp2_with fail
    have hbb := HB.out.trans (HBW.out.mono HB.out.size)
    refine (C5.out _ hbb).mono ?_
    rintro en wc ⟨A5, c5, rfl, hown5, hb⟩
    clear hbb
    replace HBW := hid (HBW.out.trans (hb.mono HBW.out.size))
    have HO5 := hid hown5
    clear hown5 hb C5
    go_wp2_with fail
    refine KT.keep (inBW HBW.out) ?_
    refine wpOrdT_val rfl rfl ?_
    go_big_quiet_step (fail)
    refine wpQuiet_nil ?_
    refine wpOrdT_val rfl rfl ?_
    go_big_quiet_step (fail)
    refine wpQuiet_nil ?_
    refine wpOrdT_val rfl rfl ?_
    go_big_quiet_step (fail)
    refine wpQuiet_nil ?_
    refine wpOrdT_nil ?_
    have HXC := hid (HX.out.below HBW.out hxl)
    have HBC : Hid (Below w.heap.size w wc) := hid (HB.out.trans (HBW.out.mono HB.out.size))
    have HR5 := hid (Rd_of_own HO5.out)
    clear T0 T1 T2 HX HB HBW HO5 hxl
    obtain ⟨p0, p1, p2⟩ := fact3s HXC.out
    go_wp2_with fail
    go_loopw [14] (fun iv wr => ∃ k : Nat, k ≤ n ∧ iv = .int .i64 (k : Int) ∧ Below wc.heap.size wc wr) (fun iv _ => n - (intOf iv).toNat)
    case atStart => exact ⟨0, Nat.zero_le _, rfl, Below.refl _ _⟩
    case round =>
      obtain ⟨k, hk, rfl, hbr⟩ := hrel
      have HBR := hid hbr
      have HXR := hid (HXC.out.below hbr HXC.out.lt)
      have HBT : Hid (Below w.heap.size w wr) := hid (HBC.out.trans (hbr.mono HBC.out.size))
      have HR6 := hid (HR5.out.below hbr)
      obtain ⟨p0, p1, p2⟩ := fact3s HXR.out
      have hxl := HXR.out.lt
      clear hbr
      by_cases hlt : k < n
      · obtain ⟨bb, off, i, s, rfl, hbl, hget, d0, d1⟩ := one_cells (HR.out.below HBT.out) HL.out hlt
        have hkl : k < L.length := by rw [HL.out]; exact hlt
        have hx : L[k]'hkl = (i, s) := by rw [List.getElem?_eq_getElem hkl] at hget; injection hget
        obtain ⟨b5, off5, hA5, hbl5, hc5⟩ := slot_read HR6.out (by rw [List.length_map, HL.out]) hlt
        rw [List.getElem_map, hx] at hc5
        simp only at hc5
        subst hA5
        clear hx hget hkl d1
        have T3 : ∀ q : BW wr.heap.size wr, q.1.cell? ⟨gx, 0, none⟩ = some (.slice (some ⟨bb, off, none⟩) n c) := fun q => q.cellAt hxl p0
        have T4 : ∀ q : BW wr.heap.size wr, q.1.cell? ⟨bb, off + k * 2, none⟩ = some (.int .i64 (i : Int)) := fun q => q.cellAt hbl d0
        have T5 : ∀ q : BW wr.heap.size wr, q.1.cell? ⟨b5, off5 + k, none⟩ = some (.int .i64 (i : Int)) := fun q => q.cellAt hbl5 hc5
        clear p0 p1 p2 d0 hc5 hbl hbl5 hxl
        go_upto_region 9 with fail
        refine wp_region_below wr.heap.size (by kernel_rfl) (by kernel_rfl) ?_
        repeat (go_big_quiet_step (fail))
        refine wpQuiet_nil ?_
        intro wu hqu
        have HBU : Hid (Below wc.heap.size wc wu) := by obtain ⟨q, rfl⟩ := hqu; exact HBR.out.trans (q.2.mono HBR.out.size)
        clear hqu T3 T4 T5
        go_wp2_with fail
        go_roundw
        case rel => exact ⟨k + 1, by omega, by go_num, HBU.out⟩
        case measure => simp [intOf]; omega
      · have hkn : k = n := by omega
        subst hkn
        have T0 : ∀ q : BW wr.heap.size wr, q.1.cell? ⟨gx, 0, none⟩ = some (.slice A k c) := fun q => q.cellAt hxl p0
        have T1 : ∀ q : BW wr.heap.size wr, q.1.cell? ⟨gx, 1, none⟩ = some (.int .i64 (m : Int)) := fun q => q.cellAt hxl p1
        have T2 : ∀ q : BW wr.heap.size wr, q.1.cell? ⟨gx, 2, none⟩ = some (.int .i64 (next : Int)) := fun q => q.cellAt hxl p2
        have CF := hid (fun (q : BW wr.heap.size wr) => C6.out q.1 (HBT.out.trans (q.2.mono HBT.out.size)))
        have CN := hid (fun (q : BW wr.heap.size wr) => (C7.out q.1 (HBT.out.trans (q.2.mono HBT.out.size))))
        clear p0 p1 p2 hxl C6 C7 HR5 HR6
        go_upto_region 11 with fail
        refine wp_region_below wr.heap.size (by kernel_rfl) (by kernel_rfl) ?_
        repeat (go_big_quiet_step (first | (go_at_call 45; exact callBWq (Nat.le_refl _) CF.out _) | (go_at_call 92; exact callSame (CN.out _))))
        refine wpQuiet_nil ?_
        intro wu hqu
        have HBU : Hid (Below w.heap.size w wu) := by obtain ⟨q, rfl⟩ := hqu; exact HBT.out.trans (q.2.mono HBT.out.size)
        clear hqu T0 T1 T2 CF CN
        go_wp2_with fail
        go_ret
        exact ⟨rfl, HBU.out⟩
end Go.Proofs.Ytdbiodofofnpgaa
