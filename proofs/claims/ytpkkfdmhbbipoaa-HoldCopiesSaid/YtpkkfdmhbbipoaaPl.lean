/- The walk of HoldFinds. Walks: the reference of layer 19: New, Begin; the law's 'same'. The walk of the reference's look. A window with its ring, beside the reference's window. A window with its ring, the reference's window, and blocks beside them. The arguments of a law, opened: what happens to a window. -/
import Derived.Test.YtpkkfdmhbbipoaaPk
import Derived.Test.YtpkkfdmhbbipoaaMh
import Derived.Test.YtpkkfdmhbbipoaaMl
import Derived.Test.YtpkkfdmhbbipoaaPc
import Derived.Test.YtpkkfdmhbbipoaaPa
namespace Go.Proofs.Ytpkkfdmhbbipoaa
open Go.RowKit PopT

end Go.Proofs.Ytpkkfdmhbbipoaa
namespace Go.Proofs.Ytpkkfdmhbbipoaa
open Go.RowKit PopT

/-- The reference's window as a value. -/
def refV (win : Nat) (S : List UInt8) (seen : Nat) (v : Value) : Value := .agg #[.int .i64 (win : Int), .string (rgT S), .int .i64 (seen : Int), v]

theorem withinR_any (x : Int) (m : Nat) (w : World) (hm : m = 4096) : Calls Try.prog 42 #[.int .i64 x, .int .i64 1, .int .i64 (m : Int)] w fun e w' => e = .returned (.int .i64 (clampN x m : Nat)) ∧ w = w' := by
  subst hm
  by_cases c1 : x < 1
  · rw [show clampN x 4096 = 1 from if_pos c1]
    go_enter Try.func42, Try.ntmps42
    go_wp2
    go_ret
    exact ⟨rfl, rfl⟩
  · by_cases c2 : (4096 : Int) < x
    · rw [show clampN x 4096 = 4096 from by rw [clampN, if_neg c1, if_pos (by omega)]]
      go_enter Try.func42, Try.ntmps42
      go_wp2
      go_ret
      exact ⟨rfl, rfl⟩
    · have e : ((clampN x 4096 : Nat) : Int) = x := by rw [clampN, if_neg c1, if_neg (by omega)]; omega
      rw [e]
      go_enter Try.func42, Try.ntmps42
      go_wp2
      go_ret
      exact ⟨rfl, rfl⟩

set_option maxRecDepth 20000 in
theorem refNew_any (x : Int) (w : World) : Calls Try.prog 22 #[.int .i64 x] w fun e w' => e = .returned (refV (clampN x 4096) [] 0 (.slice none 0 0)) ∧ Below w.heap.size w w' := by
  have C1 := hid (fun W => withinR_any x 4096 W rfl)
  obtain ⟨m, hm⟩ : ∃ m, clampN x 4096 = m := ⟨_, rfl⟩
  rw [hm] at C1 ⊢
  clear hm
  go_enter Try.func22, Try.ntmps22
  go_wp2_with fail
  refine (C1.out _).mono ?_
  rintro en w1 ⟨rfl, rfl⟩
  clear C1
  go_wp2_with fail
  refine bodyPost_ret (v := refV m [] 0 (.slice none 0 0)) (by simp [results, Try.results22, go_sem, refV, rgT]) rfl ⟨rfl, ?_⟩
  first
    | exact (Below.refl _ _).alloc (Nat.le_refl _) _
    | exact ((((((Below.refl _ _).alloc (Nat.le_refl _) _).setCell (Nat.le_refl _) _).setCell (Nat.le_refl _) _).setCell (Nat.le_refl _) _).setCell (Nat.le_refl _) _)

set_option maxRecDepth 20000 in
set_option maxHeartbeats 1600000 in
theorem same19_any (m f : Bool) (k n r : Nat) (w : World) :
    Calls Try.prog 29 #[foundV m f k n r, foundV m f k n r] w fun e w' => e = .returned (.bool true) ∧ Below w.heap.size w w' := by
  have e1 : (m == m) = true := by simp
  have e2 : (f == f) = true := by simp
  unfold foundV
  go_enter Try.func29, Try.ntmps29
  go_wp2_with fail
  go_ret
  exact ⟨rfl, below2' _ _ _⟩

theorem Lists.keepX {base b2 : Nat} {G : Nat → Prop} {w w' : World} {ls : List (List Item)} {vs : List Value} (h : Lists base w ls vs) (hk : Keep G w w') (hb : b2 ≤ base) (hg : ∀ k, base ≤ k → k < w.heap.size → ¬ G k) : Lists b2 w' ls vs := by
  refine ⟨h.1, fun i l hi => ?_⟩
  obtain ⟨A, c, hv, ho⟩ := h.2 i l hi
  exact ⟨A, c, hv, own_base (hk.own ho (fun k hv => hg k (ho.lt k hv).1 (ho.lt k hv).2)) hb⟩
/-- Patterns in memory, and where. -/
def PatV (base : Nat) (w : World) (ls : List (List Item)) (v : Value) : Prop := ∃ A c vs, v = .slice A ls.length c ∧ w.ownsRow base 121 1 v ls.length vs ∧ Lists base w ls vs
theorem PatV.keep {base b2 : Nat} {G : Nat → Prop} {w w' : World} {ls : List (List Item)} {v : Value} (h : PatV base w ls v) (hk : Keep G w w') (hb : b2 ≤ base) (hg : ∀ k, base ≤ k → k < w.heap.size → ¬ G k) : PatV b2 w' ls v := by
  obtain ⟨A, c, vs, rfl, h1, h2⟩ := h
  exact ⟨A, c, vs, rfl, own_base (hk.own h1 (fun k hv => hg k (h1.lt k hv).1 (h1.lt k hv).2)) hb, h2.keepX hk hb hg⟩
theorem PatV.below {base b2 : Nat} {w w' : World} {ls : List (List Item)} {v : Value} (h : PatV base w ls v) (hk : Below w.heap.size w w') (hb : b2 ≤ base) : PatV b2 w' ls v := h.keep (G := fun _ => False) (Keep.of_below hk) hb (fun _ _ _ h => h)
def RefB (win seen : Nat) (S : List UInt8) (v : Value) (R : List (List Item) × Nat × Nat) (w : World) (e : Ending) (w' : World) : Prop := Below w.heap.size w w' ∧
      ((R.2.2 ≠ 0 ∧ e = .returned (.tuple #[refV win S seen v, .int .i64 ((R.2.2 : Nat) : Int)])) ∨
       (R.2.2 = 0 ∧ ∃ v', e = .returned (.tuple #[refV win S 0 v', .int .i64 0]) ∧ PatV w.heap.size w' R.1 v'))

set_option maxRecDepth 20000 in
set_option maxHeartbeats 1600000 in
theorem refBegin_any (win seen : Nat) (S : List UInt8) (v : Value) (A : Option Addr) (n c : Nat) (ps : List ByteArray) (w : World) (hv : ∃ A n c, v = .slice A n c) (hl : ps.length = n) (hn : n ≤ 1000) (hp : ∀ p ∈ ps, p.size ≤ 1000000) (hr : Rd w A (textCells ps)) :
    Calls Try.prog 24 #[refV win S seen v, .slice A n c] w fun e w' => RefB win seen S v (newM ps) w e w' := by
  obtain ⟨A0, n0, c0, rfl⟩ := hv
  have C1 := hid (fun W (hW : Below w.heap.size w W) => newF_any A n c ps W hl hn hp (hr.below hW))
  obtain ⟨⟨ls, i, e⟩, hR⟩ : ∃ R, newM ps = R := ⟨_, rfl⟩
  rw [hR] at C1 ⊢
  obtain ⟨Q, hQ⟩ : ∃ Q : Ending → World → Prop, RefB win seen S (.slice A0 n0 c0) (ls, i, e) w = Q := ⟨_, rfl⟩
  have HQ := hid hQ
  rw [show (fun e' w' => RefB win seen S (.slice A0 n0 c0) (ls, i, e) w e' w') = Q from hQ]
  obtain ⟨ts, hts⟩ : ∃ x, rgT S = x := ⟨_, rfl⟩
  have HTS := hid hts
  unfold refV
  rw [hts]
  clear hR hl hn hp hr hts hQ
  go_enter Try.func24, Try.ntmps24
  go_upto_region 1 with fail
  obtain ⟨w0, hw0⟩ : ∃ W, (w.alloc (.cells #[.int .i64 (win : Int), .string ts, .int .i64 (seen : Int), .slice A0 n0 c0] 51)).alloc (.cells #[.int .i64 0, .string ⟨#[]⟩, .int .i64 0, .slice none 0 0] 51) = W := ⟨_, rfl⟩
  have HB0 : Hid (Below w.heap.size w w0) := by rw [← hw0]; exact below2' _ _ _
  have HG0 : Hid (Blk w0 w.heap.size 51 #[.int .i64 (win : Int), .string ts, .int .i64 (seen : Int), .slice A0 n0 c0]) := by rw [← hw0]; exact (Blk.new w _ _).alloc _
  have HF0 : Hid (Blk w0 (w.heap.size + 1) 51 #[.int .i64 0, .string ⟨#[]⟩, .int .i64 0, .slice none 0 0]) := by rw [← hw0]; exact new2' _ _ _ _
  rw [hw0]
  clear hw0
  obtain ⟨gh, hgh⟩ : ∃ x, w.heap.size = x := ⟨_, rfl⟩
  have HGH := hid hgh
  rw [hgh] at HG0 HF0 ⊢
  obtain ⟨gr, hgr⟩ : ∃ x, gh + 1 = x := ⟨_, rfl⟩
  rw [hgr] at HF0 ⊢
  have hne : gh ≠ gr := by omega
  have hghle : w.heap.size ≤ gh ∧ w.heap.size ≤ gr := by omega
  clear hgh hgr
  have C2 := hid (C1.out w0 HB0.out)
  have HLT : Hid (gh < w0.heap.size ∧ gr < w0.heap.size) := ⟨HG0.out.lt, HF0.out.lt⟩
  clear C1
  go_wp2_with fail
  refine C2.out.mono ?_
  rintro en w1 ⟨A', c', vs, rfl, hown, hls, hb1⟩
  have HO := hid hown; have HL := hid hls
  have HB1 : Hid (Below w.heap.size w w1) := HB0.out.trans (hb1.mono HB0.out.size)
  have HG1 := hid (HG0.out.below hb1 HG0.out.lt)
  have HF1 := hid (HF0.out.below hb1 HF0.out.lt)
  have hs01 : w.heap.size ≤ w0.heap.size := HB0.out.size
  clear C2 hown hls hb1 HG0 HF0 HB0
  obtain ⟨g0, g1, g2, g3⟩ := fact4 HG1.out
  have y2 := HG1.out.frozen 2; have y3 := HG1.out.frozen 3
  have z0 := HF1.out.frozen 0; have z1 := HF1.out.frozen 1; have z2 := HF1.out.frozen 2; have z3 := HF1.out.frozen 3
  obtain ⟨t0, t1, t2, t3⟩ := fact4 HF1.out
  have gl := HG1.out.lt; have fl := HF1.out.lt
  simp only at HO HL
  have HPV : Hid (PatV w0.heap.size w1 ls (.slice A' ls.length c')) := ⟨A', c', vs, rfl, HO.out, HL.out⟩
  have hgf : gh < w0.heap.size ∧ gr < w0.heap.size := HLT.out
  obtain ⟨nl, hnl⟩ : ∃ x, ls.length = x := ⟨_, rfl⟩
  simp only [hnl]
  rw [hnl] at HPV
  clear hnl HO HL
  by_cases he : e = 0
  · subst he
    go_wp2_with fail
    obtain ⟨wz, hwz⟩ : ∃ W, set4 (((w1.setCell ⟨gh, 3, none⟩ (.slice A' nl c')).setCell ⟨gh, 2, none⟩ (.int .i64 0))) gr (.int .i64 (win : Int)) (.string ts) (.int .i64 0) (.slice A' nl c') = W := ⟨_, rfl⟩
    have Z1 : Blk wz gr 51 #[.int .i64 (win : Int), .string ts, .int .i64 0, .slice A' nl c'] := by
      rw [← hwz]; exact set4_blk (((HF1.out.set_far hne.symm).set_far hne.symm)) _ _ _ _
    have ZB : Below w.heap.size w wz := by
      rw [← hwz]; exact set4_below ((HB1.out.setCell hghle.1 _).setCell hghle.1 _) hghle.2 _ _ _ _
    have ZK : Keep (fun k => k = gh ∨ k = gr) w1 wz := by
      rw [← hwz]
      unfold set4
      exact (((((Keep.setCell _ w1 ⟨gh, 3, none⟩ _ (.inl rfl)).trans (Keep.setCell (fun k => k = gh ∨ k = gr) _ ⟨gh, 2, none⟩ _ (.inl rfl)) (fun _ => .inl)).trans (Keep.setCell (fun k => k = gh ∨ k = gr) _ ⟨gr, 0, none⟩ _ (.inr rfl)) (fun _ => .inl)).trans (Keep.setCell (fun k => k = gh ∨ k = gr) _ ⟨gr, 1, none⟩ _ (.inr rfl)) (fun _ => .inl)).trans (Keep.setCell (fun k => k = gh ∨ k = gr) _ ⟨gr, 2, none⟩ _ (.inr rfl)) (fun _ => .inl)).trans (Keep.setCell (fun k => k = gh ∨ k = gr) _ ⟨gr, 3, none⟩ _ (.inr rfl)) (fun _ => .inl)
    unfold set4 at hwz
    rw [hwz]
    obtain ⟨r0, r1, r2, r3⟩ := fact4 Z1
    refine bodyPost_ret (v := .tuple #[.agg #[.int .i64 (win : Int), .string ts, .int .i64 0, .slice A' nl c'], .int .i64 0]) (by simp [results, Try.results24, go_sem, r0, r1, r2, r3]) rfl ?_
    rw [← HQ.out]
    exact ⟨ZB, .inr ⟨rfl, .slice A' nl c', by rw [refV, HTS.out]; rfl, HPV.out.keep ZK hs01 (fun k h1 h2 h3 => by omega)⟩⟩
  · have he0 : ((e : Int) == 0) = false := by rw [beq_eq_false_iff_ne]; omega
    go_wp2_with fail
    obtain ⟨wz, hwz⟩ : ∃ W, set4 w1 gr (.int .i64 (win : Int)) (.string ts) (.int .i64 (seen : Int)) (.slice A0 n0 c0) = W := ⟨_, rfl⟩
    have Z1 : Blk wz gr 51 #[.int .i64 (win : Int), .string ts, .int .i64 (seen : Int), .slice A0 n0 c0] := by rw [← hwz]; exact set4_blk HF1.out _ _ _ _
    have ZB : Below w.heap.size w wz := by rw [← hwz]; exact set4_below HB1.out hghle.2 _ _ _ _
    unfold set4 at hwz
    rw [hwz]
    obtain ⟨r0, r1, r2, r3⟩ := fact4 Z1
    exact bodyPost_ret (v := .tuple #[.agg #[.int .i64 (win : Int), .string ts, .int .i64 (seen : Int), .slice A0 n0 c0], .int .i64 (e : Int)]) (by simp [results, Try.results24, go_sem, r0, r1, r2, r3]) rfl (by rw [← HQ.out]; exact ⟨ZB, .inl ⟨he, by rw [refV, HTS.out]⟩⟩)
end Go.Proofs.Ytpkkfdmhbbipoaa
namespace Go.Proofs.Ytpkkfdmhbbipoaa
open Go.RowKit PopT

def RS (w : World) (gh hr fr gf : Nat) (wr : World) (win : Nat) (ts : ByteArray) (seen : Nat) (v : Value) (mt fl : Bool) (k gn rd : Nat) : Prop :=
  Blk wr gh 51 #[.int .i64 (win : Int), .string ts, .int .i64 (seen : Int), v] ∧ Blk wr gf 61 #[.bool mt, .bool fl, .int .i64 (k : Int), .int .i64 (gn : Int), .int .i64 (rd : Int)] ∧
  Blk wr hr 51 #[.int .i64 0, .string ⟨#[]⟩, .int .i64 0, .slice none 0 0] ∧ Blk wr fr 61 #[.bool false, .bool false, .int .i64 0, .int .i64 0, .int .i64 0] ∧ Below w.heap.size w wr ∧
  w.heap.size ≤ gh ∧ gh < hr ∧ hr < fr ∧ fr < gf
section
variable {w wr w' : World} {gh hr fr gf win seen k gn rd : Nat} {ts : ByteArray} {v : Value} {mt fl : Bool}
theorem RS.below (h : RS w gh hr fr gf wr win ts seen v mt fl k gn rd) (hb : Below wr.heap.size wr w') : RS w gh hr fr gf w' win ts seen v mt fl k gn rd := by
  obtain ⟨h1, h2, h3, h4, h5, h6⟩ := h
  exact ⟨h1.below hb h1.lt, h2.below hb h2.lt, h3.below hb h3.lt, h4.below hb h4.lt, h5.trans (hb.mono h5.size), h6⟩
theorem RS.set1 (h : RS w gh hr fr gf wr win ts seen v mt fl k gn rd) (u : ByteArray) : RS w gh hr fr gf (wr.setCell ⟨gh, 1, none⟩ (.string u)) win u seen v mt fl k gn rd := by
  obtain ⟨h1, h2, h3, h4, h5, h6, h7, h8, h9⟩ := h
  exact ⟨h1.set 1 _, h2.set_far (by omega), h3.set_far (by omega), h4.set_far (by omega), h5.setCell h6 _, h6, h7, h8, h9⟩
theorem RS.set2 (h : RS w gh hr fr gf wr win ts seen v mt fl k gn rd) (u : Nat) : RS w gh hr fr gf (wr.setCell ⟨gh, 2, none⟩ (.int .i64 (u : Int))) win ts u v mt fl k gn rd := by
  obtain ⟨h1, h2, h3, h4, h5, h6, h7, h8, h9⟩ := h
  exact ⟨h1.set 2 _, h2.set_far (by omega), h3.set_far (by omega), h4.set_far (by omega), h5.setCell h6 _, h6, h7, h8, h9⟩
theorem RS.f0 (h : RS w gh hr fr gf wr win ts seen v mt fl k gn rd) (u : Bool) : RS w gh hr fr gf (wr.setCell ⟨gf, 0, none⟩ (.bool u)) win ts seen v u fl k gn rd := by
  obtain ⟨h1, h2, h3, h4, h5, h6, h7, h8, h9⟩ := h
  exact ⟨h1.set_far (by omega), h2.set 0 _, h3.set_far (by omega), h4.set_far (by omega), h5.setCell (by show w.heap.size ≤ gf; omega) _, h6, h7, h8, h9⟩
theorem RS.f1 (h : RS w gh hr fr gf wr win ts seen v mt fl k gn rd) (u : Bool) : RS w gh hr fr gf (wr.setCell ⟨gf, 1, none⟩ (.bool u)) win ts seen v mt u k gn rd := by
  obtain ⟨h1, h2, h3, h4, h5, h6, h7, h8, h9⟩ := h
  exact ⟨h1.set_far (by omega), h2.set 1 _, h3.set_far (by omega), h4.set_far (by omega), h5.setCell (by show w.heap.size ≤ gf; omega) _, h6, h7, h8, h9⟩
theorem RS.f2 (h : RS w gh hr fr gf wr win ts seen v mt fl k gn rd) (u : Nat) : RS w gh hr fr gf (wr.setCell ⟨gf, 2, none⟩ (.int .i64 (u : Int))) win ts seen v mt fl u gn rd := by
  obtain ⟨h1, h2, h3, h4, h5, h6, h7, h8, h9⟩ := h
  exact ⟨h1.set_far (by omega), h2.set 2 _, h3.set_far (by omega), h4.set_far (by omega), h5.setCell (by show w.heap.size ≤ gf; omega) _, h6, h7, h8, h9⟩
theorem RS.f3 (h : RS w gh hr fr gf wr win ts seen v mt fl k gn rd) (u : Nat) : RS w gh hr fr gf (wr.setCell ⟨gf, 3, none⟩ (.int .i64 (u : Int))) win ts seen v mt fl k u rd := by
  obtain ⟨h1, h2, h3, h4, h5, h6, h7, h8, h9⟩ := h
  exact ⟨h1.set_far (by omega), h2.set 3 _, h3.set_far (by omega), h4.set_far (by omega), h5.setCell (by show w.heap.size ≤ gf; omega) _, h6, h7, h8, h9⟩
theorem RS.f4 (h : RS w gh hr fr gf wr win ts seen v mt fl k gn rd) (u : Nat) : RS w gh hr fr gf (wr.setCell ⟨gf, 4, none⟩ (.int .i64 (u : Int))) win ts seen v mt fl k gn u := by
  obtain ⟨h1, h2, h3, h4, h5, h6, h7, h8, h9⟩ := h
  exact ⟨h1.set_far (by omega), h2.set 4 _, h3.set_far (by omega), h4.set_far (by omega), h5.setCell (by show w.heap.size ≤ gf; omega) _, h6, h7, h8, h9⟩
theorem RS.out (h : RS w gh hr fr gf wr win ts seen v mt fl k gn rd) : ∃ w2, w2 = set5 (set4 wr hr (.int .i64 (win : Int)) (.string ts) (.int .i64 (seen : Int)) v) fr (.bool mt) (.bool fl) (.int .i64 (k : Int)) (.int .i64 (gn : Int)) (.int .i64 (rd : Int)) ∧
    Blk w2 hr 51 #[.int .i64 (win : Int), .string ts, .int .i64 (seen : Int), v] ∧ Blk w2 fr 61 #[.bool mt, .bool fl, .int .i64 (k : Int), .int .i64 (gn : Int), .int .i64 (rd : Int)] ∧ Below w.heap.size w w2 := by
  obtain ⟨h1, h2, h3, h4, h5, h6, h7, h8, h9⟩ := h
  refine ⟨_, rfl, ?_, ?_, ?_⟩
  · have := set4_blk h3 (.int .i64 (win : Int)) (.string ts) (.int .i64 (seen : Int)) v
    unfold set5
    exact ((((this.set_far (by omega)).set_far (by omega)).set_far (by omega)).set_far (by omega)).set_far (by omega)
  · refine set5_blk (x0 := .bool false) (x1 := .bool false) (x2 := .int .i64 0) (x3 := .int .i64 0) (x4 := .int .i64 0) ?_ _ _ _ _ _
    unfold set4
    exact (((h4.set_far (by omega)).set_far (by omega)).set_far (by omega)).set_far (by omega)
  · have hw : w.heap.size ≤ hr ∧ w.heap.size ≤ fr := by omega
    unfold set5
    exact (((((set4_below h5 hw.1 _ _ _ _).setCell hw.2 _).setCell hw.2 _).setCell hw.2 _).setCell hw.2 _).setCell hw.2 _
theorem RS.facts (h : RS w gh hr fr gf wr win ts seen v mt fl k gn rd) : (wr.cell? ⟨gh, 0, none⟩ = some (.int .i64 (win : Int)) ∧ wr.cell? ⟨gh, 1, none⟩ = some (.string ts) ∧ wr.cell? ⟨gh, 2, none⟩ = some (.int .i64 (seen : Int)) ∧ wr.cell? ⟨gh, 3, none⟩ = some v) ∧
    (wr.cell? ⟨gf, 0, none⟩ = some (.bool mt) ∧ wr.cell? ⟨gf, 1, none⟩ = some (.bool fl) ∧ wr.cell? ⟨gf, 2, none⟩ = some (.int .i64 (k : Int)) ∧ wr.cell? ⟨gf, 3, none⟩ = some (.int .i64 (gn : Int)) ∧ wr.cell? ⟨gf, 4, none⟩ = some (.int .i64 (rd : Int))) ∧
    (∀ i, wr.frozen? ⟨gh, i, none⟩ = false) ∧ (∀ i, wr.frozen? ⟨gf, i, none⟩ = false) ∧ gh < wr.heap.size ∧ gf < wr.heap.size :=
  ⟨fact4 h.1, fact5 h.2.1, fun i => h.1.frozen i, fun i => h.2.1.frozen i, h.1.lt, h.2.1.lt⟩
theorem RS.zeros (h : RS w gh hr fr gf wr win ts seen v mt fl k gn rd) : (wr.cell? ⟨hr, 0, none⟩ = some (.int .i64 0) ∧ wr.cell? ⟨hr, 1, none⟩ = some (.string ⟨#[]⟩) ∧ wr.cell? ⟨hr, 2, none⟩ = some (.int .i64 0) ∧ wr.cell? ⟨hr, 3, none⟩ = some (.slice none 0 0)) ∧
    (wr.cell? ⟨fr, 0, none⟩ = some (.bool false) ∧ wr.cell? ⟨fr, 1, none⟩ = some (.bool false) ∧ wr.cell? ⟨fr, 2, none⟩ = some (.int .i64 0) ∧ wr.cell? ⟨fr, 3, none⟩ = some (.int .i64 0) ∧ wr.cell? ⟨fr, 4, none⟩ = some (.int .i64 0)) ∧
    (∀ i, wr.frozen? ⟨hr, i, none⟩ = false) ∧ (∀ i, wr.frozen? ⟨fr, i, none⟩ = false) ∧ hr < wr.heap.size ∧ fr < wr.heap.size :=
  ⟨fact4 h.2.2.1, fact5 h.2.2.2.1, fun i => h.2.2.1.frozen i, fun i => h.2.2.2.1.frozen i, h.2.2.1.lt, h.2.2.2.1.lt⟩
theorem RS.far (h : RS w gh hr fr gf wr win ts seen v mt fl k gn rd) : (gh ≠ hr ∧ gh ≠ fr ∧ gh ≠ gf) ∧ (hr ≠ fr ∧ hr ≠ gf ∧ fr ≠ gf) ∧ (hr ≠ gh ∧ fr ≠ gh ∧ gf ≠ gh) ∧ (fr ≠ hr ∧ gf ≠ hr ∧ gf ≠ fr) := by
  obtain ⟨h1, h2, h3, h4, h5, h6, h7, h8, h9⟩ := h
  omega
end
def refMeas (sv : Value) (wr : World) (gh : Nat) : Nat := (match sv with | .string s => s.size | _ => 0) + ((match wr.cell? ⟨gh, 1, none⟩ with | some (.string s) => s.size | _ => 0) - (match wr.cell? ⟨gh, 2, none⟩ with | some (.int _ s) => s.toNat | _ => 0))
theorem refMeas_is {w wr : World} {gh hr fr gf win seen k gn rd : Nat} {ts tr : ByteArray} {v : Value} {mt fl : Bool} (h : RS w gh hr fr gf wr win ts seen v mt fl k gn rd) : refMeas (.string tr) wr gh = tr.size + (ts.size - seen) := by
  obtain ⟨⟨-, h1, h2, -⟩, -⟩ := h.facts
  unfold refMeas
  rw [h1, h2]
  simp

theorem told_max (ls : List (List Item)) (S : List UInt8) (n : Nat) (h : ls.length ≤ 8) : toldA (dsM ls S n) ≤ 1000 := by
  unfold toldA
  split
  · have h1 := List.findIdx_le_length (xs := dsM ls S n) (p := id)
    have h2 : (dsM ls S n).length = ls.length := by unfold dsM; simp
    omega
  · omega
theorem rgT_add (S : List UInt8) (c : UInt8) (R : List UInt8) : rgT S ++ (rgT (c :: R)).extract 0 1 = rgT (S ++ [c]) := by
  apply Go.WideShapes.bytes_inj
  rw [ByteArray.data_append, Array.toList_append, extract_take]
  simp [rgT]
theorem rgT_tail (c : UInt8) (R : List UInt8) : (rgT (c :: R)).extract 1 (rgT (c :: R)).size = rgT R := by
  apply Go.WideShapes.bytes_inj
  rw [extract_sub, rgT_size]
  simp [rgT]
theorem rgT_drop (S : List UInt8) (n : Nat) : (rgT S).extract n (rgT S).size = rgT (S.drop n) := by
  apply Go.WideShapes.bytes_inj
  rw [extract_sub, rgT_size]
  simp [rgT, List.take_of_length_le]
theorem rgT_take (S : List UInt8) (n : Nat) : ((rgT S).extract 0 n).data.toList = S.take n := by
  rw [extract_take]; simp [rgT]

set_option maxRecDepth 20000 in
set_option maxHeartbeats 8000000 in
theorem refLook_any (base win seen : Nat) (S R : List UInt8) (v : Value) (ls : List (List Item)) (w : World) (hP : PatV base w ls v) (hs : seen ≤ S.length) (hS : S.length ≤ win) (hwin : win ≤ 4096) (hlen : S.length + R.length ≤ 1000) (hl8 : ls.length ≤ 8) (hl60 : ∀ l ∈ ls, l.length ≤ 60) :
    Calls Try.prog 27 #[refV win S seen v, .string (rgT R)] w fun e w' =>
      e = .returned (.tuple #[refV win (lookM win ls S seen R).S (lookM win ls S seen R).seen v, .string (rgT (lookM win ls S seen R).R), foundV (lookM win ls S seen R).mtch (lookM win ls S seen R).full (lookM win ls S seen R).arm (lookM win ls S seen R).gone (lookM win ls S seen R).read]) ∧ Below w.heap.size w w' := by
  obtain ⟨X, hX⟩ : ∃ X, lookM win ls S seen R = X := ⟨_, rfl⟩
  rw [hX]
  have HGO : Hid (∃ N, lookN S seen R ≤ N ∧ lookGo win ls N S seen R 0 = X) := ⟨_, Nat.le_refl _, hX⟩
  have CH : Hid (∀ W, Below w.heap.size w W → ∀ s : ByteArray, s.size ≤ 1000 → Calls Try.prog 51 #[v, .string s] W fun e w' => e = .returned (.int .i64 (hereI ls s.data.toList)) ∧ Below W.heap.size W w') := fun W hW s hs => by
    obtain ⟨A, c, vs, rfl, h1, h2⟩ := hP.below hW (Nat.le_refl _)
    exact hereR_any base A ls.length c vs ls s W rfl hl8 (Rd_of_own h1) h2 hs hl60
  have HV : Hid (∃ A n c, v = .slice A n c) := by obtain ⟨A, c, vs, rfl, -⟩ := hP; exact ⟨_, _, _, rfl⟩
  obtain ⟨A, n, c, rfl⟩ := HV.out
  have HL8 := hid hl8; have HS := hid hs; have HW := hid hS; have HLEN := hid hlen
  obtain ⟨ts, hts⟩ : ∃ x, rgT S = x := ⟨_, rfl⟩
  have HTS := hid hts
  obtain ⟨tr, htr⟩ : ∃ x, rgT R = x := ⟨_, rfl⟩
  have HTR := hid htr
  obtain ⟨Q, hQ⟩ : ∃ Q : Ending → World → Prop, (fun e w' => e = Ending.returned (.tuple #[refV win X.S X.seen (.slice A n c), .string (rgT X.R), foundV X.mtch X.full X.arm X.gone X.read]) ∧ Below w.heap.size w w') = Q := ⟨_, rfl⟩
  have HQ : Hid (∀ W (S' R' : List UInt8) (s' : Nat) (mt fl : Bool) (k gn rd : Nat), X = ⟨S', s', R', mt, fl, k, gn, rd⟩ → Below w.heap.size w W → Q (.returned (.tuple #[.agg #[.int .i64 (win : Int), .string (rgT S'), .int .i64 (s' : Int), .slice A n c], .string (rgT R'), .agg #[.bool mt, .bool fl, .int .i64 (k : Int), .int .i64 (gn : Int), .int .i64 (rd : Int)]])) W) := fun W S' R' s' mt fl k gn rd hX h => by
    rw [← hQ]; subst hX; exact ⟨rfl, h⟩
  rw [hQ]
  unfold refV
  rw [hts]
  clear hX hP hs hS hlen hl8 hl60 hts htr hQ HV
  go_enter Try.func27, Try.ntmps27
  go_upto_region 2 with fail
  obtain ⟨w0, hw0⟩ : ∃ W, (((w.alloc (.cells #[.int .i64 (win : Int), .string ts, .int .i64 (seen : Int), .slice A n c] 51)).alloc (.cells #[.int .i64 0, .string ⟨#[]⟩, .int .i64 0, .slice none 0 0] 51)).alloc (.cells #[.bool false, .bool false, .int .i64 0, .int .i64 0, .int .i64 0] 61)).alloc (.cells #[.bool false, .bool false, .int .i64 0, .int .i64 0, .int .i64 0] 61) = W := ⟨_, rfl⟩
  have HR0 : Hid (RS w w.heap.size (w.heap.size + 1) (w.heap.size + 1 + 1) (w.heap.size + 1 + 1 + 1) w0 win ts seen (.slice A n c) false false 0 0 0) := by
    rw [← hw0]
    refine ⟨(((Blk.new w _ _).alloc _).alloc _).alloc _, ?_, ((new2' _ _ _ _).alloc _).alloc _, ?_, (((below2' _ _ _).alloc (by simp; omega) _).alloc (by simp; omega) _), Nat.le_refl _, by omega, by omega, by omega⟩
    · have := Blk.new (((w.alloc (.cells #[.int .i64 (win : Int), .string ts, .int .i64 (seen : Int), .slice A n c] 51)).alloc (.cells #[.int .i64 0, .string ⟨#[]⟩, .int .i64 0, .slice none 0 0] 51)).alloc (.cells #[.bool false, .bool false, .int .i64 0, .int .i64 0, .int .i64 0] 61)) 61 #[.bool false, .bool false, .int .i64 0, .int .i64 0, .int .i64 0]
      simpa using this
    · have := (Blk.new ((w.alloc (.cells #[.int .i64 (win : Int), .string ts, .int .i64 (seen : Int), .slice A n c] 51)).alloc (.cells #[.int .i64 0, .string ⟨#[]⟩, .int .i64 0, .slice none 0 0] 51)) 61 #[.bool false, .bool false, .int .i64 0, .int .i64 0, .int .i64 0]).alloc (.cells #[.bool false, .bool false, .int .i64 0, .int .i64 0, .int .i64 0] 61)
      simpa using this
  rw [hw0]
  clear hw0
  obtain ⟨gh, hgh⟩ : ∃ x, w.heap.size = x := ⟨_, rfl⟩
  have HGH := hid hgh
  rw [hgh] at HR0 ⊢
  obtain ⟨hr, hhr⟩ : ∃ x, gh + 1 = x := ⟨_, rfl⟩
  rw [hhr] at HR0 ⊢
  obtain ⟨fr, hfr⟩ : ∃ x, hr + 1 = x := ⟨_, rfl⟩
  rw [hfr] at HR0 ⊢
  obtain ⟨gf, hgf⟩ : ∃ x, fr + 1 = x := ⟨_, rfl⟩
  rw [hgf] at HR0 ⊢
  clear hgh hhr hfr hgf
  go_wp2_with fail
  go_loopw [1] (fun sv wr => ∃ (N s' rd : Nat) (S' R' : List UInt8) (ts' : ByteArray), lookN S' s' R' ≤ N ∧ lookGo win ls N S' s' R' rd = X ∧ rd + R'.length ≤ 1000 ∧ s' ≤ S'.length ∧ S'.length ≤ win ∧ S'.length + R'.length ≤ 1000 ∧ sv = .string (rgT R') ∧ rgT S' = ts' ∧ RS w gh hr fr gf wr win ts' s' (.slice A n c) false false 0 0 rd) (fun sv wr => refMeas sv wr gh)
  case atStart =>
    obtain ⟨N, h1, h2⟩ := HGO.out
    exact ⟨N, seen, 0, S, R, ts, h1, h2, by have := HLEN.out; omega, HS.out, HW.out, HLEN.out, by rw [HTR.out], HTS.out, HR0.out⟩
  case round =>
    obtain ⟨N, s', rd, S', R', tz, hN, hgo, hrd, hs', hw', hlen, rfl, htz, hrs⟩ := hrel
    have HN := hid hN; have HGO2 := hid hgo; have HTZ := hid htz; have HRS := hid hrs; have HLEN2 := hid hlen; have HRD := hid hrd
    have HMS := hid (refMeas_is (tr := rgT R') hrs)
    obtain ⟨N, rfl⟩ : ∃ n, N = n + 1 := ⟨N - 1, by have := lookN_pos S' s' R'; omega⟩
    obtain ⟨n1, hn1⟩ : ∃ x, S'.length = x := ⟨_, rfl⟩
    have HN1 := hid hn1
    have hsz : tz.size = n1 := by rw [← htz, rgT_size, hn1]
    have HSZ := hid hsz
    rw [hn1] at hs' hw'
    have hszi : (tz.size : Int) ≤ 1000 := by omega
    have hn1k : n1 ≤ 1000 := by omega
    obtain ⟨⟨p0, p1, p2, p3⟩, ⟨q0, q1, q2, q3, q4⟩, p5, q5, pl, ql⟩ := hrs.facts
    obtain ⟨⟨d1, d2, d3⟩, ⟨d4, d5, d6⟩, ⟨d7, d8, d9⟩, ⟨d10, d11, d12⟩⟩ := hrs.far
    clear hN hgo htz hrs hn1 HGO HR0 hlen HS HW HLEN HTR HTS
    by_cases hlt : s' < n1
    · have hne : ((s' : Int) == (tz.size : Int)) = false := by rw [beq_eq_false_iff_ne]; omega
      have HGOX : Hid (X = if (dsM ls S' (s' + 1)).any id = true then ⟨S'.drop (s' + 1), 0, R', true, false, toldA (dsM ls S' (s' + 1)), s' + 1, rd⟩ else lookGo win ls N S' (s' + 1) R' rd) := by
        rw [Hid, ← HGO2.out, lookGo_old _ _ _ _ _ _ _ (by rw [HN1.out]; exact hlt)]
      have HN2 : Hid (lookN S' (s' + 1) R' ≤ N) := by have a := HN.out; have b := HN1.out; unfold Hid lookN at *; omega
      have HM2 : Hid ((rgT R').size + (tz.size - (s' + 1)) < refMeas (.string (rgT R')) wr gh) := by rw [Hid, HMS.out, HSZ.out]; omega
      obtain ⟨tq, htq⟩ : ∃ x, rgT R' = x := ⟨_, rfl⟩
      have HTQ := hid htq
      rw [htq]
      rw [htq] at HM2
      clear HGO2 HN HMS htq hsz
      obtain ⟨s1, hs1⟩ : ∃ x, s' + 1 = x := ⟨_, rfl⟩
      have hs1i : (s' : Int) + 1 = (s1 : Int) := by omega
      have hs1t : (s1 : Int) ≤ (tz.size : Int) := by rw [HSZ.out]; omega
      have HDS : Hid (hereI ls (S'.take s1) = if (dsM ls S' s1).any id = true then (toldA (dsM ls S' s1) : Int) else -1) := by
        rw [Hid, hereI, dsM_take ls S' s1 (by rw [HN1.out]; omega)]
      have HTK : Hid ((tz.extract 0 s1).data.toList = S'.take s1) := by rw [Hid, ← HTZ.out]; exact rgT_take S' s1
      have HSS1 : Hid (s1 ≤ S'.length) := by rw [Hid, HN1.out]; omega
      rw [hs1] at HGOX HN2 HM2
      have htvb := told_max ls S' s1 HL8.out
      obtain ⟨ds, hds⟩ : ∃ d, dsM ls S' s1 = d := ⟨_, rfl⟩
      rw [hds] at HDS HGOX htvb
      obtain ⟨tv, htv⟩ : ∃ d, toldA ds = d := ⟨_, rfl⟩
      obtain ⟨fd, hfd⟩ : ∃ d, ds.any id = d := ⟨_, rfl⟩
      rw [htv, hfd] at HDS HGOX
      rw [htv] at htvb
      clear hds htv hfd hs1
      go_upto_region 11 with fail
      have HR5 := hid (HRS.out.set2 s1)
      obtain ⟨w5, hw5⟩ : ∃ W, wr.setCell ⟨gh, 2, none⟩ (.int .i64 (s1 : Int)) = W := ⟨_, rfl⟩
      rw [hw5] at HR5 ⊢
      clear hw5 p0 p1 p2 p3 q0 q1 q2 q3 q4 p5 q5 pl ql
      obtain ⟨⟨p0, p1, p2, p3⟩, ⟨q0, q1, q2, q3, q4⟩, p5, q5, pl, ql⟩ := HR5.out.facts
      have CH2 : Hid (∀ q : BW w5.heap.size w5, Calls Try.prog 51 #[.slice A n c, .string (tz.extract 0 s1)] q.1 fun e w' => e = .returned (.int .i64 (if fd = true then (tv : Int) else -1)) ∧ Below q.1.heap.size q.1 w') := fun q => by
        have := CH.out q.1 (HR5.out.2.2.2.2.1.trans (q.2.mono HR5.out.2.2.2.2.1.size)) (tz.extract 0 s1) (by rw [ByteArray.size_extract]; omega)
        rw [HTK.out, HDS.out] at this
        exact this
      have T1 : ∀ q : BW w5.heap.size w5, q.1.cell? ⟨gh, 1, none⟩ = some (.string tz) := fun q => q.cellAt pl p1
      have T2 : ∀ q : BW w5.heap.size w5, q.1.cell? ⟨gh, 2, none⟩ = some (.int .i64 (s1 : Int)) := fun q => q.cellAt pl p2
      have T3 : ∀ q : BW w5.heap.size w5, q.1.cell? ⟨gh, 3, none⟩ = some (.slice A n c) := fun q => q.cellAt pl p3
      clear HDS HTK
      cases fd
      · have HGOZ : Hid (lookGo win ls N S' s1 R' rd = X) := by rw [Hid, HGOX.out, if_neg (by decide)]
        clear HGOX
        refine wp_region_below w5.heap.size (by kernel_rfl) (by kernel_rfl) ?_
        repeat (go_big_quiet_step (first | (go_at_call 51; exact callBW2 (Nat.le_refl _) CH2.out _)))
        refine wpQuiet_nil ?_
        intro w6 hq6
        have HR6 : Hid (RS w gh hr fr gf w6 win tz s1 (.slice A n c) false false 0 0 rd) := by obtain ⟨q, rfl⟩ := hq6; exact HR5.out.below q.2
        clear hq6 T1 T2 T3 CH2 HR5 p0 p1 p2 p3 q0 q1 q2 q3 q4 p5 q5 pl ql
        go_wp2_with fail
        go_roundw
        case rel => exact ⟨N, s1, rd, S', R', tz, HN2.out, HGOZ.out, HRD.out, HSS1.out, by rw [HN1.out]; exact hw', HLEN2.out, by rw [HTQ.out], HTZ.out, HR6.out⟩
        case measure => rw [refMeas_is HR6.out]; exact HM2.out
      have HXE : Hid (X = ⟨S'.drop s1, 0, R', true, false, tv, s1, rd⟩) := by rw [Hid, HGOX.out, if_pos rfl]
      have htv0 : (0 : Int) ≤ (tv : Int) := by omega
      clear HGOX HN2 HM2
      refine wp_region_below w5.heap.size (by kernel_rfl) (by kernel_rfl) ?_
      repeat (go_big_quiet_step (first | (go_at_call 51; exact callBW2 (Nat.le_refl _) CH2.out _)))
      refine wpQuiet_nil ?_
      intro w6 hq6
      have HR6 : Hid (RS w gh hr fr gf w6 win tz s1 (.slice A n c) false false 0 0 rd) := by obtain ⟨q, rfl⟩ := hq6; exact HR5.out.below q.2
      clear hq6 T1 T2 T3 CH2 HR5 p0 p1 p2 p3 q0 q1 q2 q3 q4 p5 q5 pl ql
      obtain ⟨⟨p0, p1, p2, p3⟩, ⟨q0, q1, q2, q3, q4⟩, p5, q5, pl, ql⟩ := HR6.out.facts
      go_upto_region 13 with fail
      refine wp_region_ord (.val 0 (.val 1 (.val 3 (.two 2 (.op 4 (.val 5 (.op 6 (.val 7 (.op 8 (.nil)))))) 4 (.val 5 (.two 2 (.op 6 (.val 7 (.op 8 (.nil)))) 6 (.op 2 (.val 7 (.op 8 (.nil)))))))))) (by kernel_rfl) (by kernel_rfl) ?_
      obtain ⟨w7, hw7⟩ : ∃ W, w6.drewN 1 = W := ⟨_, rfl⟩
      have HR7 : Hid (RS w gh hr fr gf w7 win tz s1 (.slice A n c) false false 0 0 rd) := by rw [← hw7]; exact HR6.out.below (drewN_below w6 1)
      rw [hw7]
      clear hw7 p0 p1 p2 p3 q0 q1 q2 q3 q4 p5 q5 pl ql
      obtain ⟨⟨p0, p1, p2, p3⟩, ⟨q0, q1, q2, q3, q4⟩, p5, q5, pl, ql⟩ := HR7.out.facts
      refine wpOrd_val rfl ?_
      go_big_quiet_step (fail)
      refine wpQuiet_nil ?_
      refine wpOrd_val rfl ?_
      go_big_quiet_step (fail)
      refine wpQuiet_nil ?_
      refine wpOrd_val rfl ?_
      go_big_quiet_step (fail)
      refine wpQuiet_nil ?_
      refine wpOrd_two rfl rfl ?_ ?_
      · skip
        go_wp2_with fail
        refine wpOrd_op rfl ?_
        go_wp2_with fail
        refine wpOrd_val rfl ?_
        go_big_quiet_step (fail)
        refine wpQuiet_nil ?_
        refine wpOrd_op rfl ?_
        go_wp2_with fail
        refine wpOrd_val rfl ?_
        go_big_quiet_step (fail)
        refine wpQuiet_nil ?_
        refine wpOrd_op rfl ?_
        go_wp2_with fail
        refine wpOrd_nil ?_
        have HR8 := hid (((HR7.out.f0 true).f2 tv).f3 s1)
        obtain ⟨w8, hw8⟩ : ∃ W, ((w7.setCell ⟨gf, 0, none⟩ (.bool true)).setCell ⟨gf, 2, none⟩ (.int .i64 (tv : Int))).setCell ⟨gf, 3, none⟩ (.int .i64 (s1 : Int)) = W := ⟨_, rfl⟩
        rw [hw8] at HR8 ⊢
        clear hw8 p0 p1 p2 p3 q0 q1 q2 q3 q4 p5 q5 pl ql
        obtain ⟨⟨p0, p1, p2, p3⟩, ⟨q0, q1, q2, q3, q4⟩, p5, q5, pl, ql⟩ := HR8.out.facts
        obtain ⟨tm, htm⟩ : ∃ x, rgT (S'.drop s1) = x := ⟨_, rfl⟩
        have HTM := hid htm
        have htme : tz.extract s1 tz.size = tm := by rw [← htm, ← HTZ.out]; exact rgT_drop S' s1
        clear htm
        go_upto_region 15 with fail
        have HR9 := hid ((HR8.out.set1 tm).set2 0)
        obtain ⟨w9, hw9⟩ : ∃ W, (w8.setCell ⟨gh, 1, none⟩ (.string tm)).setCell ⟨gh, 2, none⟩ (.int .i64 ((0 : Nat) : Int)) = W := ⟨_, rfl⟩
        have hw9' : (w8.setCell ⟨gh, 1, none⟩ (.string tm)).setCell ⟨gh, 2, none⟩ (.int .i64 0) = w9 := hw9
        rw [hw9] at HR9
        rw [hw9']
        clear hw9 hw9' p0 p1 p2 p3 q0 q1 q2 q3 q4 p5 q5 pl ql htme
        obtain ⟨⟨p0, p1, p2, p3⟩, ⟨q0, q1, q2, q3, q4⟩, p5, q5, pl, ql⟩ := HR9.out.facts
        refine wp_region_ord (.val 1 (.two 0 (.two 2 (.op 3 (.val 4 (.op 5 (.nil)))) 3 (.val 4 (.op 2 (.op 5 (.nil))))) 2 (.op 0 (.op 3 (.val 4 (.op 5 (.nil))))))) (by kernel_rfl) (by kernel_rfl) ?_
        obtain ⟨w3, hw3⟩ : ∃ W, w9.drewN 1 = W := ⟨_, rfl⟩
        have HR3 : Hid (RS w gh hr fr gf w3 win tm 0 (.slice A n c) true false tv s1 rd) := by rw [← hw3]; exact HR9.out.below (drewN_below w9 1)
        rw [hw3]
        clear hw3 p0 p1 p2 p3 q0 q1 q2 q3 q4 p5 q5 pl ql
        obtain ⟨⟨p0, p1, p2, p3⟩, ⟨q0, q1, q2, q3, q4⟩, p5, q5, pl, ql⟩ := HR3.out.facts
        obtain ⟨⟨r0, r1, r2, r3⟩, ⟨z0, z1, z2, z3, z4⟩, r5, z5, rl, zl⟩ := HR3.out.zeros
        refine wpOrd_val rfl ?_
        go_big_quiet_step (fail)
        refine wpQuiet_nil ?_
        refine wpOrd_two rfl rfl ?_ ?_
        · skip
          go_wp2_with fail
          refine wpOrd_two rfl rfl ?_ ?_
          · skip
            go_wp2_with fail
            refine wpOrd_op rfl ?_
            go_wp2_with fail
            refine wpOrd_val rfl ?_
            go_big_quiet_step (fail)
            refine wpQuiet_nil ?_
            refine wpOrd_op rfl ?_
            go_wp2_with fail
            refine wpOrd_nil ?_
            go_wp2_with fail
            obtain ⟨wz, hwz, Z1, Z2, Z3⟩ := HR3.out.out
            unfold set5 set4 at hwz
            try rw [show ((0 : Nat) : Int) = 0 from rfl] at hwz
            rw [← hwz]
            obtain ⟨k0, k1, k2, k3⟩ := fact4 Z1
            obtain ⟨l0, l1, l2, l3, l4⟩ := fact5 Z2
            refine bodyPost_ret (v := .tuple #[.agg #[.int .i64 (win : Int), .string tm, .int .i64 (0 : Int), .slice A n c], .string tq, .agg #[.bool true, .bool false, .int .i64 (tv : Int), .int .i64 (s1 : Int), .int .i64 (rd : Int)]]) (by simp [results, Try.results27, go_sem, k0, k1, k2, k3, l0, l1, l2, l3, l4]) rfl ?_
            have := HQ.out wz (S'.drop s1) R' 0 true false tv s1 rd HXE.out Z3
            rw [HTM.out, HTQ.out] at this
            exact this
          · skip
            go_wp2_with fail
            refine wpOrd_val rfl ?_
            go_big_quiet_step (fail)
            refine wpQuiet_nil ?_
            refine wpOrd_op rfl ?_
            go_wp2_with fail
            refine wpOrd_op rfl ?_
            go_wp2_with fail
            refine wpOrd_nil ?_
            go_wp2_with fail
            obtain ⟨wz, hwz, Z1, Z2, Z3⟩ := HR3.out.out
            unfold set5 set4 at hwz
            try rw [show ((0 : Nat) : Int) = 0 from rfl] at hwz
            rw [← hwz]
            obtain ⟨k0, k1, k2, k3⟩ := fact4 Z1
            obtain ⟨l0, l1, l2, l3, l4⟩ := fact5 Z2
            refine bodyPost_ret (v := .tuple #[.agg #[.int .i64 (win : Int), .string tm, .int .i64 (0 : Int), .slice A n c], .string tq, .agg #[.bool true, .bool false, .int .i64 (tv : Int), .int .i64 (s1 : Int), .int .i64 (rd : Int)]]) (by simp [results, Try.results27, go_sem, k0, k1, k2, k3, l0, l1, l2, l3, l4]) rfl ?_
            have := HQ.out wz (S'.drop s1) R' 0 true false tv s1 rd HXE.out Z3
            rw [HTM.out, HTQ.out] at this
            exact this
        · skip
          go_wp2_with fail
          refine wpOrd_op rfl ?_
          go_wp2_with fail
          refine wpOrd_op rfl ?_
          go_wp2_with fail
          refine wpOrd_val rfl ?_
          go_big_quiet_step (fail)
          refine wpQuiet_nil ?_
          refine wpOrd_op rfl ?_
          go_wp2_with fail
          refine wpOrd_nil ?_
          go_wp2_with fail
          obtain ⟨wz, hwz, Z1, Z2, Z3⟩ := HR3.out.out
          unfold set5 set4 at hwz
          try rw [show ((0 : Nat) : Int) = 0 from rfl] at hwz
          rw [← hwz]
          obtain ⟨k0, k1, k2, k3⟩ := fact4 Z1
          obtain ⟨l0, l1, l2, l3, l4⟩ := fact5 Z2
          refine bodyPost_ret (v := .tuple #[.agg #[.int .i64 (win : Int), .string tm, .int .i64 (0 : Int), .slice A n c], .string tq, .agg #[.bool true, .bool false, .int .i64 (tv : Int), .int .i64 (s1 : Int), .int .i64 (rd : Int)]]) (by simp [results, Try.results27, go_sem, k0, k1, k2, k3, l0, l1, l2, l3, l4]) rfl ?_
          have := HQ.out wz (S'.drop s1) R' 0 true false tv s1 rd HXE.out Z3
          rw [HTM.out, HTQ.out] at this
          exact this
      · skip
        go_wp2_with fail
        refine wpOrd_val rfl ?_
        go_big_quiet_step (fail)
        refine wpQuiet_nil ?_
        refine wpOrd_two rfl rfl ?_ ?_
        · skip
          go_wp2_with fail
          refine wpOrd_op rfl ?_
          go_wp2_with fail
          refine wpOrd_val rfl ?_
          go_big_quiet_step (fail)
          refine wpQuiet_nil ?_
          refine wpOrd_op rfl ?_
          go_wp2_with fail
          refine wpOrd_nil ?_
          have HR8 := hid (((HR7.out.f0 true).f2 tv).f3 s1)
          obtain ⟨w8, hw8⟩ : ∃ W, ((w7.setCell ⟨gf, 0, none⟩ (.bool true)).setCell ⟨gf, 2, none⟩ (.int .i64 (tv : Int))).setCell ⟨gf, 3, none⟩ (.int .i64 (s1 : Int)) = W := ⟨_, rfl⟩
          rw [hw8] at HR8 ⊢
          clear hw8 p0 p1 p2 p3 q0 q1 q2 q3 q4 p5 q5 pl ql
          obtain ⟨⟨p0, p1, p2, p3⟩, ⟨q0, q1, q2, q3, q4⟩, p5, q5, pl, ql⟩ := HR8.out.facts
          obtain ⟨tm, htm⟩ : ∃ x, rgT (S'.drop s1) = x := ⟨_, rfl⟩
          have HTM := hid htm
          have htme : tz.extract s1 tz.size = tm := by rw [← htm, ← HTZ.out]; exact rgT_drop S' s1
          clear htm
          go_upto_region 15 with fail
          have HR9 := hid ((HR8.out.set1 tm).set2 0)
          obtain ⟨w9, hw9⟩ : ∃ W, (w8.setCell ⟨gh, 1, none⟩ (.string tm)).setCell ⟨gh, 2, none⟩ (.int .i64 ((0 : Nat) : Int)) = W := ⟨_, rfl⟩
          have hw9' : (w8.setCell ⟨gh, 1, none⟩ (.string tm)).setCell ⟨gh, 2, none⟩ (.int .i64 0) = w9 := hw9
          rw [hw9] at HR9
          rw [hw9']
          clear hw9 hw9' p0 p1 p2 p3 q0 q1 q2 q3 q4 p5 q5 pl ql htme
          obtain ⟨⟨p0, p1, p2, p3⟩, ⟨q0, q1, q2, q3, q4⟩, p5, q5, pl, ql⟩ := HR9.out.facts
          refine wp_region_ord (.val 1 (.two 0 (.two 2 (.op 3 (.val 4 (.op 5 (.nil)))) 3 (.val 4 (.op 2 (.op 5 (.nil))))) 2 (.op 0 (.op 3 (.val 4 (.op 5 (.nil))))))) (by kernel_rfl) (by kernel_rfl) ?_
          obtain ⟨w3, hw3⟩ : ∃ W, w9.drewN 1 = W := ⟨_, rfl⟩
          have HR3 : Hid (RS w gh hr fr gf w3 win tm 0 (.slice A n c) true false tv s1 rd) := by rw [← hw3]; exact HR9.out.below (drewN_below w9 1)
          rw [hw3]
          clear hw3 p0 p1 p2 p3 q0 q1 q2 q3 q4 p5 q5 pl ql
          obtain ⟨⟨p0, p1, p2, p3⟩, ⟨q0, q1, q2, q3, q4⟩, p5, q5, pl, ql⟩ := HR3.out.facts
          obtain ⟨⟨r0, r1, r2, r3⟩, ⟨z0, z1, z2, z3, z4⟩, r5, z5, rl, zl⟩ := HR3.out.zeros
          refine wpOrd_val rfl ?_
          go_big_quiet_step (fail)
          refine wpQuiet_nil ?_
          refine wpOrd_two rfl rfl ?_ ?_
          · skip
            go_wp2_with fail
            refine wpOrd_two rfl rfl ?_ ?_
            · skip
              go_wp2_with fail
              refine wpOrd_op rfl ?_
              go_wp2_with fail
              refine wpOrd_val rfl ?_
              go_big_quiet_step (fail)
              refine wpQuiet_nil ?_
              refine wpOrd_op rfl ?_
              go_wp2_with fail
              refine wpOrd_nil ?_
              go_wp2_with fail
              obtain ⟨wz, hwz, Z1, Z2, Z3⟩ := HR3.out.out
              unfold set5 set4 at hwz
              try rw [show ((0 : Nat) : Int) = 0 from rfl] at hwz
              rw [← hwz]
              obtain ⟨k0, k1, k2, k3⟩ := fact4 Z1
              obtain ⟨l0, l1, l2, l3, l4⟩ := fact5 Z2
              refine bodyPost_ret (v := .tuple #[.agg #[.int .i64 (win : Int), .string tm, .int .i64 (0 : Int), .slice A n c], .string tq, .agg #[.bool true, .bool false, .int .i64 (tv : Int), .int .i64 (s1 : Int), .int .i64 (rd : Int)]]) (by simp [results, Try.results27, go_sem, k0, k1, k2, k3, l0, l1, l2, l3, l4]) rfl ?_
              have := HQ.out wz (S'.drop s1) R' 0 true false tv s1 rd HXE.out Z3
              rw [HTM.out, HTQ.out] at this
              exact this
            · skip
              go_wp2_with fail
              refine wpOrd_val rfl ?_
              go_big_quiet_step (fail)
              refine wpQuiet_nil ?_
              refine wpOrd_op rfl ?_
              go_wp2_with fail
              refine wpOrd_op rfl ?_
              go_wp2_with fail
              refine wpOrd_nil ?_
              go_wp2_with fail
              obtain ⟨wz, hwz, Z1, Z2, Z3⟩ := HR3.out.out
              unfold set5 set4 at hwz
              try rw [show ((0 : Nat) : Int) = 0 from rfl] at hwz
              rw [← hwz]
              obtain ⟨k0, k1, k2, k3⟩ := fact4 Z1
              obtain ⟨l0, l1, l2, l3, l4⟩ := fact5 Z2
              refine bodyPost_ret (v := .tuple #[.agg #[.int .i64 (win : Int), .string tm, .int .i64 (0 : Int), .slice A n c], .string tq, .agg #[.bool true, .bool false, .int .i64 (tv : Int), .int .i64 (s1 : Int), .int .i64 (rd : Int)]]) (by simp [results, Try.results27, go_sem, k0, k1, k2, k3, l0, l1, l2, l3, l4]) rfl ?_
              have := HQ.out wz (S'.drop s1) R' 0 true false tv s1 rd HXE.out Z3
              rw [HTM.out, HTQ.out] at this
              exact this
          · skip
            go_wp2_with fail
            refine wpOrd_op rfl ?_
            go_wp2_with fail
            refine wpOrd_op rfl ?_
            go_wp2_with fail
            refine wpOrd_val rfl ?_
            go_big_quiet_step (fail)
            refine wpQuiet_nil ?_
            refine wpOrd_op rfl ?_
            go_wp2_with fail
            refine wpOrd_nil ?_
            go_wp2_with fail
            obtain ⟨wz, hwz, Z1, Z2, Z3⟩ := HR3.out.out
            unfold set5 set4 at hwz
            try rw [show ((0 : Nat) : Int) = 0 from rfl] at hwz
            rw [← hwz]
            obtain ⟨k0, k1, k2, k3⟩ := fact4 Z1
            obtain ⟨l0, l1, l2, l3, l4⟩ := fact5 Z2
            refine bodyPost_ret (v := .tuple #[.agg #[.int .i64 (win : Int), .string tm, .int .i64 (0 : Int), .slice A n c], .string tq, .agg #[.bool true, .bool false, .int .i64 (tv : Int), .int .i64 (s1 : Int), .int .i64 (rd : Int)]]) (by simp [results, Try.results27, go_sem, k0, k1, k2, k3, l0, l1, l2, l3, l4]) rfl ?_
            have := HQ.out wz (S'.drop s1) R' 0 true false tv s1 rd HXE.out Z3
            rw [HTM.out, HTQ.out] at this
            exact this
        · skip
          go_wp2_with fail
          refine wpOrd_op rfl ?_
          go_wp2_with fail
          refine wpOrd_val rfl ?_
          go_big_quiet_step (fail)
          refine wpQuiet_nil ?_
          refine wpOrd_op rfl ?_
          go_wp2_with fail
          refine wpOrd_nil ?_
          have HR8 := hid (((HR7.out.f0 true).f2 tv).f3 s1)
          obtain ⟨w8, hw8⟩ : ∃ W, ((w7.setCell ⟨gf, 0, none⟩ (.bool true)).setCell ⟨gf, 2, none⟩ (.int .i64 (tv : Int))).setCell ⟨gf, 3, none⟩ (.int .i64 (s1 : Int)) = W := ⟨_, rfl⟩
          rw [hw8] at HR8 ⊢
          clear hw8 p0 p1 p2 p3 q0 q1 q2 q3 q4 p5 q5 pl ql
          obtain ⟨⟨p0, p1, p2, p3⟩, ⟨q0, q1, q2, q3, q4⟩, p5, q5, pl, ql⟩ := HR8.out.facts
          obtain ⟨tm, htm⟩ : ∃ x, rgT (S'.drop s1) = x := ⟨_, rfl⟩
          have HTM := hid htm
          have htme : tz.extract s1 tz.size = tm := by rw [← htm, ← HTZ.out]; exact rgT_drop S' s1
          clear htm
          go_upto_region 15 with fail
          have HR9 := hid ((HR8.out.set1 tm).set2 0)
          obtain ⟨w9, hw9⟩ : ∃ W, (w8.setCell ⟨gh, 1, none⟩ (.string tm)).setCell ⟨gh, 2, none⟩ (.int .i64 ((0 : Nat) : Int)) = W := ⟨_, rfl⟩
          have hw9' : (w8.setCell ⟨gh, 1, none⟩ (.string tm)).setCell ⟨gh, 2, none⟩ (.int .i64 0) = w9 := hw9
          rw [hw9] at HR9
          rw [hw9']
          clear hw9 hw9' p0 p1 p2 p3 q0 q1 q2 q3 q4 p5 q5 pl ql htme
          obtain ⟨⟨p0, p1, p2, p3⟩, ⟨q0, q1, q2, q3, q4⟩, p5, q5, pl, ql⟩ := HR9.out.facts
          refine wp_region_ord (.val 1 (.two 0 (.two 2 (.op 3 (.val 4 (.op 5 (.nil)))) 3 (.val 4 (.op 2 (.op 5 (.nil))))) 2 (.op 0 (.op 3 (.val 4 (.op 5 (.nil))))))) (by kernel_rfl) (by kernel_rfl) ?_
          obtain ⟨w3, hw3⟩ : ∃ W, w9.drewN 1 = W := ⟨_, rfl⟩
          have HR3 : Hid (RS w gh hr fr gf w3 win tm 0 (.slice A n c) true false tv s1 rd) := by rw [← hw3]; exact HR9.out.below (drewN_below w9 1)
          rw [hw3]
          clear hw3 p0 p1 p2 p3 q0 q1 q2 q3 q4 p5 q5 pl ql
          obtain ⟨⟨p0, p1, p2, p3⟩, ⟨q0, q1, q2, q3, q4⟩, p5, q5, pl, ql⟩ := HR3.out.facts
          obtain ⟨⟨r0, r1, r2, r3⟩, ⟨z0, z1, z2, z3, z4⟩, r5, z5, rl, zl⟩ := HR3.out.zeros
          refine wpOrd_val rfl ?_
          go_big_quiet_step (fail)
          refine wpQuiet_nil ?_
          refine wpOrd_two rfl rfl ?_ ?_
          · skip
            go_wp2_with fail
            refine wpOrd_two rfl rfl ?_ ?_
            · skip
              go_wp2_with fail
              refine wpOrd_op rfl ?_
              go_wp2_with fail
              refine wpOrd_val rfl ?_
              go_big_quiet_step (fail)
              refine wpQuiet_nil ?_
              refine wpOrd_op rfl ?_
              go_wp2_with fail
              refine wpOrd_nil ?_
              go_wp2_with fail
              obtain ⟨wz, hwz, Z1, Z2, Z3⟩ := HR3.out.out
              unfold set5 set4 at hwz
              try rw [show ((0 : Nat) : Int) = 0 from rfl] at hwz
              rw [← hwz]
              obtain ⟨k0, k1, k2, k3⟩ := fact4 Z1
              obtain ⟨l0, l1, l2, l3, l4⟩ := fact5 Z2
              refine bodyPost_ret (v := .tuple #[.agg #[.int .i64 (win : Int), .string tm, .int .i64 (0 : Int), .slice A n c], .string tq, .agg #[.bool true, .bool false, .int .i64 (tv : Int), .int .i64 (s1 : Int), .int .i64 (rd : Int)]]) (by simp [results, Try.results27, go_sem, k0, k1, k2, k3, l0, l1, l2, l3, l4]) rfl ?_
              have := HQ.out wz (S'.drop s1) R' 0 true false tv s1 rd HXE.out Z3
              rw [HTM.out, HTQ.out] at this
              exact this
            · skip
              go_wp2_with fail
              refine wpOrd_val rfl ?_
              go_big_quiet_step (fail)
              refine wpQuiet_nil ?_
              refine wpOrd_op rfl ?_
              go_wp2_with fail
              refine wpOrd_op rfl ?_
              go_wp2_with fail
              refine wpOrd_nil ?_
              go_wp2_with fail
              obtain ⟨wz, hwz, Z1, Z2, Z3⟩ := HR3.out.out
              unfold set5 set4 at hwz
              try rw [show ((0 : Nat) : Int) = 0 from rfl] at hwz
              rw [← hwz]
              obtain ⟨k0, k1, k2, k3⟩ := fact4 Z1
              obtain ⟨l0, l1, l2, l3, l4⟩ := fact5 Z2
              refine bodyPost_ret (v := .tuple #[.agg #[.int .i64 (win : Int), .string tm, .int .i64 (0 : Int), .slice A n c], .string tq, .agg #[.bool true, .bool false, .int .i64 (tv : Int), .int .i64 (s1 : Int), .int .i64 (rd : Int)]]) (by simp [results, Try.results27, go_sem, k0, k1, k2, k3, l0, l1, l2, l3, l4]) rfl ?_
              have := HQ.out wz (S'.drop s1) R' 0 true false tv s1 rd HXE.out Z3
              rw [HTM.out, HTQ.out] at this
              exact this
          · skip
            go_wp2_with fail
            refine wpOrd_op rfl ?_
            go_wp2_with fail
            refine wpOrd_op rfl ?_
            go_wp2_with fail
            refine wpOrd_val rfl ?_
            go_big_quiet_step (fail)
            refine wpQuiet_nil ?_
            refine wpOrd_op rfl ?_
            go_wp2_with fail
            refine wpOrd_nil ?_
            go_wp2_with fail
            obtain ⟨wz, hwz, Z1, Z2, Z3⟩ := HR3.out.out
            unfold set5 set4 at hwz
            try rw [show ((0 : Nat) : Int) = 0 from rfl] at hwz
            rw [← hwz]
            obtain ⟨k0, k1, k2, k3⟩ := fact4 Z1
            obtain ⟨l0, l1, l2, l3, l4⟩ := fact5 Z2
            refine bodyPost_ret (v := .tuple #[.agg #[.int .i64 (win : Int), .string tm, .int .i64 (0 : Int), .slice A n c], .string tq, .agg #[.bool true, .bool false, .int .i64 (tv : Int), .int .i64 (s1 : Int), .int .i64 (rd : Int)]]) (by simp [results, Try.results27, go_sem, k0, k1, k2, k3, l0, l1, l2, l3, l4]) rfl ?_
            have := HQ.out wz (S'.drop s1) R' 0 true false tv s1 rd HXE.out Z3
            rw [HTM.out, HTQ.out] at this
            exact this
    · obtain rfl : s' = n1 := by omega
      have hne : ((s' : Int) == (tz.size : Int)) = true := by rw [HSZ.out]; simp
      have HGO3 : Hid (lookGo win ls (N + 1) S' S'.length R' rd = X) := by rw [Hid, HN1.out]; exact HGO2.out
      clear HGO2
      cases R' with
      | nil =>
        have HXE : Hid (X = ⟨S', s', [], false, false, 0, 0, rd⟩) := by rw [Hid, ← HGO3.out, lookGo_none, HN1.out]
        rw [show rgT [] = ⟨#[]⟩ from rfl]
        clear HGO3 hsz
        go_upto_region 3 with fail
        refine wp_region_ord (.val 1 (.two 0 (.two 2 (.op 3 (.val 4 (.op 5 (.nil)))) 3 (.val 4 (.op 2 (.op 5 (.nil))))) 2 (.op 0 (.op 3 (.val 4 (.op 5 (.nil))))))) (by kernel_rfl) (by kernel_rfl) ?_
        obtain ⟨w3, hw3⟩ : ∃ W, wr.drewN 1 = W := ⟨_, rfl⟩
        have HR3 : Hid (RS w gh hr fr gf w3 win tz s' (.slice A n c) false false 0 0 rd) := by rw [← hw3]; exact HRS.out.below (drewN_below wr 1)
        rw [hw3]
        clear hw3 p0 p1 p2 p3 q0 q1 q2 q3 q4 p5 q5 pl ql
        obtain ⟨⟨p0, p1, p2, p3⟩, ⟨q0, q1, q2, q3, q4⟩, p5, q5, pl, ql⟩ := HR3.out.facts
        obtain ⟨⟨r0, r1, r2, r3⟩, ⟨z0, z1, z2, z3, z4⟩, r5, z5, rl, zl⟩ := HR3.out.zeros
        refine wpOrd_val rfl ?_
        go_big_quiet_step (fail)
        refine wpQuiet_nil ?_
        refine wpOrd_two rfl rfl ?_ ?_
        · skip
          go_wp2_with fail
          refine wpOrd_two rfl rfl ?_ ?_
          · skip
            go_wp2_with fail
            refine wpOrd_op rfl ?_
            go_wp2_with fail
            refine wpOrd_val rfl ?_
            go_big_quiet_step (fail)
            refine wpQuiet_nil ?_
            refine wpOrd_op rfl ?_
            go_wp2_with fail
            refine wpOrd_nil ?_
            go_wp2_with fail
            obtain ⟨wz, hwz, Z1, Z2, Z3⟩ := HR3.out.out
            unfold set5 set4 at hwz
            try rw [show ((0 : Nat) : Int) = 0 from rfl] at hwz
            rw [← hwz]
            obtain ⟨k0, k1, k2, k3⟩ := fact4 Z1
            obtain ⟨l0, l1, l2, l3, l4⟩ := fact5 Z2
            refine bodyPost_ret (v := .tuple #[.agg #[.int .i64 (win : Int), .string tz, .int .i64 (s' : Int), .slice A n c], .string ⟨#[]⟩, .agg #[.bool false, .bool false, .int .i64 (0 : Int), .int .i64 (0 : Int), .int .i64 (rd : Int)]]) (by simp [results, Try.results27, go_sem, k0, k1, k2, k3, l0, l1, l2, l3, l4]) rfl ?_
            have := HQ.out wz S' [] s' false false 0 0 rd HXE.out Z3
            rw [HTZ.out] at this
            exact this
          · skip
            go_wp2_with fail
            refine wpOrd_val rfl ?_
            go_big_quiet_step (fail)
            refine wpQuiet_nil ?_
            refine wpOrd_op rfl ?_
            go_wp2_with fail
            refine wpOrd_op rfl ?_
            go_wp2_with fail
            refine wpOrd_nil ?_
            go_wp2_with fail
            obtain ⟨wz, hwz, Z1, Z2, Z3⟩ := HR3.out.out
            unfold set5 set4 at hwz
            try rw [show ((0 : Nat) : Int) = 0 from rfl] at hwz
            rw [← hwz]
            obtain ⟨k0, k1, k2, k3⟩ := fact4 Z1
            obtain ⟨l0, l1, l2, l3, l4⟩ := fact5 Z2
            refine bodyPost_ret (v := .tuple #[.agg #[.int .i64 (win : Int), .string tz, .int .i64 (s' : Int), .slice A n c], .string ⟨#[]⟩, .agg #[.bool false, .bool false, .int .i64 (0 : Int), .int .i64 (0 : Int), .int .i64 (rd : Int)]]) (by simp [results, Try.results27, go_sem, k0, k1, k2, k3, l0, l1, l2, l3, l4]) rfl ?_
            have := HQ.out wz S' [] s' false false 0 0 rd HXE.out Z3
            rw [HTZ.out] at this
            exact this
        · skip
          go_wp2_with fail
          refine wpOrd_op rfl ?_
          go_wp2_with fail
          refine wpOrd_op rfl ?_
          go_wp2_with fail
          refine wpOrd_val rfl ?_
          go_big_quiet_step (fail)
          refine wpQuiet_nil ?_
          refine wpOrd_op rfl ?_
          go_wp2_with fail
          refine wpOrd_nil ?_
          go_wp2_with fail
          obtain ⟨wz, hwz, Z1, Z2, Z3⟩ := HR3.out.out
          unfold set5 set4 at hwz
          try rw [show ((0 : Nat) : Int) = 0 from rfl] at hwz
          rw [← hwz]
          obtain ⟨k0, k1, k2, k3⟩ := fact4 Z1
          obtain ⟨l0, l1, l2, l3, l4⟩ := fact5 Z2
          refine bodyPost_ret (v := .tuple #[.agg #[.int .i64 (win : Int), .string tz, .int .i64 (s' : Int), .slice A n c], .string ⟨#[]⟩, .agg #[.bool false, .bool false, .int .i64 (0 : Int), .int .i64 (0 : Int), .int .i64 (rd : Int)]]) (by simp [results, Try.results27, go_sem, k0, k1, k2, k3, l0, l1, l2, l3, l4]) rfl ?_
          have := HQ.out wz S' [] s' false false 0 0 rd HXE.out Z3
          rw [HTZ.out] at this
          exact this
      | cons ch R2 =>
        obtain ⟨tq, htq⟩ : ∃ x, rgT (ch :: R2) = x := ⟨_, rfl⟩
        have HTQ := hid htq
        have hqs : tq.size = R2.length + 1 := by rw [← htq, rgT_size]; rfl
        have hq1 : (1 : Int) ≤ (tq.size : Int) := by omega
        have hqn : ¬ tq.toList = [] := by
          have h := str_ne (a := tq) (b := ⟨#[]⟩) (fun h => by rw [h] at hqs; exact absurd hqs (by show ¬ (0 = R2.length + 1); omega))
          rwa [ByteArray.toList_eq ⟨#[]⟩] at h
        have hqb : (tq.toList == []) = false := by rw [beq_eq_false_iff_ne]; exact hqn
        rw [htq] at HMS ⊢
        have HQS := hid hqs
        clear htq hqs hsz
        by_cases hfull : s' = win
        · have hfi : ((tz.size : Int) == (win : Int)) = true := by rw [HSZ.out, hfull]; simp
          have HXE : Hid (X = ⟨S', s', ch :: R2, false, true, 0, 0, rd⟩) := by rw [Hid, ← HGO3.out, lookGo_full _ _ _ _ _ _ (by simp) (by rw [HN1.out]; exact hfull), HN1.out]
          clear HGO3 hfull
          go_upto_region 6 with fail
          have HRF := hid (HRS.out.f1 true)
          obtain ⟨wu, hwu⟩ : ∃ W, wr.setCell ⟨gf, 1, none⟩ (.bool true) = W := ⟨_, rfl⟩
          rw [hwu] at HRF ⊢
          clear hwu p0 p1 p2 p3 q0 q1 q2 q3 q4 p5 q5 pl ql
          obtain ⟨⟨p0, p1, p2, p3⟩, ⟨q0, q1, q2, q3, q4⟩, p5, q5, pl, ql⟩ := HRF.out.facts
          refine wp_region_ord (.val 1 (.two 0 (.two 2 (.op 3 (.val 4 (.op 5 (.nil)))) 3 (.val 4 (.op 2 (.op 5 (.nil))))) 2 (.op 0 (.op 3 (.val 4 (.op 5 (.nil))))))) (by kernel_rfl) (by kernel_rfl) ?_
          obtain ⟨w3, hw3⟩ : ∃ W, wu.drewN 1 = W := ⟨_, rfl⟩
          have HR3 : Hid (RS w gh hr fr gf w3 win tz s' (.slice A n c) false true 0 0 rd) := by rw [← hw3]; exact HRF.out.below (drewN_below wu 1)
          rw [hw3]
          clear hw3 p0 p1 p2 p3 q0 q1 q2 q3 q4 p5 q5 pl ql
          obtain ⟨⟨p0, p1, p2, p3⟩, ⟨q0, q1, q2, q3, q4⟩, p5, q5, pl, ql⟩ := HR3.out.facts
          obtain ⟨⟨r0, r1, r2, r3⟩, ⟨z0, z1, z2, z3, z4⟩, r5, z5, rl, zl⟩ := HR3.out.zeros
          refine wpOrd_val rfl ?_
          go_big_quiet_step (fail)
          refine wpQuiet_nil ?_
          refine wpOrd_two rfl rfl ?_ ?_
          · skip
            go_wp2_with fail
            refine wpOrd_two rfl rfl ?_ ?_
            · skip
              go_wp2_with fail
              refine wpOrd_op rfl ?_
              go_wp2_with fail
              refine wpOrd_val rfl ?_
              go_big_quiet_step (fail)
              refine wpQuiet_nil ?_
              refine wpOrd_op rfl ?_
              go_wp2_with fail
              refine wpOrd_nil ?_
              go_wp2_with fail
              obtain ⟨wz, hwz, Z1, Z2, Z3⟩ := HR3.out.out
              unfold set5 set4 at hwz
              try rw [show ((0 : Nat) : Int) = 0 from rfl] at hwz
              rw [← hwz]
              obtain ⟨k0, k1, k2, k3⟩ := fact4 Z1
              obtain ⟨l0, l1, l2, l3, l4⟩ := fact5 Z2
              refine bodyPost_ret (v := .tuple #[.agg #[.int .i64 (win : Int), .string tz, .int .i64 (s' : Int), .slice A n c], .string tq, .agg #[.bool false, .bool true, .int .i64 (0 : Int), .int .i64 (0 : Int), .int .i64 (rd : Int)]]) (by simp [results, Try.results27, go_sem, k0, k1, k2, k3, l0, l1, l2, l3, l4]) rfl ?_
              have := HQ.out wz S' (ch :: R2) s' false true 0 0 rd HXE.out Z3
              rw [HTZ.out] at this
              rw [HTQ.out] at this
              exact this
            · skip
              go_wp2_with fail
              refine wpOrd_val rfl ?_
              go_big_quiet_step (fail)
              refine wpQuiet_nil ?_
              refine wpOrd_op rfl ?_
              go_wp2_with fail
              refine wpOrd_op rfl ?_
              go_wp2_with fail
              refine wpOrd_nil ?_
              go_wp2_with fail
              obtain ⟨wz, hwz, Z1, Z2, Z3⟩ := HR3.out.out
              unfold set5 set4 at hwz
              try rw [show ((0 : Nat) : Int) = 0 from rfl] at hwz
              rw [← hwz]
              obtain ⟨k0, k1, k2, k3⟩ := fact4 Z1
              obtain ⟨l0, l1, l2, l3, l4⟩ := fact5 Z2
              refine bodyPost_ret (v := .tuple #[.agg #[.int .i64 (win : Int), .string tz, .int .i64 (s' : Int), .slice A n c], .string tq, .agg #[.bool false, .bool true, .int .i64 (0 : Int), .int .i64 (0 : Int), .int .i64 (rd : Int)]]) (by simp [results, Try.results27, go_sem, k0, k1, k2, k3, l0, l1, l2, l3, l4]) rfl ?_
              have := HQ.out wz S' (ch :: R2) s' false true 0 0 rd HXE.out Z3
              rw [HTZ.out] at this
              rw [HTQ.out] at this
              exact this
          · skip
            go_wp2_with fail
            refine wpOrd_op rfl ?_
            go_wp2_with fail
            refine wpOrd_op rfl ?_
            go_wp2_with fail
            refine wpOrd_val rfl ?_
            go_big_quiet_step (fail)
            refine wpQuiet_nil ?_
            refine wpOrd_op rfl ?_
            go_wp2_with fail
            refine wpOrd_nil ?_
            go_wp2_with fail
            obtain ⟨wz, hwz, Z1, Z2, Z3⟩ := HR3.out.out
            unfold set5 set4 at hwz
            try rw [show ((0 : Nat) : Int) = 0 from rfl] at hwz
            rw [← hwz]
            obtain ⟨k0, k1, k2, k3⟩ := fact4 Z1
            obtain ⟨l0, l1, l2, l3, l4⟩ := fact5 Z2
            refine bodyPost_ret (v := .tuple #[.agg #[.int .i64 (win : Int), .string tz, .int .i64 (s' : Int), .slice A n c], .string tq, .agg #[.bool false, .bool true, .int .i64 (0 : Int), .int .i64 (0 : Int), .int .i64 (rd : Int)]]) (by simp [results, Try.results27, go_sem, k0, k1, k2, k3, l0, l1, l2, l3, l4]) rfl ?_
            have := HQ.out wz S' (ch :: R2) s' false true 0 0 rd HXE.out Z3
            rw [HTZ.out] at this
            rw [HTQ.out] at this
            exact this
        · have hfi : ((tz.size : Int) == (win : Int)) = false := by rw [beq_eq_false_iff_ne, HSZ.out]; omega
          obtain ⟨SN, hSN⟩ : ∃ l, S' ++ [ch] = l := ⟨_, rfl⟩
          have HSNL : Hid (SN.length = s' + 1) := by rw [← hSN, Hid, List.length_append, HN1.out]; rfl
          obtain ⟨rd2, hrd2⟩ : ∃ x, rd + 1 = x := ⟨_, rfl⟩
          have hrdi : (rd : Int) + 1 = (rd2 : Int) := by omega
          have hrdb : rd ≤ 1000 := by omega
          have HGOX : Hid (X = if (dsM ls SN (s' + 1)).any id = true then ⟨SN.drop (s' + 1), 0, R2, true, false, toldA (dsM ls SN (s' + 1)), s' + 1, rd2⟩ else lookGo win ls N SN (s' + 1) R2 rd2) := by
            rw [Hid, ← HGO3.out, lookGo_new _ _ _ _ _ _ _ (by rw [HN1.out]; exact hfull), hSN, HN1.out, hrd2]
            split
            · rw [List.drop_of_length_le (by rw [HSNL.out]; omega)]
            · rfl
          have HN2 : Hid (lookN SN (s' + 1) R2 ≤ N) := by have a := HN.out; have b := HN1.out; have d := HSNL.out; have h2 : (ch :: R2).length = R2.length + 1 := rfl; unfold Hid lookN at *; omega
          have HLENB : Hid (SN.length + R2.length ≤ 1000) := by have h1 := HLEN2.out; have h2 : (ch :: R2).length = R2.length + 1 := rfl; rw [Hid, HSNL.out]; rw [HN1.out] at h1; omega
          have HRDB : Hid (rd2 + R2.length ≤ 1000) := by have h1 := HRD.out; have h2 : (ch :: R2).length = R2.length + 1 := rfl; rw [Hid]; omega
          have HADD : Hid (rgT S' ++ (rgT (ch :: R2)).extract 0 1 = rgT SN) := by rw [Hid, ← hSN]; exact rgT_add S' ch R2
          have HTAIL : Hid (tq.extract 1 tq.size = rgT R2) := by rw [Hid, ← HTQ.out]; exact rgT_tail ch R2
          obtain ⟨tn, htn⟩ : ∃ x, rgT SN = x := ⟨_, rfl⟩
          have HTN := hid htn
          have hnsz : tn.size = s' + 1 := by rw [← htn, rgT_size]; exact HSNL.out
          have hnszi : (tn.size : Int) ≤ 1000 := by have h1 := HLENB.out; rw [HSNL.out] at h1; omega
          have HNSZ := hid hnsz
          have hz1 : ((tq.extract 0 1).size : Int) ≤ 8388608 := by rw [ByteArray.size_extract]; omega
          have hz0 : (tz.size : Int) ≤ 8388608 := by omega
          have hrun1 : ∀ W : World, (Op.stringOp .add tz (tq.extract 0 1)).run Try.prog W = .ok (.string tn) W := fun W => by
            have := run_string_add (P := Try.prog) W tz (tq.extract 0 1) hz0 hz1
            rw [this, ← HTZ.out, ← HTQ.out, HADD.out, htn]
          obtain ⟨tq2, htq2⟩ : ∃ x, tq.extract 1 tq.size = x := ⟨_, rfl⟩
          have HTQ2 : Hid (rgT R2 = tq2) := by rw [Hid, ← htq2]; exact HTAIL.out.symm
          have hq2s : tq2.size + 1 = tq.size := by rw [← HTQ2.out, rgT_size, HQS.out]
          have HM2 : Hid (tq2.size + (tn.size - (s' + 1)) < refMeas (.string tq) wr gh) := by rw [Hid, HMS.out, HNSZ.out]; omega
          have HW3 : Hid (SN.length ≤ win) := by rw [Hid, HSNL.out]; omega
          clear hSN HGO3 hfull HN HMS hz1 hz0 htn hrd2 HADD HTAIL hnsz hq2s
          go_upto_region 8 with fail
          refine wp_region_ord (.val 0 (.val 2 (.val 3 (.val 5 (.val 6 (.op 1 (.val 4 (.val 7 (.op 8 (.val 9 (.nil))))))))))) (by kernel_rfl) (by kernel_rfl) ?_
          obtain ⟨w3, hw3⟩ : ∃ W, wr.drewN 1 = W := ⟨_, rfl⟩
          have HR3 : Hid (RS w gh hr fr gf w3 win tz s' (.slice A n c) false false 0 0 rd) := by rw [← hw3]; exact HRS.out.below (drewN_below wr 1)
          rw [hw3]
          clear hw3 p0 p1 p2 p3 q0 q1 q2 q3 q4 p5 q5 pl ql
          obtain ⟨⟨p0, p1, p2, p3⟩, ⟨q0, q1, q2, q3, q4⟩, p5, q5, pl, ql⟩ := HR3.out.facts
          refine wpOrd_val rfl ?_
          go_big_quiet_step (fail)
          refine wpQuiet_nil ?_
          refine wpOrd_val rfl ?_
          go_big_quiet_step (fail)
          refine wpQuiet_nil ?_
          refine wpOrd_val rfl ?_
          go_big_quiet_step (fail)
          refine wpQuiet_nil ?_
          refine wpOrd_val rfl ?_
          go_big_quiet_step (fail)
          refine wpQuiet_nil ?_
          refine wpOrd_val rfl ?_
          go_big_quiet_step (fail)
          refine wpQuiet_nil ?_
          refine wpOrd_op rfl ?_
          go_wp2_with fail
          refine wpOrd_val rfl ?_
          go_big_quiet_step (fail)
          refine wpQuiet_nil ?_
          refine wpOrd_val rfl ?_
          go_big_quiet_step (fail)
          refine wpQuiet_nil ?_
          refine wpOrd_op rfl ?_
          go_wp2_with fail
          refine wpOrd_val rfl ?_
          go_big_quiet_step (fail)
          refine wpQuiet_nil ?_
          refine wpOrd_nil ?_
          have HRW := hid ((HR3.out.set1 tn).f4 rd2)
          go_upto_region 10 with fail
          obtain ⟨w4, hw4⟩ : ∃ W, (w3.setCell ⟨gh, 1, none⟩ (.string tn)).setCell ⟨gf, 4, none⟩ (.int .i64 (rd2 : Int)) = W := ⟨_, rfl⟩
          rw [hw4] at HRW ⊢
          clear hw4 p0 p1 p2 p3 q0 q1 q2 q3 q4 p5 q5 pl ql hrun1 HRS HR3
          obtain ⟨⟨p0, p1, p2, p3⟩, ⟨q0, q1, q2, q3, q4⟩, p5, q5, pl, ql⟩ := HRW.out.facts
          obtain ⟨s1, hs1⟩ : ∃ x, s' + 1 = x := ⟨_, rfl⟩
          have hs1i : (s' : Int) + 1 = (s1 : Int) := by omega
          have hs1t : (s1 : Int) ≤ (tn.size : Int) := by rw [HNSZ.out]; omega
          have HDS : Hid (hereI ls (SN.take s1) = if (dsM ls SN s1).any id = true then (toldA (dsM ls SN s1) : Int) else -1) := by
            rw [Hid, hereI, dsM_take ls SN s1 (by rw [HSNL.out]; omega)]
          have HTK : Hid ((tn.extract 0 s1).data.toList = SN.take s1) := by rw [Hid, ← HTN.out]; exact rgT_take SN s1
          have HSS1 : Hid (s1 ≤ SN.length) := by rw [Hid, HSNL.out]; omega
          rw [hs1] at HGOX HN2 HM2
          have htvb := told_max ls SN s1 HL8.out
          obtain ⟨ds, hds⟩ : ∃ d, dsM ls SN s1 = d := ⟨_, rfl⟩
          rw [hds] at HDS HGOX htvb
          obtain ⟨tv, htv⟩ : ∃ d, toldA ds = d := ⟨_, rfl⟩
          obtain ⟨fd, hfd⟩ : ∃ d, ds.any id = d := ⟨_, rfl⟩
          rw [htv, hfd] at HDS HGOX
          rw [htv] at htvb
          clear hds htv hfd hs1
          go_upto_region 11 with fail
          have HR5 := hid (HRW.out.set2 s1)
          obtain ⟨w5, hw5⟩ : ∃ W, w4.setCell ⟨gh, 2, none⟩ (.int .i64 (s1 : Int)) = W := ⟨_, rfl⟩
          rw [hw5] at HR5 ⊢
          clear hw5 p0 p1 p2 p3 q0 q1 q2 q3 q4 p5 q5 pl ql
          obtain ⟨⟨p0, p1, p2, p3⟩, ⟨q0, q1, q2, q3, q4⟩, p5, q5, pl, ql⟩ := HR5.out.facts
          have CH2 : Hid (∀ q : BW w5.heap.size w5, Calls Try.prog 51 #[.slice A n c, .string (tn.extract 0 s1)] q.1 fun e w' => e = .returned (.int .i64 (if fd = true then (tv : Int) else -1)) ∧ Below q.1.heap.size q.1 w') := fun q => by
            have := CH.out q.1 (HR5.out.2.2.2.2.1.trans (q.2.mono HR5.out.2.2.2.2.1.size)) (tn.extract 0 s1) (by rw [ByteArray.size_extract]; omega)
            rw [HTK.out, HDS.out] at this
            exact this
          have T1 : ∀ q : BW w5.heap.size w5, q.1.cell? ⟨gh, 1, none⟩ = some (.string tn) := fun q => q.cellAt pl p1
          have T2 : ∀ q : BW w5.heap.size w5, q.1.cell? ⟨gh, 2, none⟩ = some (.int .i64 (s1 : Int)) := fun q => q.cellAt pl p2
          have T3 : ∀ q : BW w5.heap.size w5, q.1.cell? ⟨gh, 3, none⟩ = some (.slice A n c) := fun q => q.cellAt pl p3
          clear HDS HTK
          cases fd
          · have HGOZ : Hid (lookGo win ls N SN s1 R2 rd2 = X) := by rw [Hid, HGOX.out, if_neg (by decide)]
            clear HGOX
            refine wp_region_below w5.heap.size (by kernel_rfl) (by kernel_rfl) ?_
            repeat (go_big_quiet_step (first | (go_at_call 51; exact callBW2 (Nat.le_refl _) CH2.out _)))
            refine wpQuiet_nil ?_
            intro w6 hq6
            have HR6 : Hid (RS w gh hr fr gf w6 win tn s1 (.slice A n c) false false 0 0 rd2) := by obtain ⟨q, rfl⟩ := hq6; exact HR5.out.below q.2
            clear hq6 T1 T2 T3 CH2 HR5 p0 p1 p2 p3 q0 q1 q2 q3 q4 p5 q5 pl ql
            go_wp2_with fail
            go_roundw
            case rel => exact ⟨N, s1, rd2, SN, R2, tn, HN2.out, HGOZ.out, HRDB.out, HSS1.out, HW3.out, HLENB.out, by rw [HTQ2.out], HTN.out, HR6.out⟩
            case measure => rw [refMeas_is HR6.out]; exact HM2.out
          have HXE : Hid (X = ⟨SN.drop s1, 0, R2, true, false, tv, s1, rd2⟩) := by rw [Hid, HGOX.out, if_pos rfl]
          have htv0 : (0 : Int) ≤ (tv : Int) := by omega
          clear HGOX HN2 HM2
          refine wp_region_below w5.heap.size (by kernel_rfl) (by kernel_rfl) ?_
          repeat (go_big_quiet_step (first | (go_at_call 51; exact callBW2 (Nat.le_refl _) CH2.out _)))
          refine wpQuiet_nil ?_
          intro w6 hq6
          have HR6 : Hid (RS w gh hr fr gf w6 win tn s1 (.slice A n c) false false 0 0 rd2) := by obtain ⟨q, rfl⟩ := hq6; exact HR5.out.below q.2
          clear hq6 T1 T2 T3 CH2 HR5 p0 p1 p2 p3 q0 q1 q2 q3 q4 p5 q5 pl ql
          obtain ⟨⟨p0, p1, p2, p3⟩, ⟨q0, q1, q2, q3, q4⟩, p5, q5, pl, ql⟩ := HR6.out.facts
          go_upto_region 13 with fail
          refine wp_region_ord (.val 0 (.val 1 (.val 3 (.two 2 (.op 4 (.val 5 (.op 6 (.val 7 (.op 8 (.nil)))))) 4 (.val 5 (.two 2 (.op 6 (.val 7 (.op 8 (.nil)))) 6 (.op 2 (.val 7 (.op 8 (.nil)))))))))) (by kernel_rfl) (by kernel_rfl) ?_
          obtain ⟨w7, hw7⟩ : ∃ W, w6.drewN 1 = W := ⟨_, rfl⟩
          have HR7 : Hid (RS w gh hr fr gf w7 win tn s1 (.slice A n c) false false 0 0 rd2) := by rw [← hw7]; exact HR6.out.below (drewN_below w6 1)
          rw [hw7]
          clear hw7 p0 p1 p2 p3 q0 q1 q2 q3 q4 p5 q5 pl ql
          obtain ⟨⟨p0, p1, p2, p3⟩, ⟨q0, q1, q2, q3, q4⟩, p5, q5, pl, ql⟩ := HR7.out.facts
          refine wpOrd_val rfl ?_
          go_big_quiet_step (fail)
          refine wpQuiet_nil ?_
          refine wpOrd_val rfl ?_
          go_big_quiet_step (fail)
          refine wpQuiet_nil ?_
          refine wpOrd_val rfl ?_
          go_big_quiet_step (fail)
          refine wpQuiet_nil ?_
          refine wpOrd_two rfl rfl ?_ ?_
          · skip
            go_wp2_with fail
            refine wpOrd_op rfl ?_
            go_wp2_with fail
            refine wpOrd_val rfl ?_
            go_big_quiet_step (fail)
            refine wpQuiet_nil ?_
            refine wpOrd_op rfl ?_
            go_wp2_with fail
            refine wpOrd_val rfl ?_
            go_big_quiet_step (fail)
            refine wpQuiet_nil ?_
            refine wpOrd_op rfl ?_
            go_wp2_with fail
            refine wpOrd_nil ?_
            have HR8 := hid (((HR7.out.f0 true).f2 tv).f3 s1)
            obtain ⟨w8, hw8⟩ : ∃ W, ((w7.setCell ⟨gf, 0, none⟩ (.bool true)).setCell ⟨gf, 2, none⟩ (.int .i64 (tv : Int))).setCell ⟨gf, 3, none⟩ (.int .i64 (s1 : Int)) = W := ⟨_, rfl⟩
            rw [hw8] at HR8 ⊢
            clear hw8 p0 p1 p2 p3 q0 q1 q2 q3 q4 p5 q5 pl ql
            obtain ⟨⟨p0, p1, p2, p3⟩, ⟨q0, q1, q2, q3, q4⟩, p5, q5, pl, ql⟩ := HR8.out.facts
            obtain ⟨tm, htm⟩ : ∃ x, rgT (SN.drop s1) = x := ⟨_, rfl⟩
            have HTM := hid htm
            have htme : tn.extract s1 tn.size = tm := by rw [← htm, ← HTN.out]; exact rgT_drop SN s1
            clear htm
            go_upto_region 15 with fail
            have HR9 := hid ((HR8.out.set1 tm).set2 0)
            obtain ⟨w9, hw9⟩ : ∃ W, (w8.setCell ⟨gh, 1, none⟩ (.string tm)).setCell ⟨gh, 2, none⟩ (.int .i64 ((0 : Nat) : Int)) = W := ⟨_, rfl⟩
            have hw9' : (w8.setCell ⟨gh, 1, none⟩ (.string tm)).setCell ⟨gh, 2, none⟩ (.int .i64 0) = w9 := hw9
            rw [hw9] at HR9
            rw [hw9']
            clear hw9 hw9' p0 p1 p2 p3 q0 q1 q2 q3 q4 p5 q5 pl ql htme
            obtain ⟨⟨p0, p1, p2, p3⟩, ⟨q0, q1, q2, q3, q4⟩, p5, q5, pl, ql⟩ := HR9.out.facts
            refine wp_region_ord (.val 1 (.two 0 (.two 2 (.op 3 (.val 4 (.op 5 (.nil)))) 3 (.val 4 (.op 2 (.op 5 (.nil))))) 2 (.op 0 (.op 3 (.val 4 (.op 5 (.nil))))))) (by kernel_rfl) (by kernel_rfl) ?_
            obtain ⟨w3, hw3⟩ : ∃ W, w9.drewN 1 = W := ⟨_, rfl⟩
            have HR3 : Hid (RS w gh hr fr gf w3 win tm 0 (.slice A n c) true false tv s1 rd2) := by rw [← hw3]; exact HR9.out.below (drewN_below w9 1)
            rw [hw3]
            clear hw3 p0 p1 p2 p3 q0 q1 q2 q3 q4 p5 q5 pl ql
            obtain ⟨⟨p0, p1, p2, p3⟩, ⟨q0, q1, q2, q3, q4⟩, p5, q5, pl, ql⟩ := HR3.out.facts
            obtain ⟨⟨r0, r1, r2, r3⟩, ⟨z0, z1, z2, z3, z4⟩, r5, z5, rl, zl⟩ := HR3.out.zeros
            refine wpOrd_val rfl ?_
            go_big_quiet_step (fail)
            refine wpQuiet_nil ?_
            refine wpOrd_two rfl rfl ?_ ?_
            · skip
              go_wp2_with fail
              refine wpOrd_two rfl rfl ?_ ?_
              · skip
                go_wp2_with fail
                refine wpOrd_op rfl ?_
                go_wp2_with fail
                refine wpOrd_val rfl ?_
                go_big_quiet_step (fail)
                refine wpQuiet_nil ?_
                refine wpOrd_op rfl ?_
                go_wp2_with fail
                refine wpOrd_nil ?_
                go_wp2_with fail
                obtain ⟨wz, hwz, Z1, Z2, Z3⟩ := HR3.out.out
                unfold set5 set4 at hwz
                try rw [show ((0 : Nat) : Int) = 0 from rfl] at hwz
                rw [← hwz]
                obtain ⟨k0, k1, k2, k3⟩ := fact4 Z1
                obtain ⟨l0, l1, l2, l3, l4⟩ := fact5 Z2
                refine bodyPost_ret (v := .tuple #[.agg #[.int .i64 (win : Int), .string tm, .int .i64 (0 : Int), .slice A n c], .string tq2, .agg #[.bool true, .bool false, .int .i64 (tv : Int), .int .i64 (s1 : Int), .int .i64 (rd2 : Int)]]) (by simp [results, Try.results27, go_sem, k0, k1, k2, k3, l0, l1, l2, l3, l4]) rfl ?_
                have := HQ.out wz (SN.drop s1) R2 0 true false tv s1 rd2 HXE.out Z3
                rw [HTM.out, HTQ2.out] at this
                exact this
              · skip
                go_wp2_with fail
                refine wpOrd_val rfl ?_
                go_big_quiet_step (fail)
                refine wpQuiet_nil ?_
                refine wpOrd_op rfl ?_
                go_wp2_with fail
                refine wpOrd_op rfl ?_
                go_wp2_with fail
                refine wpOrd_nil ?_
                go_wp2_with fail
                obtain ⟨wz, hwz, Z1, Z2, Z3⟩ := HR3.out.out
                unfold set5 set4 at hwz
                try rw [show ((0 : Nat) : Int) = 0 from rfl] at hwz
                rw [← hwz]
                obtain ⟨k0, k1, k2, k3⟩ := fact4 Z1
                obtain ⟨l0, l1, l2, l3, l4⟩ := fact5 Z2
                refine bodyPost_ret (v := .tuple #[.agg #[.int .i64 (win : Int), .string tm, .int .i64 (0 : Int), .slice A n c], .string tq2, .agg #[.bool true, .bool false, .int .i64 (tv : Int), .int .i64 (s1 : Int), .int .i64 (rd2 : Int)]]) (by simp [results, Try.results27, go_sem, k0, k1, k2, k3, l0, l1, l2, l3, l4]) rfl ?_
                have := HQ.out wz (SN.drop s1) R2 0 true false tv s1 rd2 HXE.out Z3
                rw [HTM.out, HTQ2.out] at this
                exact this
            · skip
              go_wp2_with fail
              refine wpOrd_op rfl ?_
              go_wp2_with fail
              refine wpOrd_op rfl ?_
              go_wp2_with fail
              refine wpOrd_val rfl ?_
              go_big_quiet_step (fail)
              refine wpQuiet_nil ?_
              refine wpOrd_op rfl ?_
              go_wp2_with fail
              refine wpOrd_nil ?_
              go_wp2_with fail
              obtain ⟨wz, hwz, Z1, Z2, Z3⟩ := HR3.out.out
              unfold set5 set4 at hwz
              try rw [show ((0 : Nat) : Int) = 0 from rfl] at hwz
              rw [← hwz]
              obtain ⟨k0, k1, k2, k3⟩ := fact4 Z1
              obtain ⟨l0, l1, l2, l3, l4⟩ := fact5 Z2
              refine bodyPost_ret (v := .tuple #[.agg #[.int .i64 (win : Int), .string tm, .int .i64 (0 : Int), .slice A n c], .string tq2, .agg #[.bool true, .bool false, .int .i64 (tv : Int), .int .i64 (s1 : Int), .int .i64 (rd2 : Int)]]) (by simp [results, Try.results27, go_sem, k0, k1, k2, k3, l0, l1, l2, l3, l4]) rfl ?_
              have := HQ.out wz (SN.drop s1) R2 0 true false tv s1 rd2 HXE.out Z3
              rw [HTM.out, HTQ2.out] at this
              exact this
          · skip
            go_wp2_with fail
            refine wpOrd_val rfl ?_
            go_big_quiet_step (fail)
            refine wpQuiet_nil ?_
            refine wpOrd_two rfl rfl ?_ ?_
            · skip
              go_wp2_with fail
              refine wpOrd_op rfl ?_
              go_wp2_with fail
              refine wpOrd_val rfl ?_
              go_big_quiet_step (fail)
              refine wpQuiet_nil ?_
              refine wpOrd_op rfl ?_
              go_wp2_with fail
              refine wpOrd_nil ?_
              have HR8 := hid (((HR7.out.f0 true).f2 tv).f3 s1)
              obtain ⟨w8, hw8⟩ : ∃ W, ((w7.setCell ⟨gf, 0, none⟩ (.bool true)).setCell ⟨gf, 2, none⟩ (.int .i64 (tv : Int))).setCell ⟨gf, 3, none⟩ (.int .i64 (s1 : Int)) = W := ⟨_, rfl⟩
              rw [hw8] at HR8 ⊢
              clear hw8 p0 p1 p2 p3 q0 q1 q2 q3 q4 p5 q5 pl ql
              obtain ⟨⟨p0, p1, p2, p3⟩, ⟨q0, q1, q2, q3, q4⟩, p5, q5, pl, ql⟩ := HR8.out.facts
              obtain ⟨tm, htm⟩ : ∃ x, rgT (SN.drop s1) = x := ⟨_, rfl⟩
              have HTM := hid htm
              have htme : tn.extract s1 tn.size = tm := by rw [← htm, ← HTN.out]; exact rgT_drop SN s1
              clear htm
              go_upto_region 15 with fail
              have HR9 := hid ((HR8.out.set1 tm).set2 0)
              obtain ⟨w9, hw9⟩ : ∃ W, (w8.setCell ⟨gh, 1, none⟩ (.string tm)).setCell ⟨gh, 2, none⟩ (.int .i64 ((0 : Nat) : Int)) = W := ⟨_, rfl⟩
              have hw9' : (w8.setCell ⟨gh, 1, none⟩ (.string tm)).setCell ⟨gh, 2, none⟩ (.int .i64 0) = w9 := hw9
              rw [hw9] at HR9
              rw [hw9']
              clear hw9 hw9' p0 p1 p2 p3 q0 q1 q2 q3 q4 p5 q5 pl ql htme
              obtain ⟨⟨p0, p1, p2, p3⟩, ⟨q0, q1, q2, q3, q4⟩, p5, q5, pl, ql⟩ := HR9.out.facts
              refine wp_region_ord (.val 1 (.two 0 (.two 2 (.op 3 (.val 4 (.op 5 (.nil)))) 3 (.val 4 (.op 2 (.op 5 (.nil))))) 2 (.op 0 (.op 3 (.val 4 (.op 5 (.nil))))))) (by kernel_rfl) (by kernel_rfl) ?_
              obtain ⟨w3, hw3⟩ : ∃ W, w9.drewN 1 = W := ⟨_, rfl⟩
              have HR3 : Hid (RS w gh hr fr gf w3 win tm 0 (.slice A n c) true false tv s1 rd2) := by rw [← hw3]; exact HR9.out.below (drewN_below w9 1)
              rw [hw3]
              clear hw3 p0 p1 p2 p3 q0 q1 q2 q3 q4 p5 q5 pl ql
              obtain ⟨⟨p0, p1, p2, p3⟩, ⟨q0, q1, q2, q3, q4⟩, p5, q5, pl, ql⟩ := HR3.out.facts
              obtain ⟨⟨r0, r1, r2, r3⟩, ⟨z0, z1, z2, z3, z4⟩, r5, z5, rl, zl⟩ := HR3.out.zeros
              refine wpOrd_val rfl ?_
              go_big_quiet_step (fail)
              refine wpQuiet_nil ?_
              refine wpOrd_two rfl rfl ?_ ?_
              · skip
                go_wp2_with fail
                refine wpOrd_two rfl rfl ?_ ?_
                · skip
                  go_wp2_with fail
                  refine wpOrd_op rfl ?_
                  go_wp2_with fail
                  refine wpOrd_val rfl ?_
                  go_big_quiet_step (fail)
                  refine wpQuiet_nil ?_
                  refine wpOrd_op rfl ?_
                  go_wp2_with fail
                  refine wpOrd_nil ?_
                  go_wp2_with fail
                  obtain ⟨wz, hwz, Z1, Z2, Z3⟩ := HR3.out.out
                  unfold set5 set4 at hwz
                  try rw [show ((0 : Nat) : Int) = 0 from rfl] at hwz
                  rw [← hwz]
                  obtain ⟨k0, k1, k2, k3⟩ := fact4 Z1
                  obtain ⟨l0, l1, l2, l3, l4⟩ := fact5 Z2
                  refine bodyPost_ret (v := .tuple #[.agg #[.int .i64 (win : Int), .string tm, .int .i64 (0 : Int), .slice A n c], .string tq2, .agg #[.bool true, .bool false, .int .i64 (tv : Int), .int .i64 (s1 : Int), .int .i64 (rd2 : Int)]]) (by simp [results, Try.results27, go_sem, k0, k1, k2, k3, l0, l1, l2, l3, l4]) rfl ?_
                  have := HQ.out wz (SN.drop s1) R2 0 true false tv s1 rd2 HXE.out Z3
                  rw [HTM.out, HTQ2.out] at this
                  exact this
                · skip
                  go_wp2_with fail
                  refine wpOrd_val rfl ?_
                  go_big_quiet_step (fail)
                  refine wpQuiet_nil ?_
                  refine wpOrd_op rfl ?_
                  go_wp2_with fail
                  refine wpOrd_op rfl ?_
                  go_wp2_with fail
                  refine wpOrd_nil ?_
                  go_wp2_with fail
                  obtain ⟨wz, hwz, Z1, Z2, Z3⟩ := HR3.out.out
                  unfold set5 set4 at hwz
                  try rw [show ((0 : Nat) : Int) = 0 from rfl] at hwz
                  rw [← hwz]
                  obtain ⟨k0, k1, k2, k3⟩ := fact4 Z1
                  obtain ⟨l0, l1, l2, l3, l4⟩ := fact5 Z2
                  refine bodyPost_ret (v := .tuple #[.agg #[.int .i64 (win : Int), .string tm, .int .i64 (0 : Int), .slice A n c], .string tq2, .agg #[.bool true, .bool false, .int .i64 (tv : Int), .int .i64 (s1 : Int), .int .i64 (rd2 : Int)]]) (by simp [results, Try.results27, go_sem, k0, k1, k2, k3, l0, l1, l2, l3, l4]) rfl ?_
                  have := HQ.out wz (SN.drop s1) R2 0 true false tv s1 rd2 HXE.out Z3
                  rw [HTM.out, HTQ2.out] at this
                  exact this
              · skip
                go_wp2_with fail
                refine wpOrd_op rfl ?_
                go_wp2_with fail
                refine wpOrd_op rfl ?_
                go_wp2_with fail
                refine wpOrd_val rfl ?_
                go_big_quiet_step (fail)
                refine wpQuiet_nil ?_
                refine wpOrd_op rfl ?_
                go_wp2_with fail
                refine wpOrd_nil ?_
                go_wp2_with fail
                obtain ⟨wz, hwz, Z1, Z2, Z3⟩ := HR3.out.out
                unfold set5 set4 at hwz
                try rw [show ((0 : Nat) : Int) = 0 from rfl] at hwz
                rw [← hwz]
                obtain ⟨k0, k1, k2, k3⟩ := fact4 Z1
                obtain ⟨l0, l1, l2, l3, l4⟩ := fact5 Z2
                refine bodyPost_ret (v := .tuple #[.agg #[.int .i64 (win : Int), .string tm, .int .i64 (0 : Int), .slice A n c], .string tq2, .agg #[.bool true, .bool false, .int .i64 (tv : Int), .int .i64 (s1 : Int), .int .i64 (rd2 : Int)]]) (by simp [results, Try.results27, go_sem, k0, k1, k2, k3, l0, l1, l2, l3, l4]) rfl ?_
                have := HQ.out wz (SN.drop s1) R2 0 true false tv s1 rd2 HXE.out Z3
                rw [HTM.out, HTQ2.out] at this
                exact this
            · skip
              go_wp2_with fail
              refine wpOrd_op rfl ?_
              go_wp2_with fail
              refine wpOrd_val rfl ?_
              go_big_quiet_step (fail)
              refine wpQuiet_nil ?_
              refine wpOrd_op rfl ?_
              go_wp2_with fail
              refine wpOrd_nil ?_
              have HR8 := hid (((HR7.out.f0 true).f2 tv).f3 s1)
              obtain ⟨w8, hw8⟩ : ∃ W, ((w7.setCell ⟨gf, 0, none⟩ (.bool true)).setCell ⟨gf, 2, none⟩ (.int .i64 (tv : Int))).setCell ⟨gf, 3, none⟩ (.int .i64 (s1 : Int)) = W := ⟨_, rfl⟩
              rw [hw8] at HR8 ⊢
              clear hw8 p0 p1 p2 p3 q0 q1 q2 q3 q4 p5 q5 pl ql
              obtain ⟨⟨p0, p1, p2, p3⟩, ⟨q0, q1, q2, q3, q4⟩, p5, q5, pl, ql⟩ := HR8.out.facts
              obtain ⟨tm, htm⟩ : ∃ x, rgT (SN.drop s1) = x := ⟨_, rfl⟩
              have HTM := hid htm
              have htme : tn.extract s1 tn.size = tm := by rw [← htm, ← HTN.out]; exact rgT_drop SN s1
              clear htm
              go_upto_region 15 with fail
              have HR9 := hid ((HR8.out.set1 tm).set2 0)
              obtain ⟨w9, hw9⟩ : ∃ W, (w8.setCell ⟨gh, 1, none⟩ (.string tm)).setCell ⟨gh, 2, none⟩ (.int .i64 ((0 : Nat) : Int)) = W := ⟨_, rfl⟩
              have hw9' : (w8.setCell ⟨gh, 1, none⟩ (.string tm)).setCell ⟨gh, 2, none⟩ (.int .i64 0) = w9 := hw9
              rw [hw9] at HR9
              rw [hw9']
              clear hw9 hw9' p0 p1 p2 p3 q0 q1 q2 q3 q4 p5 q5 pl ql htme
              obtain ⟨⟨p0, p1, p2, p3⟩, ⟨q0, q1, q2, q3, q4⟩, p5, q5, pl, ql⟩ := HR9.out.facts
              refine wp_region_ord (.val 1 (.two 0 (.two 2 (.op 3 (.val 4 (.op 5 (.nil)))) 3 (.val 4 (.op 2 (.op 5 (.nil))))) 2 (.op 0 (.op 3 (.val 4 (.op 5 (.nil))))))) (by kernel_rfl) (by kernel_rfl) ?_
              obtain ⟨w3, hw3⟩ : ∃ W, w9.drewN 1 = W := ⟨_, rfl⟩
              have HR3 : Hid (RS w gh hr fr gf w3 win tm 0 (.slice A n c) true false tv s1 rd2) := by rw [← hw3]; exact HR9.out.below (drewN_below w9 1)
              rw [hw3]
              clear hw3 p0 p1 p2 p3 q0 q1 q2 q3 q4 p5 q5 pl ql
              obtain ⟨⟨p0, p1, p2, p3⟩, ⟨q0, q1, q2, q3, q4⟩, p5, q5, pl, ql⟩ := HR3.out.facts
              obtain ⟨⟨r0, r1, r2, r3⟩, ⟨z0, z1, z2, z3, z4⟩, r5, z5, rl, zl⟩ := HR3.out.zeros
              refine wpOrd_val rfl ?_
              go_big_quiet_step (fail)
              refine wpQuiet_nil ?_
              refine wpOrd_two rfl rfl ?_ ?_
              · skip
                go_wp2_with fail
                refine wpOrd_two rfl rfl ?_ ?_
                · skip
                  go_wp2_with fail
                  refine wpOrd_op rfl ?_
                  go_wp2_with fail
                  refine wpOrd_val rfl ?_
                  go_big_quiet_step (fail)
                  refine wpQuiet_nil ?_
                  refine wpOrd_op rfl ?_
                  go_wp2_with fail
                  refine wpOrd_nil ?_
                  go_wp2_with fail
                  obtain ⟨wz, hwz, Z1, Z2, Z3⟩ := HR3.out.out
                  unfold set5 set4 at hwz
                  try rw [show ((0 : Nat) : Int) = 0 from rfl] at hwz
                  rw [← hwz]
                  obtain ⟨k0, k1, k2, k3⟩ := fact4 Z1
                  obtain ⟨l0, l1, l2, l3, l4⟩ := fact5 Z2
                  refine bodyPost_ret (v := .tuple #[.agg #[.int .i64 (win : Int), .string tm, .int .i64 (0 : Int), .slice A n c], .string tq2, .agg #[.bool true, .bool false, .int .i64 (tv : Int), .int .i64 (s1 : Int), .int .i64 (rd2 : Int)]]) (by simp [results, Try.results27, go_sem, k0, k1, k2, k3, l0, l1, l2, l3, l4]) rfl ?_
                  have := HQ.out wz (SN.drop s1) R2 0 true false tv s1 rd2 HXE.out Z3
                  rw [HTM.out, HTQ2.out] at this
                  exact this
                · skip
                  go_wp2_with fail
                  refine wpOrd_val rfl ?_
                  go_big_quiet_step (fail)
                  refine wpQuiet_nil ?_
                  refine wpOrd_op rfl ?_
                  go_wp2_with fail
                  refine wpOrd_op rfl ?_
                  go_wp2_with fail
                  refine wpOrd_nil ?_
                  go_wp2_with fail
                  obtain ⟨wz, hwz, Z1, Z2, Z3⟩ := HR3.out.out
                  unfold set5 set4 at hwz
                  try rw [show ((0 : Nat) : Int) = 0 from rfl] at hwz
                  rw [← hwz]
                  obtain ⟨k0, k1, k2, k3⟩ := fact4 Z1
                  obtain ⟨l0, l1, l2, l3, l4⟩ := fact5 Z2
                  refine bodyPost_ret (v := .tuple #[.agg #[.int .i64 (win : Int), .string tm, .int .i64 (0 : Int), .slice A n c], .string tq2, .agg #[.bool true, .bool false, .int .i64 (tv : Int), .int .i64 (s1 : Int), .int .i64 (rd2 : Int)]]) (by simp [results, Try.results27, go_sem, k0, k1, k2, k3, l0, l1, l2, l3, l4]) rfl ?_
                  have := HQ.out wz (SN.drop s1) R2 0 true false tv s1 rd2 HXE.out Z3
                  rw [HTM.out, HTQ2.out] at this
                  exact this
              · skip
                go_wp2_with fail
                refine wpOrd_op rfl ?_
                go_wp2_with fail
                refine wpOrd_op rfl ?_
                go_wp2_with fail
                refine wpOrd_val rfl ?_
                go_big_quiet_step (fail)
                refine wpQuiet_nil ?_
                refine wpOrd_op rfl ?_
                go_wp2_with fail
                refine wpOrd_nil ?_
                go_wp2_with fail
                obtain ⟨wz, hwz, Z1, Z2, Z3⟩ := HR3.out.out
                unfold set5 set4 at hwz
                try rw [show ((0 : Nat) : Int) = 0 from rfl] at hwz
                rw [← hwz]
                obtain ⟨k0, k1, k2, k3⟩ := fact4 Z1
                obtain ⟨l0, l1, l2, l3, l4⟩ := fact5 Z2
                refine bodyPost_ret (v := .tuple #[.agg #[.int .i64 (win : Int), .string tm, .int .i64 (0 : Int), .slice A n c], .string tq2, .agg #[.bool true, .bool false, .int .i64 (tv : Int), .int .i64 (s1 : Int), .int .i64 (rd2 : Int)]]) (by simp [results, Try.results27, go_sem, k0, k1, k2, k3, l0, l1, l2, l3, l4]) rfl ?_
                have := HQ.out wz (SN.drop s1) R2 0 true false tv s1 rd2 HXE.out Z3
                rw [HTM.out, HTQ2.out] at this
                exact this
end Go.Proofs.Ytpkkfdmhbbipoaa
namespace Go.Proofs.Ytpkkfdmhbbipoaa
open Go.RowKit PopT

/-- Patterns in memory, within G. -/
def PatG (G : Nat → Prop) (w : World) (ls : List (List Item)) (v : Value) : Prop := ∃ A c vs, v = .slice A ls.length c ∧ w.ownsRow 0 121 1 v ls.length vs ∧ (∀ k, v.ownBlock = some k → G k) ∧ vs.length = ls.length ∧
  ∀ (i : Nat) (l : List Item), ls[i]? = some l → ∃ A c, vs[i]? = some (.slice A l.length c) ∧ w.ownsRow 0 158 5 (.slice A l.length c) l.length (itemCells l) ∧ ∀ k, (Value.slice A l.length c).ownBlock = some k → G k
theorem PatV.toG {base : Nat} {w : World} {ls : List (List Item)} {v : Value} (h : PatV base w ls v) : PatG (fun k => base ≤ k ∧ k < w.heap.size) w ls v := by
  obtain ⟨A, c, vs, rfl, h1, h2, h3⟩ := h
  refine ⟨A, c, vs, rfl, own_base h1 (Nat.zero_le _), fun k hk => h1.lt k hk, h2, fun i l hi => ?_⟩
  obtain ⟨A', c', e1, e2⟩ := h3 i l hi
  exact ⟨A', c', e1, own_base e2 (Nat.zero_le _), fun k hk => e2.lt k hk⟩
theorem PatG.toV {G : Nat → Prop} {w : World} {ls : List (List Item)} {v : Value} (h : PatG G w ls v) : PatV 0 w ls v := by
  obtain ⟨A, c, vs, rfl, h1, -, h2, h3⟩ := h
  refine ⟨A, c, vs, rfl, h1, h2, fun i l hi => ?_⟩
  obtain ⟨A', c', e1, e2, -⟩ := h3 i l hi
  exact ⟨A', c', e1, e2⟩
theorem PatG.keep {G K : Nat → Prop} {w w' : World} {ls : List (List Item)} {v : Value} (h : PatG G w ls v) (hk : Keep K w w') (hd : ∀ k, G k → ¬ K k) : PatG G w' ls v := by
  obtain ⟨A, c, vs, rfl, h1, h0, h2, h3⟩ := h
  refine ⟨A, c, vs, rfl, hk.own h1 (fun k hv => hd k (h0 k hv)), h0, h2, fun i l hi => ?_⟩
  obtain ⟨A', c', e1, e2, e3⟩ := h3 i l hi
  exact ⟨A', c', e1, hk.own e2 (fun k hv => hd k (e3 k hv)), e3⟩
theorem PatG.mono {G K : Nat → Prop} {w : World} {ls : List (List Item)} {v : Value} (h : PatG G w ls v) (hg : ∀ k, G k → K k) : PatG K w ls v := by
  obtain ⟨A, c, vs, rfl, h1, h0, h2, h3⟩ := h
  refine ⟨A, c, vs, rfl, h1, fun k hk => hg k (h0 k hk), h2, fun i l hi => ?_⟩
  obtain ⟨A', c', e1, e2, e3⟩ := h3 i l hi
  exact ⟨A', c', e1, e2, fun k hk => hg k (e3 k hk)⟩
theorem PatG.nil (w : World) : PatG (fun _ => False) w [] (.slice none 0 0) :=
  ⟨none, 0, [], rfl, World.ownsRow_nil _ _ _ _, fun k hk => by simp [Value.ownBlock] at hk, rfl, fun i l h => by simp at h⟩

/-- A window h with its ring; a ring of m bytes. -/
def HQ (B : Nat) (F : Nat → Prop) (w : World) (h g gb m win : Nat) (S : List UInt8) (seen : Nat) (R : List UInt8) (ls : List (List Item)) : Prop :=
  ∃ b0 ps P, b0 ≤ w.heap.size ∧ HoldAt b0 F w h win S seen ps P ∧ P.getD [] = ls ∧ Rg w g gb m R ∧ Foot B F w g gb
/-- The reference's window in block gx, its patterns within G. -/
def XQ (B : Nat) (G : Nat → Prop) (w : World) (gx win : Nat) (S : List UInt8) (seen : Nat) (ls : List (List Item)) (v : Value) : Prop :=
  Blk w gx 51 #[.int .i64 (win : Int), .string (rgT S), .int .i64 (seen : Int), v] ∧ PatG G w ls v ∧ B ≤ gx ∧ ¬ G gx ∧ ∀ k, G k → B ≤ k ∧ k < w.heap.size
section
variable {B h g gb m win seen gx : Nat} {F G K : Nat → Prop} {w w' : World} {S R : List UInt8} {ls : List (List Item)} {v : Value}
theorem HQ.keep (H : HQ B F w h g gb m win S seen R ls) (hk : Keep K w w') (hd : ∀ k, F k → ¬ K k) (hg : ¬ K g) (hgb : ¬ K gb) : HQ B F w' h g gb m win S seen R ls := by
  obtain ⟨b0, ps, P, h0, h1, h2, h3, h4⟩ := H
  exact ⟨b0, ps, P, Nat.le_trans h0 hk.size, h1.keep hk hd, h2, h3.keep hk hg hgb, h4.step hk.size⟩
theorem HQ.below (H : HQ B F w h g gb m win S seen R ls) (hb : Below w.heap.size w w') : HQ B F w' h g gb m win S seen R ls :=
  H.keep (K := fun _ => False) (Keep.of_below hb) (fun _ _ h => h) (fun h => h) (fun h => h)
theorem HQ.lt (H : HQ B F w h g gb m win S seen R ls) : (∀ k, F k → B ≤ k ∧ k < w.heap.size) ∧ B ≤ g ∧ B ≤ gb ∧ g < w.heap.size ∧ gb < w.heap.size ∧ ¬ F g ∧ ¬ F gb ∧ B ≤ w.heap.size := by
  obtain ⟨b0, ps, P, h0, h1, h2, h3, a1, a2, a3, a4, a5, a6, a7, a8⟩ := H
  exact ⟨fun k hk => ⟨a2 k hk, a1 k hk⟩, a6, a7, a4, a5, fun hf => a3 _ hf (.inl rfl), fun hf => a3 _ hf (.inr rfl), a8⟩
theorem HQ.bounds (H : HQ B F w h g gb m win S seen R ls) : seen ≤ S.length ∧ S.length ≤ win ∧ win ≤ 4096 ∧ R.length ≤ m ∧ 1 ≤ win := by
  obtain ⟨b0, ps, P, h0, h1, h2, h3, h4⟩ := H
  exact ⟨h1.2.2.2.2.1, h1.2.2.2.2.2.1, h1.2.2.2.1, h3.le.1, h1.2.2.1⟩
theorem XQ.keep (H : XQ B G w gx win S seen ls v) (hk : Keep K w w') (hd : ∀ k, G k → ¬ K k) (hx : ¬ K gx) : XQ B G w' gx win S seen ls v := by
  obtain ⟨h1, h2, h3, h4, h5⟩ := H
  exact ⟨hk.blk h1 hx, h2.keep hk hd, h3, h4, fun k hk' => ⟨(h5 k hk').1, Nat.lt_of_lt_of_le (h5 k hk').2 hk.size⟩⟩
theorem XQ.below (H : XQ B G w gx win S seen ls v) (hb : Below w.heap.size w w') : XQ B G w' gx win S seen ls v :=
  H.keep (K := fun _ => False) (Keep.of_below hb) (fun _ _ h => h) (fun h => h)
/-- The reference's window is set anew: other bytes, the same patterns. -/
theorem XQ.set (H : XQ B G w gx win S seen ls v) (S' : List UInt8) (seen' : Nat) : XQ B G (set4 w gx (.int .i64 (win : Int)) (.string (rgT S')) (.int .i64 (seen' : Int)) v) gx win S' seen' ls v := by
  obtain ⟨h1, h2, h3, h4, h5⟩ := H
  have hk : Keep (fun k => k = gx) w (set4 w gx (.int .i64 (win : Int)) (.string (rgT S')) (.int .i64 (seen' : Int)) v) := by
    unfold set4
    exact (((Keep.setCell (fun k => k = gx) w ⟨gx, 0, none⟩ _ rfl).trans (Keep.setCell (fun k => k = gx) _ ⟨gx, 1, none⟩ _ rfl) (fun _ => .inl)).trans (Keep.setCell (fun k => k = gx) _ ⟨gx, 2, none⟩ _ rfl) (fun _ => .inl)).trans (Keep.setCell (fun k => k = gx) _ ⟨gx, 3, none⟩ _ rfl) (fun _ => .inl)
  exact ⟨set4_blk h1 _ _ _ _, h2.keep hk (fun k hg e => h4 (e ▸ hg)), h3, h4, fun k hk' => ⟨(h5 k hk').1, Nat.lt_of_lt_of_le (h5 k hk').2 hk.size⟩⟩
end
end Go.Proofs.Ytpkkfdmhbbipoaa
namespace Go.Proofs.Ytpkkfdmhbbipoaa
open Go.RowKit PopT

abbrev Prot := List (Nat × TypeId × Array Value)
def HX (B : Nat) (W : World) (h g gb gx m win : Nat) (S : List UInt8) (seen : Nat) (R : List UInt8) (ls : List (List Item)) (S2 : List UInt8) (seen2 : Nat) (ls2 : List (List Item)) (v : Value) (pr : Prot) : Prop :=
  ∃ F G, HQ B F W h g gb m win S seen R ls ∧ XQ B G W gx win S2 seen2 ls2 v ∧ (∀ k, G k → ¬ F k ∧ k ≠ g ∧ k ≠ gb) ∧ (¬ F gx ∧ gx ≠ g ∧ gx ≠ gb) ∧ ∀ b ∈ pr, Blk W b.1 b.2.1 b.2.2 ∧ B ≤ b.1 ∧ (¬ F b.1 ∧ b.1 ≠ g ∧ b.1 ≠ gb) ∧ b.1 ≠ gx ∧ ¬ G b.1
section
variable {B h g gb gx m win seen seen2 : Nat} {W W' : World} {S R S2 : List UInt8} {ls ls2 : List (List Item)} {v : Value} {pr : Prot}
theorem HX.below (H : HX B W h g gb gx m win S seen R ls S2 seen2 ls2 v pr) (hb : Below W.heap.size W W') : HX B W' h g gb gx m win S seen R ls S2 seen2 ls2 v pr := by
  obtain ⟨F, G, h1, h2, h3, h4, h5⟩ := H
  exact ⟨F, G, h1.below hb, h2.below hb, h3, h4, fun b hb' => ⟨(h5 b hb').1.below hb (h5 b hb').1.lt, (h5 b hb').2⟩⟩
theorem HX.size (H : HX B W h g gb gx m win S seen R ls S2 seen2 ls2 v pr) : B ≤ W.heap.size := by
  obtain ⟨F, G, h1, -⟩ := H; exact h1.lt.2.2.2.2.2.2.2
theorem HX.bounds (H : HX B W h g gb gx m win S seen R ls S2 seen2 ls2 v pr) : seen ≤ S.length ∧ S.length ≤ win ∧ win ≤ 4096 ∧ R.length ≤ m ∧ 1 ≤ win := by
  obtain ⟨F, G, h1, -⟩ := H; exact h1.bounds
theorem HX.pat (H : HX B W h g gb gx m win S seen R ls S2 seen2 ls2 v pr) : PatV 0 W ls2 v := by
  obtain ⟨F, G, -, h2, -⟩ := H; exact h2.2.1.toV
theorem HX.far (H : HX B W h g gb gx m win S seen R ls S2 seen2 ls2 v pr) {b : Nat} {t : TypeId} {cs : Array Value} (hb : (b, t, cs) ∈ pr) : b ≠ gx := by
  obtain ⟨F, G, -, -, -, -, h5⟩ := H; exact (h5 _ hb).2.2.2.1
theorem HX.drop {b : Nat × TypeId × Array Value} (H : HX B W h g gb gx m win S seen R ls S2 seen2 ls2 v (b :: pr)) : HX B W h g gb gx m win S seen R ls S2 seen2 ls2 v pr := by
  obtain ⟨F, G, h1, h2, h3, h4, h5⟩ := H
  exact ⟨F, G, h1, h2, h3, h4, fun b hb => h5 b (List.mem_cons_of_mem _ hb)⟩
theorem set4_keep (w : World) (g : Nat) (a b c d : Value) : Keep (fun k => k = g) w (set4 w g a b c d) := by
  unfold set4
  exact (((Keep.setCell (fun k => k = g) w ⟨g, 0, none⟩ _ rfl).trans (Keep.setCell (fun k => k = g) _ ⟨g, 1, none⟩ _ rfl) (fun _ => .inl)).trans (Keep.setCell (fun k => k = g) _ ⟨g, 2, none⟩ _ rfl) (fun _ => .inl)).trans (Keep.setCell (fun k => k = g) _ ⟨g, 3, none⟩ _ rfl) (fun _ => .inl)
end
theorem later {T G : Prop} (m : T → G) (k : T) : G := m k
end Go.Proofs.Ytpkkfdmhbbipoaa
namespace Go.Proofs.Ytpkkfdmhbbipoaa
open Go.ChangeShapes Go.WideShapes Go.ChangeAt Go.RowKit Go.WideElems Go.Deep

structure ActV where
  kind : Int
  s : ByteArray
  p : List ByteArray
def ActV.cells (a : ActV) (v : Value) : List Value := [.int .i64 a.kind, .string a.s, v]
def TextsIn (W : World) (p : List ByteArray) (v : Value) : Prop := ∃ A c, v = .slice A p.length c ∧ Rd W A (textCells p)
def actCells (xs : List (ActV × Value)) : List Value := xs.flatMap fun b => b.1.cells b.2
def ActsIn (W : World) (A : Option Addr) (l : List ActV) : Prop := ∃ xs : List (ActV × Value), xs.map Prod.fst = l ∧ Rd W A (actCells xs) ∧ ∀ x ∈ xs, TextsIn W x.1.p x.2
theorem TextsIn.below {W W' : World} {p : List ByteArray} {v : Value} (h : TextsIn W p v) (hb : Below W.heap.size W W') : TextsIn W' p v := by
  obtain ⟨A, c, rfl, h⟩ := h
  exact ⟨A, c, rfl, h.below hb⟩
theorem actCells_get (xs : List (ActV × Value)) (k : Nat) (h : k < xs.length) : (actCells xs)[k * 3]? = some (.int .i64 (xs[k]).1.kind) ∧ (actCells xs)[k * 3 + 1]? = some (.string (xs[k]).1.s) ∧ (actCells xs)[k * 3 + 2]? = some (xs[k]).2 := by
  induction xs generalizing k with
  | nil => simp at h
  | cons x xs ih =>
    have e : actCells (x :: xs) = x.1.cells x.2 ++ actCells xs := rfl
    cases k with
    | zero => exact ⟨rfl, rfl, rfl⟩
    | succ k =>
      have := ih k (by simpa using h)
      have hl : (x.1.cells x.2).length = 3 := rfl
      rw [e, List.getElem?_append_right (by rw [hl]; omega), List.getElem?_append_right (by rw [hl]; omega), List.getElem?_append_right (by rw [hl]; omega), hl]
      rw [show (k + 1) * 3 - 3 = k * 3 from by omega, show (k + 1) * 3 + 1 - 3 = k * 3 + 1 from by omega, show (k + 1) * 3 + 2 - 3 = k * 3 + 2 from by omega]
      simpa using this
theorem ActsIn.at {W : World} {A : Option Addr} {l : List ActV} (h : ActsIn W A l) (k : Nat) (hk : k < l.length) : ∃ b off v, A = some ⟨b, off, none⟩ ∧ b < W.heap.size ∧ TextsIn W (l[k]).p v ∧
    W.cell? ⟨b, off + k * 3, none⟩ = some (.int .i64 (l[k]).kind) ∧ W.cell? ⟨b, off + k * 3 + 1, none⟩ = some (.string (l[k]).s) ∧ W.cell? ⟨b, off + k * 3 + 2, none⟩ = some v := by
  obtain ⟨xs, rfl, hr, ht⟩ := h
  rw [List.length_map] at hk
  obtain ⟨a1, a2, a3⟩ := actCells_get xs k hk
  have hne : 0 < (actCells xs).length := by
    have := (List.getElem?_eq_some_iff.1 a1).1; omega
  obtain ⟨b, off, rfl, hb, hc⟩ := hr.at hne
  refine ⟨b, off, (xs[k]).2, rfl, hb, ?_, ?_, ?_, hc _ _ a3⟩
  · rw [List.getElem_map]; exact ht _ (List.getElem_mem hk)
  · rw [List.getElem_map]; exact hc _ _ a1
  · rw [List.getElem_map]; exact hc _ _ a2
theorem ActsIn.below {W W' : World} {A : Option Addr} {l : List ActV} (h : ActsIn W A l) (hb : Below W.heap.size W W') : ActsIn W' A l := by
  obtain ⟨xs, h1, h2, h3⟩ := h
  exact ⟨xs, h1, h2.below hb, fun x hx => (h3 x hx).below hb⟩
section
variable {H : Type} {enc : TypeId × Value → H}
end
end Go.Proofs.Ytpkkfdmhbbipoaa
