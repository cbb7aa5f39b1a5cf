/- The walk of a window's look. -/
import Derived.Test.YtpkkfdmhbbipoaaGreatPh
namespace Go.Proofs.YtpkkfdmhbbipoaaGreat
open Go.RowKit PopT
def foundV (mt fl : Bool) (arm gone rd : Nat) : Value := .agg #[.bool mt, .bool fl, .int .i64 (arm : Int), .int .i64 (gone : Int), .int .i64 (rd : Int)]
def set5 (w : World) (g : Nat) (a b c d e : Value) : World := ((((w.setCell ⟨g, 0, none⟩ a).setCell ⟨g, 1, none⟩ b).setCell ⟨g, 2, none⟩ c).setCell ⟨g, 3, none⟩ d).setCell ⟨g, 4, none⟩ e
theorem set5_blk {w : World} {g : Nat} {t : TypeId} {x0 x1 x2 x3 x4 : Value} (h : Blk w g t #[x0, x1, x2, x3, x4]) (a b c d e : Value) : Blk (set5 w g a b c d e) g t #[a, b, c, d, e] := by
 have h0 : Blk _ g t #[a, x1, x2, x3, x4] := h.set 0 a
 have h1 : Blk _ g t #[a, b, x2, x3, x4] := h0.set 1 b
 have h2 : Blk _ g t #[a, b, c, x3, x4] := h1.set 2 c
 have h3 : Blk _ g t #[a, b, c, d, x4] := h2.set 3 d
 exact h3.set 4 e
theorem set5_keep {G : Nat → Prop} {w0 w : World} {g : Nat} (h : Keep G w0 w) (hg : G g) (a b c d e : Value) : Keep G w0 (set5 w g a b c d e) :=
 ((((h.trans (Keep.setCell G w ⟨g, 0, none⟩ a hg) (fun _ => .inl)).trans (Keep.setCell G _ ⟨g, 1, none⟩ b hg) (fun _ => .inl)).trans (Keep.setCell G _ ⟨g, 2, none⟩ c hg) (fun _ => .inl)).trans (Keep.setCell G _ ⟨g, 3, none⟩ d hg) (fun _ => .inl)).trans (Keep.setCell G _ ⟨g, 4, none⟩ e hg) (fun _ => .inl)
theorem set5_self (w : World) (g : Nat) (a b c d e : Value) : Keep (fun k => k = g) w (set5 w g a b c d e) := set5_keep (G := fun k => k = g) (Keep.refl _ w) rfl a b c d e
theorem fact5 {w : World} {g : Nat} {t : TypeId} {a b c d e : Value} (h : Blk w g t #[a, b, c, d, e]) : w.cell? ⟨g, 0, none⟩ = some a ∧ w.cell? ⟨g, 1, none⟩ = some b ∧ w.cell? ⟨g, 2, none⟩ = some c ∧ w.cell? ⟨g, 3, none⟩ = some d ∧ w.cell? ⟨g, 4, none⟩ = some e :=
 ⟨h.cell 0, h.cell 1, h.cell 2, h.cell 3, h.cell 4⟩
def lookMeas (w : World) (h g : Nat) : Nat :=
 (match w.cell? ⟨g, 2, none⟩ with | some (.int _ n) => n.toNat | _ => 0) + ((match w.cell? ⟨h, 1, none⟩ with | some (.slice _ n _) => n | _ => 0) - (match w.cell? ⟨h, 2, none⟩ with | some (.int _ s) => s.toNat | _ => 0))
theorem lookMeas_is {base h win seen g gb m : Nat} {F : Nat → Prop} {w : World} {S R : List UInt8} {ps : List ByteArray} {P : Option (List (List Item))} (hh : HoldAt base F w h win S seen ps P) (hr : Rg w g gb m R) : lookMeas w h g = R.length + (S.length - seen) := by
 obtain ⟨h0, h1, h2, h3, h4, h5, vb, vp, va, a1, a2, a3, a4⟩ := hh
 obtain ⟨A, c, rfl, -, -⟩ := a2.shape
 obtain ⟨first, buf, r1, r2⟩ := hr
 have e1 := a1.cell 1
 have e2 := a1.cell 2
 have e3 := r1.1.cell 2
 simp only [List.getElem?_toArray, List.getElem?_cons_zero, List.getElem?_cons_succ] at e1 e2 e3
 unfold lookMeas
 rw [e1, e2, e3]
 simp
theorem hold_push {base h win seen : Nat} {F : Nat → Prop} {w w5 : World} {S : List UInt8} {ps : List ByteArray} {P : Option (List (List Item))} {vb vp va : Value} {n : Nat} {xs : List Value}
  (a1 : Blk w h 161 #[.int .i64 (win : Int), vb, .int .i64 (seen : Int), vp, va]) (a3 : OwnF F w base 9 1 vp ps.length (textCells ps)) (a4 : ArmIn base F w va P S seen)
  (hk : Keep (fun k => vb.ownBlock = some k ∧ w.ownsRow base 5 1 vb n xs) w w5) :
  Blk w5 h 161 #[.int .i64 (win : Int), vb, .int .i64 (seen : Int), vp, va] ∧ OwnF F w5 base 9 1 vp ps.length (textCells ps) ∧ ArmIn base F w5 va P S seen := by
 have key : ∀ (k : Nat) (t : TypeId) (cs : Array Value), Blk w k t cs → t ≠ 5 → ¬ (vb.ownBlock = some k ∧ w.ownsRow base 5 1 vb n xs) := fun k t cs hb ht h => blk_ne hb h.2 (Ne.symm ht) h.1
 refine ⟨hk.blk a1 (key h _ _ a1 (by decide)), ?_, ?_⟩
 ·rcases a3 with e | ⟨e1, e2⟩
  ·exact .inl e
  ·refine .inr ⟨hk.own e1 (fun k hv h => ?_), e2⟩
   rcases own_ne e1 h.2 (by decide) with h3 | h3
   ·rw [h3] at hv; cases hv
   ·rw [hv, h.1] at h3; exact h3 rfl
 ·rcases a4 with e | ⟨ls, b, ar, h1, h2, h3, h4, h5, h6, h7, h8⟩
  ·exact .inl e
  ·have hb : ¬ (vb.ownBlock = some b ∧ w.ownsRow base 5 1 vb n xs) := by
    obtain ⟨-, ⟨A, c, hk, ho⟩, -⟩ := h3
    exact key b _ _ hk (by decide)
   have e : w5.cell? ⟨b, 0, none⟩ = w.cell? ⟨b, 0, none⟩ := World.cell?_of_block (hk.block b h3.blkLt hb)
   refine .inr ⟨ls, b, ar, h1, h2, h3.keep hk (fun k hf => ?_) (fun a ha => ?_), h4, h5, h6, fun k hf => h7 k ((AF.eq e k).1 hf), h8⟩
   ·rcases hf with rfl | ⟨v, e1, e2⟩
    ·exact hb
    ·obtain ⟨-, ⟨A, c, hkk, ho⟩, -⟩ := h3
     have e3 := (hkk.cell 0).symm.trans e1
     injection e3 with e3
     subst e3
     intro h
     have e2' : (Value.slice A (armsTo ar S seen).length c).ownBlock = some k := e2
     rcases own_ne ho h.2 (by decide) with h3 | h3
     ·rw [h3] at e2'; cases e2'
     ·rw [e2', h.1] at h3; exact h3 rfl
   ·obtain ⟨cs, hcs⟩ := (h3.2.2 a ha).1.2
    exact key a.g _ _ hcs (by decide)
theorem ownX {base n : Nat} {F : Nat → Prop} {w : World} {v : Value} {xs : List Value} (h : OwnF F w base 5 1 v n xs) : OwnF (fun k => (v.ownBlock = some k ∧ w.ownsRow base 5 1 v n xs) ∧ F k) w base 5 1 v n xs := by
 rcases h with h | ⟨h, hf⟩
 ·exact .inl h
 ·exact .inr ⟨h, fun k hk => ⟨⟨hk, h⟩, hf k hk⟩⟩
theorem below2' (w : World) (a b : Obj) : Below w.heap.size w ((w.alloc a).alloc b) := ((Below.refl _ _).alloc (Nat.le_refl _) _).alloc (by simp) _
theorem new2' (w : World) (o : Obj) (t : TypeId) (cs : Array Value) : Blk ((w.alloc o).alloc (.cells cs t)) (w.heap.size + 1) t cs := by
 have := Blk.new (w.alloc o) t cs
 simpa using this
set_option maxRecDepth 20000 in
set_option maxHeartbeats 8000000 in
theorem hoLook_any (base h win seen g gb m : Nat) (F : Nat → Prop) (S R : List UInt8) (ps : List ByteArray) (P : Option (List (List Item))) (w : World) (hh : HoldAt base F w h win S seen ps P) (hr : Rg w g gb m R) (hd : ∀ k, F k → ¬ RgF g gb k) (hfin : ∀ k, F k → k < w.heap.size) (hbw : base ≤ w.heap.size) :
  Calls Tryz.prog 152 #[.pointer (some ⟨h, 0, none⟩), .pointer (some ⟨g, 0, none⟩)] w fun e w' =>
   e = .returned (foundV (lookM win (P.getD []) S seen R).mtch (lookM win (P.getD []) S seen R).full (lookM win (P.getD []) S seen R).arm (lookM win (P.getD []) S seen R).gone (lookM win (P.getD []) S seen R).read) ∧
   HoldAt base (Fup F w w') w' h win (lookM win (P.getD []) S seen R).S (lookM win (P.getD []) S seen R).seen ps P ∧ Rg w' g gb m (lookM win (P.getD []) S seen R).R ∧ Keep (fun k => F k ∨ RgF g gb k) w w' := by
 obtain ⟨X, hX⟩ : ∃ X, lookM win (P.getD []) S seen R = X := ⟨_, rfl⟩
 rw [hX]
 have HGO : Hid (∃ N, lookN S seen R ≤ N ∧ lookGo win (P.getD []) N S seen R 0 = X) := ⟨_, Nat.le_refl _, hX⟩
 have HH := hid hh; have HR := hid hr; have HD := hid hd; have HFIN := hid hfin
 have hglt := hr.lt
 clear hX hh hr hd hfin
 go_enter Tryz.func152, Tryz.ntmps152
 go_upto_region 2 with fail
 obtain ⟨w0, hw0⟩ : ∃ W, (w.alloc (.cells #[.bool false, .bool false, .int .i64 0, .int .i64 0, .int .i64 0] 179)).alloc (.cells #[.bool false, .bool false, .int .i64 0, .int .i64 0, .int .i64 0] 179) = W := ⟨_, rfl⟩
 have HB0 : Hid (Below w.heap.size w w0) := by rw [← hw0]; exact below2' _ _ _
 have HG0 : Hid (Blk w0 w.heap.size 179 #[.bool false, .bool false, .int .i64 0, .int .i64 0, .int .i64 0]) := by rw [← hw0]; exact (Blk.new w _ _).alloc _
 have HF0 : Hid (Blk w0 (w.heap.size + 1) 179 #[.bool false, .bool false, .int .i64 0, .int .i64 0, .int .i64 0]) := by rw [← hw0]; exact new2' _ _ _ _
 have HS0 : Hid (w0.heap.size = w.heap.size + 2) := by rw [Hid, ← hw0]; simp
 rw [hw0]
 clear hw0
 obtain ⟨gr, hgr⟩ : ∃ x, w.heap.size = x := ⟨_, rfl⟩
 rw [hgr] at HG0 HF0 ⊢
 obtain ⟨gf, hgf⟩ : ∃ x, gr + 1 = x := ⟨_, rfl⟩
 rw [hgf] at HF0 ⊢
 -- the blocks of the two that are told lie in no footprint
 have HNF : Hid (∀ W, ¬ Fup F w0 W gf ∧ ¬ Fup F w0 W gr) := fun W => by
  have h1 := HS0.out
  constructor
  ·rintro (h | h)
   ·have := HFIN.out _ h; omega
   ·omega
  ·rintro (h | h)
   ·have := HFIN.out _ h; omega
   ·omega
 have HDU : Hid (∀ W k, Fup F w0 W k → ¬ RgF g gb k) := fun W k hk => by
  have h1 := HS0.out
  rcases hk with h | h
  ·exact HD.out k h
  ·rintro (h | h) <;> omega
 have HGN : Hid (g ≠ gf ∧ g ≠ gr ∧ gb ≠ gf ∧ gb ≠ gr ∧ gf ≠ gr ∧ gf < w0.heap.size ∧ gr < w0.heap.size) := by
  have h1 := HS0.out
  refine ⟨?_, ?_, ?_, ?_, ?_, ?_, ?_⟩ <;> omega
 obtain ⟨G, hG⟩ : ∃ G : Nat → Prop, (fun k => (F k ∨ RgF g gb k) ∨ k = gf ∨ k = gr) = G := ⟨_, rfl⟩
 have HG1 : Hid (∀ k, G k ↔ ((F k ∨ RgF g gb k) ∨ k = gf ∨ k = gr)) := fun k => by rw [← hG]
 have HFIX : Hid (∀ W, Keep G w0 W → Keep (fun k => F k ∨ RgF g gb k) w W) := fun W h =>
  (Keep.of_below HB0.out).trans h (fun k hk => by
   rcases (HG1.out k).1 hk with h | h | h
   ·exact .inl h
   ·right; omega
   ·right; omega)
 have hbw0 : base ≤ w0.heap.size := by have := HS0.out; omega
 clear hG
 have HI : Hid (HoldAt base (Fup F w0 w0) w0 h win S seen ps P) := (HH.out.below HB0.out).mono (fun k hk => .inl hk)
 have HRI : Hid (Rg w0 g gb m R) := HR.out.below HB0.out
 have HWS : Hid (∀ W, w0.heap.size ≤ W.heap.size → w.heap.size ≤ W.heap.size ∧ ∀ k, Fup F w0 W k → Fup F w W k) := fun W hW => by
  have h1 := HS0.out
  exact ⟨by omega, fun k hk => hk.imp id fun h => ⟨by omega, h.2⟩⟩
 clear hgr hgf hglt hbw
 obtain ⟨ls, hls⟩ : ∃ l, P.getD [] = l := ⟨_, rfl⟩
 have HLS := hid hls
 rw [hls] at HGO
 clear hls
 go_wp2_with fail
 go_loopw [6] (fun _ wr => ∃ (N s' rd : Nat) (S' R' : List UInt8), lookN S' s' R' ≤ N ∧ lookGo win ls N S' s' R' rd = X ∧ rd ≤ 1000000000 - R'.length ∧ HoldAt base (Fup F w0 wr) wr h win S' s' ps P ∧ Rg wr g gb m R' ∧ Blk wr gf 179 #[.bool false, .bool false, .int .i64 0, .int .i64 0, .int .i64 (rd : Int)] ∧ Blk wr gr 179 #[.bool false, .bool false, .int .i64 0, .int .i64 0, .int .i64 0] ∧ Keep G w0 wr) (fun _ wr => lookMeas wr h g)
 case atStart =>
  obtain ⟨N, h1, h2⟩ := HGO.out
  exact ⟨N, seen, 0, S, R, h1, h2, Nat.zero_le _, HI.out, HRI.out, HF0.out, HG0.out, Keep.refl _ _⟩
 case round =>
  obtain ⟨N, s', rd, S', R', hN, hgo, hrd, hhold, hring, hbf, hbr, hkeep⟩ := hrel
  have HN := hid hN; have HGO2 := hid hgo; have HHO := hid hhold; have HRI2 := hid hring; have HBF := hid hbf; have HBR := hid hbr; have HKE := hid hkeep
  have HMS := hid (lookMeas_is hhold hring)
  have hle := hring.le
  have hw0r : w0.heap.size ≤ wr.heap.size := hkeep.size
  obtain ⟨N, rfl⟩ : ∃ n, N = n + 1 := ⟨N - 1, by have := lookN_pos S' s' R'; omega⟩
  clear hN hgo hring hbf hbr hkeep HGO HI HRI HF0 HG0 HH HR
  obtain ⟨h0, h1, h2, h3, h4, h5, vb, vp, va, a1, a2, a3, a4⟩ := hhold
  obtain ⟨A, c, rfl, -, -⟩ := a2.shape
  obtain ⟨n, hn⟩ : ∃ n, S'.length = n := ⟨_, rfl⟩
  have HNS := hid hn
  rw [hn] at a1 a2 h4 h5
  have A1 := hid a1; have A2 := hid a2; have A3 := hid a3; have A4 := hid a4
  have q0 := a1.cell 0; have q1 := a1.cell 1; have q2 := a1.cell 2
  simp only [List.getElem?_toArray, List.getElem?_cons_zero, List.getElem?_cons_succ] at q0 q1 q2
  have ql := a1.lt
  have HX := hid (And.intro h0 (And.intro h1 (And.intro h2 (And.intro h3 (And.intro h4 h5)))))
  clear h0 h1 a1 a2 a3 a4 hn
  by_cases hlt : s' < n
  ·have hne : ((s' : Int) == (n : Int)) = false := by rw [beq_eq_false_iff_ne]; omega
   have HOLD := hid HHO.out
   have HGOX : Hid (X = if (dsM ls S' (s' + 1)).any id = true then ⟨S'.drop (s' + 1), 0, R', true, false, toldA (dsM ls S' (s' + 1)), s' + 1, rd⟩ else lookGo win ls N S' (s' + 1) R' rd) := by
    rw [Hid, ← HGO2.out, lookGo_old _ _ _ _ _ _ _ (by rw [HNS.out]; exact hlt)]
   have HN2 : Hid (lookN S' (s' + 1) R' ≤ N) := by have a := HN.out; have b := HNS.out; unfold Hid lookN at *; omega
   have HM2 : Hid (R'.length + (S'.length - (s' + 1)) < lookMeas wr h g) := by rw [Hid, HMS.out, HNS.out]; omega
   have HSL : Hid (s' < S'.length) := by rw [Hid, HNS.out]; exact hlt
   clear HGO2 HN HMS A1 A2 A3 A4
   go_wp2_with fail
   go_quiet (fail)
   obtain ⟨wq, hwq⟩ : ∃ W, wr.drewN nq = W := ⟨_, rfl⟩
   have HBQ : Hid (Below wr.heap.size wr wq) := by rw [← hwq]; exact drewN_below wr nq
   rw [hwq]
   clear hwq q0 q1 q2 ql
   have W1 : Hid (HoldAt base (Fup F w0 wq) wq h win S' s' ps P) := (HOLD.out.below HBQ.out).mono (fun k hk => Fup.mono HBQ.out.size hk)
   have W2 : Hid (Rg wq g gb m R') := HRI2.out.below HBQ.out
   have W3 := hid (HBF.out.below HBQ.out HBF.out.lt)
   have W4 := hid (HBR.out.below HBQ.out HBR.out.lt)
   have W5 : Hid (Keep G w0 wq) := HKE.out.trans (Keep.of_below (F := G) HBQ.out) (fun _ => .inl)
   clear HOLD HRI2 HBF HBR HKE HBQ HHO
   obtain ⟨s1, hs1⟩ : ∃ x, s' + 1 = x := ⟨_, rfl⟩
   have hs1a : 1 ≤ s1 := by omega
   have CN := hid (hoNext_any base h win s' (Fup F w0 wq) S' ps P wq W1.out HSL.out (Nat.le_trans hbw0 W5.out.size))
   rw [HLS.out] at CN
   rw [hs1] at CN HGOX HN2 HM2
   obtain ⟨ds, hds⟩ : ∃ d, dsM ls S' s1 = d := ⟨_, rfl⟩
   rw [hds] at CN HGOX
   obtain ⟨tv, htv⟩ : ∃ d, toldA ds = d := ⟨_, rfl⟩
   obtain ⟨fd, hfd⟩ : ∃ d, ds.any id = d := ⟨_, rfl⟩
   rw [htv, hfd] at CN HGOX
   clear hds htv hfd
   go_wp2_with fail
   refine CN.out.mono ?_
   rintro en w3 ⟨rfl, x1, x2⟩
   have V1 : Hid (HoldAt base (Fup F w0 w3) w3 h win S' s1 ps P) := x1.mono (fun k hk => Fup.trans W5.out.size x2.size hk)
   have V2 : Hid (Rg w3 g gb m R') := W2.out.keep x2 (fun hg => HDU.out wq g hg (.inl rfl)) (fun hg => HDU.out wq gb hg (.inr rfl))
   have V3 := hid (x2.blk W3.out (HNF.out wq).1)
   have V4 := hid (x2.blk W4.out (HNF.out wq).2)
   have V5 : Hid (Keep G w0 w3) := W5.out.upTrans x2 (fun k hk => (HG1.out k).2 (.inl (.inl hk)))
   have hsz3 : wq.heap.size ≤ w3.heap.size := x2.size
   clear CN x1 x2 W1 W2 W3 W4 W5
   cases fd
   ·have HGOZ : Hid (lookGo win ls N S' s1 R' rd = X) := by rw [Hid, HGOX.out, if_neg (by decide)]
    clear HGOX
    go_wp2_with fail
    go_roundw
    case rel => exact ⟨N, s1, rd, S', R', HN2.out, HGOZ.out, hrd, V1.out, V2.out, V3.out, V4.out, V5.out⟩
    case measure => rw [lookMeas_is V1.out V2.out]; exact HM2.out
   have HXE : Hid (X = ⟨S'.drop s1, 0, R', true, false, tv, s1, rd⟩) := by rw [Hid, HGOX.out, if_pos rfl]
   clear HGOX HN2 HM2
   obtain ⟨-, -, -, -, -, -, vb3, vp3, va3, k1, -⟩ := V1.out
   have u2 := k1.cell 2
   have ul := k1.lt
   obtain ⟨f0, f1, f2, f3, f4⟩ := fact5 V3.out
   have hfl := V3.out.lt
   have hf0 := V3.out.frozen 0; have hf2 := V3.out.frozen 2; have hf3 := V3.out.frozen 3
   simp only [List.getElem?_toArray, List.getElem?_cons_zero, List.getElem?_cons_succ] at u2
   have hhf : h ≠ gf := fun e => (HNF.out w3).1 (by have := V1.out.2.1; rwa [e] at this)
   clear k1
   go_upto_region 14 with fail
   refine wp_region_ord (.val 0 (.val 1 (.val 2 (.val 3 (.val 5 (.two 4 (.op 6 (.val 7 (.op 8 (.val 9 (.op 10 (.nil)))))) 6 (.val 7 (.two 4 (.op 8 (.val 9 (.op 10 (.nil)))) 8 (.op 4 (.val 9 (.op 10 (.nil)))))))))))) (by kernel_rfl) (by kernel_rfl) ?_
   have u2' : (w3.drewN 1).cell? ⟨h, 2, none⟩ = some (.int .i64 (s1 : Int)) := u2
   have f0' : (w3.drewN 1).cell? ⟨gf, 0, none⟩ = some (.bool false) := f0
   have f1' : (w3.drewN 1).cell? ⟨gf, 1, none⟩ = some (.bool false) := f1
   have f2' : (w3.drewN 1).cell? ⟨gf, 2, none⟩ = some (.int .i64 0) := f2
   have f3' : (w3.drewN 1).cell? ⟨gf, 3, none⟩ = some (.int .i64 0) := f3
   have ul' : h < (w3.drewN 1).heap.size := ul
   have hfl' : gf < (w3.drewN 1).heap.size := hfl
   have hf0' : (w3.drewN 1).frozen? ⟨gf, 0, none⟩ = false := hf0
   have hf2' : (w3.drewN 1).frozen? ⟨gf, 2, none⟩ = false := hf2
   have hf3' : (w3.drewN 1).frozen? ⟨gf, 3, none⟩ = false := hf3
   iterate 5 (refine wpOrd_val rfl ?_; go_big_quiet_step (fail); refine wpQuiet_nil ?_)
   refine wpOrd_two rfl rfl ?_ ?_
   focus
    go_wp2_with fail
    refine wpOrd_op rfl ?_
    go_wp2_with fail
    refine wpOrd_val rfl ?_
    go_big_quiet_step (fail)
    refine wpQuiet_nil ?_
   rotate_left 1
   focus
    go_wp2_with fail
    refine wpOrd_val rfl ?_
    go_big_quiet_step (fail)
    refine wpQuiet_nil ?_
    refine wpOrd_two rfl rfl ?_ ?_
    focus
     go_wp2_with fail
    rotate_left 1
    focus
     go_wp2_with fail
   all_goals
    refine wpOrd_op rfl ?_
    go_wp2_with fail
    refine wpOrd_val rfl ?_
    go_big_quiet_step (fail)
    refine wpQuiet_nil ?_
    refine wpOrd_op rfl ?_
    go_wp2_with fail
    refine wpOrd_nil ?_
    obtain ⟨wm, hwm⟩ : ∃ W, ((w3.drewN 1).setCell ⟨gf, 0, none⟩ (.bool true)).setCell ⟨gf, 2, none⟩ (.int .i64 (tv : Int)) = W := ⟨_, rfl⟩
    obtain ⟨wm2, hwm2⟩ : ∃ W, wm.setCell ⟨gf, 3, none⟩ (.int .i64 (s1 : Int)) = W := ⟨_, rfl⟩
    have HD3 : Hid (Below w3.heap.size w3 (w3.drewN 1)) := drewN_below w3 1
    have HKM : Hid (Keep (fun k => k = gf) w3 wm2) := by
     rw [← hwm2, ← hwm]
     exact (((Keep.drewN (fun k => k = gf) w3 1).trans (Keep.setCell (fun k => k = gf) _ ⟨gf, 0, none⟩ _ rfl) (fun _ => .inl)).trans (Keep.setCell (fun k => k = gf) _ ⟨gf, 2, none⟩ _ rfl) (fun _ => .inl)).trans (Keep.setCell (fun k => k = gf) _ ⟨gf, 3, none⟩ _ rfl) (fun _ => .inl)
    have U1 : Hid (HoldAt base (Fup F w0 w3) wm2 h win S' s1 ps P) := V1.out.keep HKM.out (fun k hk e => (HNF.out w3).1 (e ▸ hk))
    have U2 : Hid (Rg wm2 g gb m R') := V2.out.keep HKM.out HGN.out.1 HGN.out.2.2.1
    have U3 : Hid (Blk wm2 gf 179 #[.bool true, .bool false, .int .i64 (tv : Int), .int .i64 (s1 : Int), .int .i64 (rd : Int)]) := by
     rw [← hwm2, ← hwm]
     exact (((V3.out.below HD3.out V3.out.lt).set 0 (.bool true)).set 2 (.int .i64 (tv : Int))).set 3 (.int .i64 (s1 : Int))
    have U4 : Hid (Blk wm2 gr 179 #[.bool false, .bool false, .int .i64 0, .int .i64 0, .int .i64 0]) := HKM.out.blk V4.out HGN.out.2.2.2.2.1.symm
    have U5 : Hid (Keep G w0 wm2) := V5.out.trans (HKM.out.mono (fun k _ e => (HG1.out k).2 (.inr (.inl e)))) (fun _ => .inl)
    rw [hwm, hwm2]
    clear hwm hwm2 u2 u2' f0 f1 f2 f3 f4 f0' f1' f2' f3' hfl hfl' hf0 hf2 hf3 hf0' hf2' hf3' ul ul' V1 V2 V3 V4 V5 HD3
    obtain ⟨-, -, -, -, -, -, vb4, vp4, va4, k1, -⟩ := U1.out
    have u2 := k1.cell 2
    have ul := k1.lt
    simp only [List.getElem?_toArray, List.getElem?_cons_zero, List.getElem?_cons_succ] at u2
    have CM := hid (hoMatch_any base h win s1 (Fup F w0 w3) S' ps P wm2 U1.out hs1a (Nat.le_trans hbw0 U5.out.size))
    clear k1
    go_wp2_with fail
    refine CM.out.mono ?_
    rintro en wq ⟨rfl, x1, x2⟩
    have hsm : w3.heap.size ≤ wm2.heap.size := HKM.out.size
    have W1 : Hid (HoldAt base (Fup F w0 wq) wq h win (S'.drop s1) 0 ps P) := x1.mono (fun k hk => by
     rcases hk with hk | hk
     ·exact Fup.mono (Nat.le_trans hsm x2.size) hk
     ·exact .inr ⟨Nat.le_trans U5.out.size hk.1, hk.2⟩)
    have W2 : Hid (Rg wq g gb m R') := U2.out.keep x2 (fun hg => HDU.out w3 g hg (.inl rfl)) (fun hg => HDU.out w3 gb hg (.inr rfl))
    have W3 := hid (x2.blk U3.out (HNF.out w3).1)
    have W4 := hid (x2.blk U4.out (HNF.out w3).2)
    have W5 : Hid (Keep G w0 wq) := U5.out.trans x2 (fun k hk => by
     rcases hk with hk | hk
     ·exact .inl ((HG1.out k).2 (.inl (.inl hk)))
     ·exact .inr hk.1)
    clear CM x1 x2 U1 U2 U3 U4 U5 HKM u2 ul
    obtain ⟨f0, f1, f2, f3, f4⟩ := fact5 W3.out
    have hfl := W3.out.lt
    obtain ⟨z0, z1, z2, z3, z4⟩ := fact5 W4.out
    have y0 := W4.out.frozen 0; have y1 := W4.out.frozen 1; have y2 := W4.out.frozen 2; have y3 := W4.out.frozen 3; have y4 := W4.out.frozen 4
    have hzl := W4.out.lt
    go_wp2_with fail
    obtain ⟨wz, hwz⟩ : ∃ W, set5 wq gr (.bool true) (.bool false) (.int .i64 (tv : Int)) (.int .i64 (s1 : Int)) (.int .i64 (rd : Int)) = W := ⟨_, rfl⟩
    have Z1 : Blk wz gr 179 #[.bool true, .bool false, .int .i64 (tv : Int), .int .i64 (s1 : Int), .int .i64 (rd : Int)] := by rw [← hwz]; exact set5_blk W4.out _ _ _ _ _
    have ZK : Keep (fun k => k = gr) wq wz := by rw [← hwz]; exact set5_self wq gr _ _ _ _ _
    have Z2 : HoldAt base (Fup F w0 wq) wz h win (S'.drop s1) 0 ps P := W1.out.keep ZK (fun k hk h => (HNF.out wq).2 (h ▸ hk))
    have Z3 : Rg wz g gb m R' := W2.out.keep ZK HGN.out.2.1 HGN.out.2.2.2.1
    have Z4 : Keep G w0 wz := by rw [← hwz]; exact set5_keep W5.out ((HG1.out gr).2 (.inr (.inr rfl))) _ _ _ _ _
    unfold set5 at hwz
    rw [hwz]
    obtain ⟨r0, r1, r2, r3, r4⟩ := fact5 Z1
    refine bodyPost_ret (v := foundV true false tv s1 (rd)) (by simp [results, Tryz.results152, go_sem, foundV, r0, r1, r2, r3, r4]) rfl ?_
    rw [HXE.out]
    exact ⟨rfl, Z2.mono (fun k hk => (HWS.out wz Z4.size).2 k (Fup.mono ZK.size hk)), Z3, HFIX.out wz Z4⟩
  ·obtain rfl : s' = n := by omega
   have hne : ((s' : Int) == (s' : Int)) = true := by simp
   obtain ⟨nr, hnr⟩ : ∃ x, R'.length = x := ⟨_, rfl⟩
   have HNR := hid hnr
   have CL := hid (fun W (hW : Below wr.heap.size wr W) => rgLen_any W g gb m R' (HRI2.out.below hW))
   rw [hnr] at CL
   have HGO3 : Hid (lookGo win ls (N + 1) S' S'.length R' rd = X) := by rw [Hid, HNS.out]; exact HGO2.out
   clear HGO2 hnr
   go_wp2_with fail
   go_quiet (fail)
   have HBQ : Hid (Below wr.heap.size wr (wr.drewN nq)) := drewN_below wr nq
   obtain ⟨wq, hwq⟩ : ∃ W, wr.drewN nq = W := ⟨_, rfl⟩
   rw [hwq] at HBQ ⊢
   clear hwq q0 q1 q2 ql
   have CL2 := hid (CL.out wq HBQ.out)
   go_wp2_with fail
   refine CL2.out.mono ?_
   rintro en wx ⟨rfl, rfl⟩
   clear CL CL2
   have W3 := hid (HBF.out.below HBQ.out HBF.out.lt)
   have W4 := hid (HBR.out.below HBQ.out HBR.out.lt)
   have W5 : Hid (Keep G w0 wq) := HKE.out.trans (Keep.of_below (F := G) HBQ.out) (fun _ => .inl)
   have W2 : Hid (Rg wq g gb m R') := HRI2.out.below HBQ.out
   have W1 : Hid (HoldAt base (Fup F w0 wq) wq h win S' s' ps P) := (HHO.out.below HBQ.out).mono (fun k hk => Fup.mono HBQ.out.size hk)
   have B1 := hid (A1.out.below HBQ.out A1.out.lt)
   have B2 := hid ((A2.out.below HBQ.out (Nat.le_refl _)).mono (fun k hk => Fup.mono HBQ.out.size hk))
   have B3 := hid ((A3.out.below HBQ.out (Nat.le_refl _)).mono (fun k hk => Fup.mono HBQ.out.size hk))
   have B4 := hid ((A4.out.below HBQ.out).mono (fun k hk => Fup.mono HBQ.out.size hk))
   have hwrq : wr.heap.size ≤ wq.heap.size := HBQ.out.size
   have hwq0 : w0.heap.size ≤ wq.heap.size := Nat.le_trans hw0r HBQ.out.size
   clear HRI2 HBF HBR HKE HBQ HHO A1 A2 A3 A4
   by_cases hr0 : nr = 0
   ·have hR0 : R' = [] := List.eq_nil_of_length_eq_zero (by rw [HNR.out]; exact hr0)
    subst hR0
    have hr1 : ((nr : Int) == 0) = true := by simp [hr0]
    have HXE : Hid (X = ⟨S', s', [], false, false, 0, 0, rd⟩) := by rw [Hid, ← HGO3.out, lookGo_none, HNS.out]
    clear HGO3 hr0
    obtain ⟨f0, f1, f2, f3, f4⟩ := fact5 W3.out
    have hfl := W3.out.lt
    obtain ⟨z0, z1, z2, z3, z4⟩ := fact5 W4.out
    have y0 := W4.out.frozen 0; have y1 := W4.out.frozen 1; have y2 := W4.out.frozen 2; have y3 := W4.out.frozen 3; have y4 := W4.out.frozen 4
    have hzl := W4.out.lt
    go_wp2_with fail
    obtain ⟨wz, hwz⟩ : ∃ W, set5 wq gr (.bool false) (.bool false) (.int .i64 0) (.int .i64 0) (.int .i64 (rd : Int)) = W := ⟨_, rfl⟩
    have Z1 : Blk wz gr 179 #[.bool false, .bool false, .int .i64 0, .int .i64 0, .int .i64 (rd : Int)] := by rw [← hwz]; exact set5_blk W4.out _ _ _ _ _
    have ZK : Keep (fun k => k = gr) wq wz := by rw [← hwz]; exact set5_self wq gr _ _ _ _ _
    have Z2 : HoldAt base (Fup F w0 wq) wz h win S' s' ps P := W1.out.keep ZK (fun k hk h => (HNF.out wq).2 (h ▸ hk))
    have Z3 : Rg wz g gb m [] := W2.out.keep ZK HGN.out.2.1 HGN.out.2.2.2.1
    have Z4 : Keep G w0 wz := by rw [← hwz]; exact set5_keep W5.out ((HG1.out gr).2 (.inr (.inr rfl))) _ _ _ _ _
    unfold set5 at hwz
    rw [hwz]
    obtain ⟨r0, r1, r2, r3, r4⟩ := fact5 Z1
    refine bodyPost_ret (v := foundV false false 0 0 rd) (by simp [results, Tryz.results152, go_sem, foundV, r0, r1, r2, r3, r4]) rfl ?_
    rw [HXE.out]
    exact ⟨rfl, Z2.mono (fun k hk => (HWS.out wz Z4.size).2 k (Fup.mono ZK.size hk)), Z3, HFIX.out wz Z4⟩
   have hr1 : ((nr : Int) == 0) = false := by rw [beq_eq_false_iff_ne]; omega
   have q0 := B1.out.cell 0; have q1 := B1.out.cell 1
   simp only [List.getElem?_toArray, List.getElem?_cons_zero, List.getElem?_cons_succ] at q0 q1
   have ql := B1.out.lt
   by_cases hfull : s' = win
   ·have hf1 : ((s' : Int) == (win : Int)) = true := by simp [hfull]
    have HXE : Hid (X = ⟨S', s', R', false, true, 0, 0, rd⟩) := by rw [Hid, ← HGO3.out, lookGo_full _ _ _ _ _ _ (fun h => hr0 (by rw [← HNR.out, h]; rfl)) (by rw [HNS.out]; exact hfull), HNS.out]
    have hff := W3.out.frozen 1
    obtain ⟨f0, f1, f2, f3, f4⟩ := fact5 W3.out
    have hfl := W3.out.lt
    clear HGO3 hr0
    go_wp2_with fail
    go_quiet (fail)
    obtain ⟨wy, hwy⟩ : ∃ W, wq.drewN nq = W := ⟨_, rfl⟩
    have HBY : Hid (Below wq.heap.size wq wy) := by rw [← hwy]; exact drewN_below wq nq
    rw [hwy]
    clear hwy q0 q1 ql f0 f1 f2 f3 f4 hfl hff B1 B2 B3 B4
    have Y1 : Hid (HoldAt base (Fup F w0 wy) wy h win S' s' ps P) := (W1.out.below HBY.out).mono (fun k hk => Fup.mono HBY.out.size hk)
    have Y2 : Hid (Rg wy g gb m R') := W2.out.below HBY.out
    have Y3 := hid (W3.out.below HBY.out W3.out.lt)
    have Y4 := hid (W4.out.below HBY.out W4.out.lt)
    have Y5 : Hid (Keep G w0 wy) := W5.out.trans (Keep.of_below (F := G) HBY.out) (fun _ => .inl)
    clear W1 W2 W3 W4 W5 HBY
    have hff := Y3.out.frozen 1
    obtain ⟨f0, f1, f2, f3, f4⟩ := fact5 Y3.out
    have hfl := Y3.out.lt
    go_upto_region 9 with fail
    obtain ⟨wq, hwu⟩ : ∃ W, wy.setCell ⟨gf, 1, none⟩ (.bool true) = W := ⟨_, rfl⟩
    have HK1 : Hid (Keep (fun k => k = gf) wy wq) := by rw [← hwu]; exact Keep.setCell _ wy ⟨gf, 1, none⟩ _ rfl
    have W1 : Hid (HoldAt base (Fup F w0 wq) wq h win S' s' ps P) := (Y1.out.keep HK1.out (fun k hk e => (HNF.out wy).1 (e ▸ hk))).mono (fun k hk => Fup.mono HK1.out.size hk)
    have W2 : Hid (Rg wq g gb m R') := Y2.out.keep HK1.out HGN.out.1 HGN.out.2.2.1
    have W3 : Hid (Blk wq gf 179 #[.bool false, .bool true, .int .i64 0, .int .i64 0, .int .i64 (rd : Int)]) := by rw [← hwu]; exact Y3.out.set 1 (.bool true)
    have W4 : Hid (Blk wq gr 179 #[.bool false, .bool false, .int .i64 0, .int .i64 0, .int .i64 0]) := by rw [← hwu]; exact Y4.out.set_far HGN.out.2.2.2.2.1.symm
    have W5 : Hid (Keep G w0 wq) := by rw [← hwu]; exact Y5.out.trans (Keep.setCell G wy ⟨gf, 1, none⟩ _ ((HG1.out gf).2 (.inr (.inl rfl)))) (fun _ => .inl)
    rw [hwu]
    clear hwu f0 f1 f2 f3 f4 hfl hff Y1 Y2 Y3 Y4 Y5 HK1
    obtain ⟨f0, f1, f2, f3, f4⟩ := fact5 W3.out
    have hfl := W3.out.lt
    obtain ⟨z0, z1, z2, z3, z4⟩ := fact5 W4.out
    have y0 := W4.out.frozen 0; have y1 := W4.out.frozen 1; have y2 := W4.out.frozen 2; have y3 := W4.out.frozen 3; have y4 := W4.out.frozen 4
    have hzl := W4.out.lt
    go_wp2_with fail
    obtain ⟨wz, hwz⟩ : ∃ W, set5 wq gr (.bool false) (.bool true) (.int .i64 0) (.int .i64 0) (.int .i64 (rd : Int)) = W := ⟨_, rfl⟩
    have Z1 : Blk wz gr 179 #[.bool false, .bool true, .int .i64 0, .int .i64 0, .int .i64 (rd : Int)] := by rw [← hwz]; exact set5_blk W4.out _ _ _ _ _
    have ZK : Keep (fun k => k = gr) wq wz := by rw [← hwz]; exact set5_self wq gr _ _ _ _ _
    have Z2 : HoldAt base (Fup F w0 wq) wz h win S' s' ps P := W1.out.keep ZK (fun k hk h => (HNF.out wq).2 (h ▸ hk))
    have Z3 : Rg wz g gb m R' := W2.out.keep ZK HGN.out.2.1 HGN.out.2.2.2.1
    have Z4 : Keep G w0 wz := by rw [← hwz]; exact set5_keep W5.out ((HG1.out gr).2 (.inr (.inr rfl))) _ _ _ _ _
    unfold set5 at hwz
    rw [hwz]
    obtain ⟨r0, r1, r2, r3, r4⟩ := fact5 Z1
    refine bodyPost_ret (v := foundV false true 0 0 rd) (by simp [results, Tryz.results152, go_sem, foundV, r0, r1, r2, r3, r4]) rfl ?_
    rw [HXE.out]
    exact ⟨rfl, Z2.mono (fun k hk => (HWS.out wz Z4.size).2 k (Fup.mono ZK.size hk)), Z3, HFIX.out wz Z4⟩
   have hf1 : ((s' : Int) == (win : Int)) = false := by rw [beq_eq_false_iff_ne]; omega
   obtain ⟨ch, R2, hR2⟩ : ∃ c l, R' = c :: l := by
    cases R' with
    | nil => exact absurd (by rw [← HNR.out]; rfl) hr0
    | cons c l => exact ⟨c, l, rfl⟩
   subst hR2
   have HGOX : Hid (X = if (dsM ls (S' ++ [ch]) (s' + 1)).any id = true then ⟨(S' ++ [ch]).drop (s' + 1), 0, R2, true, false, toldA (dsM ls (S' ++ [ch]) (s' + 1)), s' + 1, rd + 1⟩ else lookGo win ls N (S' ++ [ch]) (s' + 1) R2 (rd + 1)) := by
    have e := lookGo_new win ls N S' ch R2 rd (by rw [HNS.out]; exact hfull)
    rw [HGO3.out, HNS.out] at e
    rw [Hid, e, show (S' ++ [ch]).drop (s' + 1) = [] from List.drop_of_length_le (by rw [List.length_append, HNS.out]; exact Nat.le_refl _)]
   have hR2l : R2.length + 1 = nr := by rw [← HNR.out]; rfl
   have HN2 : Hid (lookN (S' ++ [ch]) (s' + 1) R2 ≤ N) := by
    have a := HN.out; have b := HNS.out; have c := HNR.out
    unfold lookN at a
    unfold Hid lookN
    rw [List.length_append]
    simp only [List.length_cons, List.length_nil] at *
    omega
   have HM2 : Hid (R2.length + ((S' ++ [ch]).length - (s' + 1)) < lookMeas wr h g) := by
    rw [Hid, HMS.out, HNS.out, List.length_append, HNS.out]; simp
   have HSL : Hid (s' < (S' ++ [ch]).length) := by rw [Hid, List.length_append, HNS.out]; simp
   have hrdb : rd + 1 ≤ 1000000000 - R2.length := by
    have := HNR.out; simp only [List.length_cons] at hrd this; have := W2.out.le; simp only [List.length_cons] at this; omega
   have hsw : s' < win := by have := HX.out; omega
   obtain ⟨rd2, hrd2⟩ : ∃ x, rd + 1 = x := ⟨_, rfl⟩
   have hrd2i : (rd : Int) + 1 = (rd2 : Int) := by omega
   obtain ⟨SN, hSN⟩ : ∃ x, S' ++ [ch] = x := ⟨_, rfl⟩
   have HSN := hid hSN
   rw [hSN] at HGOX HN2 HM2 HSL
   rw [hrd2] at HGOX hrdb
   have hrdm : rd2 ≤ 1000000000 := by omega
   clear HGO3 HN HMS hr0 hfull hSN
   go_wp2_with fail
   go_quiet (fail)
   obtain ⟨wy, hwy⟩ : ∃ W, wq.drewN nq = W := ⟨_, rfl⟩
   have HBY : Hid (Below wq.heap.size wq wy) := by rw [← hwy]; exact drewN_below wq nq
   rw [hwy]
   clear hwy q0 q1 ql
   go_upto_region 10 with fail
   refine wp_region_ord (.val 0 (.val 1 (.val 2 (.val 3 (.val 5 (.two 4 (.op 6 (.val 7 (.op 8 (.op 9 (.val 10 (.val 11 (.op 12 (.nil)))))))) 6 (.val 7 (.two 4 (.op 8 (.op 9 (.val 10 (.val 11 (.op 12 (.nil)))))) 8 (.op 4 (.op 9 (.val 10 (.val 11 (.op 12 (.nil)))))))))))))) (by kernel_rfl) (by kernel_rfl) ?_
   obtain ⟨wt, hwt⟩ : ∃ W, wy.drewN 1 = W := ⟨_, rfl⟩
   have HBT : Hid (Below wq.heap.size wq wt) := by rw [← hwt]; exact HBY.out.trans ((drewN_below wy 1).mono HBY.out.size)
   rw [hwt]
   clear hwt HBY
   have T1 := hid (B1.out.below HBT.out B1.out.lt)
   have T2 := hid ((B2.out.below HBT.out (Nat.le_refl _)).mono (fun k hk => Fup.mono HBT.out.size hk))
   have T3 := hid ((B3.out.below HBT.out (Nat.le_refl _)).mono (fun k hk => Fup.mono HBT.out.size hk))
   have T4 := hid ((B4.out.below HBT.out).mono (fun k hk => Fup.mono HBT.out.size hk))
   have TF := hid (W3.out.below HBT.out W3.out.lt)
   have TR := hid (W4.out.below HBT.out W4.out.lt)
   have TK : Hid (Keep G w0 wt) := W5.out.trans (Keep.of_below (F := G) HBT.out) (fun _ => .inl)
   have CT : Hid (Calls Tryz.prog 170 #[.pointer (some ⟨g, 0, none⟩), .int .i64 1] wt fun e w' => e = .returned (.string ⟨#[ch]⟩) ∧ Rg w' g gb m R2 ∧ Keep (RgF g gb) wt w') := by
    have := rgTake_any wt g gb m (ch :: R2) 1 (W2.out.below HBT.out) (by omega) (by omega)
    have e : clampT 1 (ch :: R2).length = 1 := by rw [clampT, if_neg (by decide), if_neg (by simp; omega)]; rfl
    rw [e] at this
    exact this
   have hqt : wq.heap.size ≤ wt.heap.size := HBT.out.size
   have hszt : w0.heap.size ≤ wt.heap.size := Nat.le_trans hwq0 HBT.out.size
   have q1 := T1.out.cell 1
   simp only [List.getElem?_toArray, List.getElem?_cons_zero, List.getElem?_cons_succ] at q1
   have ql := T1.out.lt
   clear W1 W2 W3 W4 W5 B1 B2 B3 B4 HBT
   iterate 5 (refine wpOrd_val rfl ?_; go_big_quiet_step (fail); refine wpQuiet_nil ?_)
   refine wpOrd_two rfl rfl ?_ ?_
   focus
    go_wp2_with fail
    refine wpOrd_op rfl ?_
    go_wp2_with fail
    refine CT.out.mono ?_
    rintro en w6 ⟨rfl, x1, x2⟩
    have hdt : ∀ k, Fup F w0 wt k → ¬ RgF g gb k := HDU.out wt
    have S1 := hid (x2.blk T1.out (fun e => HDU.out wr h HX.out.2.1 e))
    have S2 : Hid (OwnF (Fup F w0 w6) w6 base 5 1 (.slice A s' c) s' (byteCells S')) := (T2.out.keep x2 hdt).mono (fun k hk => Fup.mono x2.size hk)
    have S3 : Hid (OwnF (Fup F w0 w6) w6 base 9 1 vp ps.length (textCells ps)) := (T3.out.keep x2 hdt).mono (fun k hk => Fup.mono x2.size hk)
    have S4 : Hid (ArmIn base (Fup F w0 w6) w6 va P S' s') := (T4.out.keep x2 hdt).mono (fun k hk => Fup.mono x2.size hk)
    have SR : Hid (Rg w6 g gb m R2) := x1
    have SF := hid (x2.blk TF.out (by rintro (e | e); exact HGN.out.1 e.symm; exact HGN.out.2.2.1 e.symm))
    have SG := hid (x2.blk TR.out (by rintro (e | e); exact HGN.out.2.1 e.symm; exact HGN.out.2.2.2.1 e.symm))
    have SK : Hid (Keep G w0 w6) := TK.out.trans x2 (fun k hk => .inl ((HG1.out k).2 (.inl (.inr hk))))
    have hsz6 : wt.heap.size ≤ w6.heap.size := x2.size
    have v1 := S1.out.cell 1
    have vl := S1.out.lt
    have v1x := (S1.out.alloc (.cells #[.int .u8 (ch.toNat : Int)] 5)).cell 1
    have vlx := (S1.out.alloc (.cells #[.int .u8 (ch.toNat : Int)] 5)).lt
    simp only [List.getElem?_toArray, List.getElem?_cons_zero, List.getElem?_cons_succ] at v1 v1x
    have HOX := hid (ownX S2.out)
    have hbw6 : base ≤ w6.heap.size := Nat.le_trans hbw0 SK.out.size
    clear CT x1 x2 T1 T2 T3 T4 TF TR TK q1 ql hdt
    go_wp2_with fail
    refine wpOrd_val rfl ?_
    go_big_quiet_step (fail)
    refine wpQuiet_nil ?_
   rotate_left 1
   focus
    go_wp2_with fail
    refine CT.out.mono ?_
    rintro en w6 ⟨rfl, x1, x2⟩
    have hdt : ∀ k, Fup F w0 wt k → ¬ RgF g gb k := HDU.out wt
    have S1 := hid (x2.blk T1.out (fun e => HDU.out wr h HX.out.2.1 e))
    have S2 : Hid (OwnF (Fup F w0 w6) w6 base 5 1 (.slice A s' c) s' (byteCells S')) := (T2.out.keep x2 hdt).mono (fun k hk => Fup.mono x2.size hk)
    have S3 : Hid (OwnF (Fup F w0 w6) w6 base 9 1 vp ps.length (textCells ps)) := (T3.out.keep x2 hdt).mono (fun k hk => Fup.mono x2.size hk)
    have S4 : Hid (ArmIn base (Fup F w0 w6) w6 va P S' s') := (T4.out.keep x2 hdt).mono (fun k hk => Fup.mono x2.size hk)
    have SR : Hid (Rg w6 g gb m R2) := x1
    have SF := hid (x2.blk TF.out (by rintro (e | e); exact HGN.out.1 e.symm; exact HGN.out.2.2.1 e.symm))
    have SG := hid (x2.blk TR.out (by rintro (e | e); exact HGN.out.2.1 e.symm; exact HGN.out.2.2.2.1 e.symm))
    have SK : Hid (Keep G w0 w6) := TK.out.trans x2 (fun k hk => .inl ((HG1.out k).2 (.inl (.inr hk))))
    have hsz6 : wt.heap.size ≤ w6.heap.size := x2.size
    have v1 := S1.out.cell 1
    have vl := S1.out.lt
    have v1x := (S1.out.alloc (.cells #[.int .u8 (ch.toNat : Int)] 5)).cell 1
    have vlx := (S1.out.alloc (.cells #[.int .u8 (ch.toNat : Int)] 5)).lt
    simp only [List.getElem?_toArray, List.getElem?_cons_zero, List.getElem?_cons_succ] at v1 v1x
    have HOX := hid (ownX S2.out)
    have hbw6 : base ≤ w6.heap.size := Nat.le_trans hbw0 SK.out.size
    clear CT x1 x2 T1 T2 T3 T4 TF TR TK q1 ql hdt
    go_wp2_with fail
    refine wpOrd_val rfl ?_
    go_big_quiet_step (fail)
    refine wpQuiet_nil ?_
    refine wpOrd_two rfl rfl ?_ ?_
    focus
     go_wp2_with fail
    rotate_left 1
    focus
     go_wp2_with fail
   all_goals
    refine wpOrd_op rfl ?_
    go_wp2_with fail
    refine wpOrd_op rfl ?_
    go_wp2_with (at_builtin; refine wpList_append1F _ _ rfl _ _ 136 rfl base 5 _ 1 1 Tryz.underlying136 Tryz.infoU8b rfl (by decide) _ _ _ rfl HOX.out 1 [.int .u8 (ch.toNat : Int)] rfl rfl rfl ?_ (by decide) hbw6 ?_)
    ·omega
    intro g5 c5 w7 hown7 hk7 hf7
    have P1 := hold_push S1.out S3.out S4.out (hk7.mono (fun k _ hk => hk.1))
    have hdx : ∀ k, ((Value.slice A s' c).ownBlock = some k ∧ w6.ownsRow base 5 1 (.slice A s' c) s' (byteCells S')) ∧ Fup F w0 w6 k → ¬ RgF g gb k := fun k hk => HDU.out w6 k hk.2
    have R1 : Hid (Rg w7 g gb m R2) := SR.out.keep hk7 (fun hg => hdx g hg (.inl rfl)) (fun hg => hdx gb hg (.inr rfl))
    have RF := hid (hk7.blk SF.out (fun hg => (HNF.out w6).1 hg.2))
    have RG2 := hid (hk7.blk SG.out (fun hg => (HNF.out w6).2 hg.2))
    have RK : Hid (Keep G w0 w7) := SK.out.trans hk7 (fun k hk => by
     rcases hk.2 with h | h
     ·exact .inl ((HG1.out k).2 (.inl (.inl h)))
     ·exact .inr h.1)
    have hsz7 : w6.heap.size ≤ w7.heap.size := hk7.size
    have hg5h : g5 ≠ h := fun e => blk_ne P1.1 hown7 (by decide) (by rw [e]; rfl)
    have hg5F : Fup F w0 w7 g5 := by
     rcases hf7 with hf | hf
     ·exact Fup.mono hsz7 hf.2
     ·exact .inr ⟨Nat.le_trans SK.out.size hf, (hown7.lt g5 rfl).2⟩
    have P1 := hid P1; have O7 := hid hown7; have G5 := hid hg5F
    have v1 := P1.out.1.cell 1
    have vf := P1.out.1.frozen 1
    have vl := P1.out.1.lt
    simp only [List.getElem?_toArray, List.getElem?_cons_zero, List.getElem?_cons_succ] at v1
    clear hown7 hk7 hf7 hdx hg5F S1 S2 S3 S4 SR SF SG SK HOX v1x vlx
    go_wp2_with fail
    iterate 2 (refine wpOrd_val rfl ?_; go_big_quiet_step (fail); refine wpQuiet_nil ?_)
    refine wpOrd_op rfl ?_
    go_wp2_with fail
    refine wpOrd_nil ?_
    obtain ⟨w8, hw8⟩ : ∃ W, w7.setCell ⟨h, 1, none⟩ (.slice (some ⟨g5, 0, none⟩) (s' + 1) c5) = W := ⟨_, rfl⟩
    have hs8 : w8.heap.size = w7.heap.size := by rw [← hw8]; simp
    have hup : ∀ k, Fup F w0 w6 k → Fup F w0 w8 k := fun k hk => Fup.mono (by omega) hk
    have HK8 : Hid (Keep (fun k => k = h) w7 w8) := by rw [← hw8]; exact Keep.setCell _ w7 ⟨h, 1, none⟩ _ rfl
    have E1 : Hid (HoldAt base (Fup F w0 w8) w8 h win SN s' ps P) := by
     have hlen : (S' ++ [ch]).length = s' + 1 := by rw [List.length_append, HNS.out]; rfl
     have hcl : byteCells (S' ++ [ch]) = byteCells S' ++ [.int .u8 (ch.toNat : Int)] := by simp [byteCells]
     have b1 := P1.out.1.set 1 (.slice (some ⟨g5, 0, none⟩) (s' + 1) c5)
     have hx := HX.out
     have hFh : Fup F w0 w8 h := Fup.mono (by omega) hx.2.1
     rw [← HSN.out]
     refine ⟨hx.1, hFh, hx.2.2.1, hx.2.2.2.1, by rw [hlen]; omega, by rw [hlen]; omega, .slice (some ⟨g5, 0, none⟩) (s' + 1) c5, vp, va, by rw [← hw8]; exact b1, ?_, ?_, ?_⟩
     ·rw [hlen, hcl]
      refine .inr ⟨by rw [← hw8]; exact own_kept_set O7.out ⟨h, 1, none⟩ _ (by simp [Value.ownBlock, hg5h]), fun k hk => ?_⟩
      simp only [Value.ownBlock, Option.some.injEq] at hk
      subst hk
      exact Fup.mono (by omega) G5.out
     ·have := (P1.out.2.1.mono hup).set (i := 1) (u := .slice (some ⟨g5, 0, none⟩) (s' + 1) c5) P1.out.1 (by decide)
      rwa [hw8] at this
     ·have := ((P1.out.2.2.mono hup).app ch (by rw [HNS.out]; exact Nat.le_refl _)).setB (i := 1) (u := .slice (some ⟨g5, 0, none⟩) (s' + 1) c5) P1.out.1 (by decide) (by decide) (by decide)
      rwa [hw8] at this
    have hgh : g ≠ h := fun e => HDU.out wr h HX.out.2.1 (.inl e.symm)
    have hgbh : gb ≠ h := fun e => HDU.out wr h HX.out.2.1 (.inr e.symm)
    have hfh : gf ≠ h := fun e => (HNF.out wr).1 (by rw [e]; exact HX.out.2.1)
    have hrh : gr ≠ h := fun e => (HNF.out wr).2 (by rw [e]; exact HX.out.2.1)
    have E2 : Hid (Rg w8 g gb m R2) := R1.out.keep HK8.out hgh hgbh
    have E3 := hid (HK8.out.blk RF.out hfh)
    have E4 := hid (HK8.out.blk RG2.out hrh)
    have E5 : Hid (Keep G w0 w8) := RK.out.trans HK8.out (fun k hk => by
     rcases HX.out.2.1 with h' | h'
     ·exact .inl ((HG1.out k).2 (.inl (.inl (by rw [hk]; exact h'))))
     ·exact .inr (by rw [hk]; exact h'.1))
    rw [hw8]
    clear hw8 hup HK8 P1 O7 G5 R1 RF RG2 RK v1 vf vl hg5h hgh hgbh hfh hrh
    obtain ⟨f0, f1, f2, f3, f4⟩ := fact5 E3.out
    have hfl := E3.out.lt
    have hf4 := E3.out.frozen 4
    go_upto_region 12 with fail
    obtain ⟨wq, hwu⟩ : ∃ W, w8.setCell ⟨gf, 4, none⟩ (.int .i64 (rd2 : Int)) = W := ⟨_, rfl⟩
    have HK1 : Hid (Keep (fun k => k = gf) w8 wq) := by rw [← hwu]; exact Keep.setCell _ w8 ⟨gf, 4, none⟩ _ rfl
    have W1 : Hid (HoldAt base (Fup F w0 wq) wq h win SN s' ps P) := (E1.out.keep HK1.out (fun k hk e => (HNF.out w8).1 (e ▸ hk))).mono (fun k hk => Fup.mono HK1.out.size hk)
    have W2 : Hid (Rg wq g gb m R2) := E2.out.keep HK1.out HGN.out.1 HGN.out.2.2.1
    have W3 : Hid (Blk wq gf 179 #[.bool false, .bool false, .int .i64 0, .int .i64 0, .int .i64 (rd2 : Int)]) := by rw [← hwu]; exact E3.out.set 4 (.int .i64 (rd2 : Int))
    have W4 : Hid (Blk wq gr 179 #[.bool false, .bool false, .int .i64 0, .int .i64 0, .int .i64 0]) := by rw [← hwu]; exact E4.out.set_far HGN.out.2.2.2.2.1.symm
    have W5 : Hid (Keep G w0 wq) := by rw [← hwu]; exact E5.out.trans (Keep.setCell G w8 ⟨gf, 4, none⟩ _ ((HG1.out gf).2 (.inr (.inl rfl)))) (fun _ => .inl)
    rw [hwu]
    clear hwu f0 f1 f2 f3 f4 hfl hf4 E1 E2 E3 E4 E5 HK1
    obtain ⟨s1, hs1⟩ : ∃ x, s' + 1 = x := ⟨_, rfl⟩
    have hs1a : 1 ≤ s1 := by omega
    have CN := hid (hoNext_any base h win s' (Fup F w0 wq) SN ps P wq W1.out HSL.out (Nat.le_trans hbw0 W5.out.size))
    rw [HLS.out] at CN
    rw [hs1] at CN HGOX HN2 HM2
    obtain ⟨ds, hds⟩ : ∃ d, dsM ls SN s1 = d := ⟨_, rfl⟩
    rw [hds] at CN HGOX
    obtain ⟨tv, htv⟩ : ∃ d, toldA ds = d := ⟨_, rfl⟩
    obtain ⟨fd, hfd⟩ : ∃ d, ds.any id = d := ⟨_, rfl⟩
    rw [htv, hfd] at CN HGOX
    clear hds htv hfd
    go_wp2_with fail
    refine CN.out.mono ?_
    rintro en w3 ⟨rfl, x1, x2⟩
    have V1 : Hid (HoldAt base (Fup F w0 w3) w3 h win SN s1 ps P) := x1.mono (fun k hk => Fup.trans W5.out.size x2.size hk)
    have V2 : Hid (Rg w3 g gb m R2) := W2.out.keep x2 (fun hg => HDU.out wq g hg (.inl rfl)) (fun hg => HDU.out wq gb hg (.inr rfl))
    have V3 := hid (x2.blk W3.out (HNF.out wq).1)
    have V4 := hid (x2.blk W4.out (HNF.out wq).2)
    have V5 : Hid (Keep G w0 w3) := W5.out.upTrans x2 (fun k hk => (HG1.out k).2 (.inl (.inl hk)))
    have hsz3 : wq.heap.size ≤ w3.heap.size := x2.size
    clear CN x1 x2 W1 W2 W3 W4 W5
    cases fd
    ·have HGOZ : Hid (lookGo win ls N SN s1 R2 rd2 = X) := by rw [Hid, HGOX.out, if_neg (by decide)]
     clear HGOX
     go_wp2_with fail
     go_roundw
     case rel => exact ⟨N, s1, rd2, SN, R2, HN2.out, HGOZ.out, hrdb, V1.out, V2.out, V3.out, V4.out, V5.out⟩
     case measure => rw [lookMeas_is V1.out V2.out]; exact HM2.out
    have HXE : Hid (X = ⟨SN.drop s1, 0, R2, true, false, tv, s1, rd2⟩) := by rw [Hid, HGOX.out, if_pos rfl]
    clear HGOX HN2 HM2
    obtain ⟨-, -, -, -, -, -, vb3, vp3, va3, k1, -⟩ := V1.out
    have u2 := k1.cell 2
    have ul := k1.lt
    obtain ⟨f0, f1, f2, f3, f4⟩ := fact5 V3.out
    have hfl := V3.out.lt
    have hf0 := V3.out.frozen 0; have hf2 := V3.out.frozen 2; have hf3 := V3.out.frozen 3
    simp only [List.getElem?_toArray, List.getElem?_cons_zero, List.getElem?_cons_succ] at u2
    have hhf : h ≠ gf := fun e => (HNF.out w3).1 (by have := V1.out.2.1; rwa [e] at this)
    clear k1
    go_upto_region 14 with fail
    refine wp_region_ord (.val 0 (.val 1 (.val 2 (.val 3 (.val 5 (.two 4 (.op 6 (.val 7 (.op 8 (.val 9 (.op 10 (.nil)))))) 6 (.val 7 (.two 4 (.op 8 (.val 9 (.op 10 (.nil)))) 8 (.op 4 (.val 9 (.op 10 (.nil)))))))))))) (by kernel_rfl) (by kernel_rfl) ?_
    have u2' : (w3.drewN 1).cell? ⟨h, 2, none⟩ = some (.int .i64 (s1 : Int)) := u2
    have f0' : (w3.drewN 1).cell? ⟨gf, 0, none⟩ = some (.bool false) := f0
    have f1' : (w3.drewN 1).cell? ⟨gf, 1, none⟩ = some (.bool false) := f1
    have f2' : (w3.drewN 1).cell? ⟨gf, 2, none⟩ = some (.int .i64 0) := f2
    have f3' : (w3.drewN 1).cell? ⟨gf, 3, none⟩ = some (.int .i64 0) := f3
    have ul' : h < (w3.drewN 1).heap.size := ul
    have hfl' : gf < (w3.drewN 1).heap.size := hfl
    have hf0' : (w3.drewN 1).frozen? ⟨gf, 0, none⟩ = false := hf0
    have hf2' : (w3.drewN 1).frozen? ⟨gf, 2, none⟩ = false := hf2
    have hf3' : (w3.drewN 1).frozen? ⟨gf, 3, none⟩ = false := hf3
    iterate 5 (refine wpOrd_val rfl ?_; go_big_quiet_step (fail); refine wpQuiet_nil ?_)
    refine wpOrd_two rfl rfl ?_ ?_
    focus
     go_wp2_with fail
     refine wpOrd_op rfl ?_
     go_wp2_with fail
     refine wpOrd_val rfl ?_
     go_big_quiet_step (fail)
     refine wpQuiet_nil ?_
     refine wpOrd_op rfl ?_
     go_wp2_with fail
     refine wpOrd_val rfl ?_
     go_big_quiet_step (fail)
     refine wpQuiet_nil ?_
     refine wpOrd_op rfl ?_
     go_wp2_with fail
     refine wpOrd_nil ?_
    rotate_left 1
    focus
     go_wp2_with fail
     refine wpOrd_val rfl ?_
     go_big_quiet_step (fail)
     refine wpQuiet_nil ?_
     refine wpOrd_two rfl rfl ?_ ?_
     focus
      go_wp2_with fail
      refine wpOrd_op rfl ?_
      go_wp2_with fail
      refine wpOrd_val rfl ?_
      go_big_quiet_step (fail)
      refine wpQuiet_nil ?_
      refine wpOrd_op rfl ?_
      go_wp2_with fail
      refine wpOrd_nil ?_
     rotate_left 1
     focus
      go_wp2_with fail
      refine wpOrd_op rfl ?_
      go_wp2_with fail
      refine wpOrd_val rfl ?_
      go_big_quiet_step (fail)
      refine wpQuiet_nil ?_
      refine wpOrd_op rfl ?_
      go_wp2_with fail
      refine wpOrd_nil ?_
    all_goals
     obtain ⟨wm, hwm⟩ : ∃ W, ((w3.drewN 1).setCell ⟨gf, 0, none⟩ (.bool true)).setCell ⟨gf, 2, none⟩ (.int .i64 (tv : Int)) = W := ⟨_, rfl⟩
     obtain ⟨wm2, hwm2⟩ : ∃ W, wm.setCell ⟨gf, 3, none⟩ (.int .i64 (s1 : Int)) = W := ⟨_, rfl⟩
     have HD3 : Hid (Below w3.heap.size w3 (w3.drewN 1)) := drewN_below w3 1
     have HKM : Hid (Keep (fun k => k = gf) w3 wm2) := by
      rw [← hwm2, ← hwm]
      exact (((Keep.drewN (fun k => k = gf) w3 1).trans (Keep.setCell (fun k => k = gf) _ ⟨gf, 0, none⟩ _ rfl) (fun _ => .inl)).trans (Keep.setCell (fun k => k = gf) _ ⟨gf, 2, none⟩ _ rfl) (fun _ => .inl)).trans (Keep.setCell (fun k => k = gf) _ ⟨gf, 3, none⟩ _ rfl) (fun _ => .inl)
     have U1 : Hid (HoldAt base (Fup F w0 w3) wm2 h win SN s1 ps P) := V1.out.keep HKM.out (fun k hk e => (HNF.out w3).1 (e ▸ hk))
     have U2 : Hid (Rg wm2 g gb m R2) := V2.out.keep HKM.out HGN.out.1 HGN.out.2.2.1
     have U3 : Hid (Blk wm2 gf 179 #[.bool true, .bool false, .int .i64 (tv : Int), .int .i64 (s1 : Int), .int .i64 (rd2 : Int)]) := by
      rw [← hwm2, ← hwm]
      exact (((V3.out.below HD3.out V3.out.lt).set 0 (.bool true)).set 2 (.int .i64 (tv : Int))).set 3 (.int .i64 (s1 : Int))
     have U4 : Hid (Blk wm2 gr 179 #[.bool false, .bool false, .int .i64 0, .int .i64 0, .int .i64 0]) := HKM.out.blk V4.out HGN.out.2.2.2.2.1.symm
     have U5 : Hid (Keep G w0 wm2) := V5.out.trans (HKM.out.mono (fun k _ e => (HG1.out k).2 (.inr (.inl e)))) (fun _ => .inl)
     rw [hwm, hwm2]
     clear hwm hwm2 u2 u2' f0 f1 f2 f3 f4 f0' f1' f2' f3' hfl hfl' hf0 hf2 hf3 hf0' hf2' hf3' ul ul' V1 V2 V3 V4 V5 HD3
     obtain ⟨-, -, -, -, -, -, vb4, vp4, va4, k1, -⟩ := U1.out
     have u2 := k1.cell 2
     have ul := k1.lt
     simp only [List.getElem?_toArray, List.getElem?_cons_zero, List.getElem?_cons_succ] at u2
     have CM := hid (hoMatch_any base h win s1 (Fup F w0 w3) SN ps P wm2 U1.out hs1a (Nat.le_trans hbw0 U5.out.size))
     clear k1
     go_wp2_with fail
     refine CM.out.mono ?_
     rintro en wq ⟨rfl, x1, x2⟩
     have hsm : w3.heap.size ≤ wm2.heap.size := HKM.out.size
     have W1 : Hid (HoldAt base (Fup F w0 wq) wq h win (SN.drop s1) 0 ps P) := x1.mono (fun k hk => by
      rcases hk with hk | hk
      ·exact Fup.mono (Nat.le_trans hsm x2.size) hk
      ·exact .inr ⟨Nat.le_trans U5.out.size hk.1, hk.2⟩)
     have W2 : Hid (Rg wq g gb m R2) := U2.out.keep x2 (fun hg => HDU.out w3 g hg (.inl rfl)) (fun hg => HDU.out w3 gb hg (.inr rfl))
     have W3 := hid (x2.blk U3.out (HNF.out w3).1)
     have W4 := hid (x2.blk U4.out (HNF.out w3).2)
     have W5 : Hid (Keep G w0 wq) := U5.out.trans x2 (fun k hk => by
      rcases hk with hk | hk
      ·exact .inl ((HG1.out k).2 (.inl (.inl hk)))
      ·exact .inr hk.1)
     clear CM x1 x2 U1 U2 U3 U4 U5 HKM u2 ul
     obtain ⟨f0, f1, f2, f3, f4⟩ := fact5 W3.out
     have hfl := W3.out.lt
     obtain ⟨z0, z1, z2, z3, z4⟩ := fact5 W4.out
     have y0 := W4.out.frozen 0; have y1 := W4.out.frozen 1; have y2 := W4.out.frozen 2; have y3 := W4.out.frozen 3; have y4 := W4.out.frozen 4
     have hzl := W4.out.lt
     go_wp2_with fail
     obtain ⟨wz, hwz⟩ : ∃ W, set5 wq gr (.bool true) (.bool false) (.int .i64 (tv : Int)) (.int .i64 (s1 : Int)) (.int .i64 (rd2 : Int)) = W := ⟨_, rfl⟩
     have Z1 : Blk wz gr 179 #[.bool true, .bool false, .int .i64 (tv : Int), .int .i64 (s1 : Int), .int .i64 (rd2 : Int)] := by rw [← hwz]; exact set5_blk W4.out _ _ _ _ _
     have ZK : Keep (fun k => k = gr) wq wz := by rw [← hwz]; exact set5_self wq gr _ _ _ _ _
     have Z2 : HoldAt base (Fup F w0 wq) wz h win (SN.drop s1) 0 ps P := W1.out.keep ZK (fun k hk h => (HNF.out wq).2 (h ▸ hk))
     have Z3 : Rg wz g gb m R2 := W2.out.keep ZK HGN.out.2.1 HGN.out.2.2.2.1
     have Z4 : Keep G w0 wz := by rw [← hwz]; exact set5_keep W5.out ((HG1.out gr).2 (.inr (.inr rfl))) _ _ _ _ _
     unfold set5 at hwz
     rw [hwz]
     obtain ⟨r0, r1, r2, r3, r4⟩ := fact5 Z1
     refine bodyPost_ret (v := foundV true false tv s1 (rd2)) (by simp [results, Tryz.results152, go_sem, foundV, r0, r1, r2, r3, r4]) rfl ?_
     rw [HXE.out]
     exact ⟨rfl, Z2.mono (fun k hk => (HWS.out wz Z4.size).2 k (Fup.mono ZK.size hk)), Z3, HFIX.out wz Z4⟩
end Go.Proofs.YtpkkfdmhbbipoaaGreat
