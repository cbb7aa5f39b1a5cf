/- The walk of a window's look. -/
import Derived.Test.YtpkkfdmhbbipoaaGreatPh
namespace Go.Proofs.YtpkkfdmhbbipoaaGreat
set_option maxRecDepth 20000
set_option maxHeartbeats 8000000
open Go.RowKit PopT
def Jp (mt fl : Bool) (arm gone rd : Nat) : Value := .agg #[mt, fl, (arm : Int), (gone : Int), (rd : Int)]
def Gp (w : World) (g : Nat) (a b c d e : Value) : World := ((((w.setCell ⟨g, 0, none⟩ a).setCell ⟨g, 1, none⟩ b).setCell ⟨g, 2, none⟩ c).setCell ⟨g, 3, none⟩ d).setCell ⟨g, 4, none⟩ e
theorem Gf {w : World} {g : Nat} {t : TypeId} {x0 x1 x2 x3 x4 : Value} (h : Blk w g t #[x0, x1, x2, x3, x4]) (a b c d e : Value) : Blk (Gp w g a b c d e) g t #[a, b, c, d, e] := by
 have h0 : Blk _ g t #[a, x1, x2, x3, x4] := h.set 0 a;have h1 : Blk _ g t #[a, b, x2, x3, x4] := h0.set 1 b;have h2 : Blk _ g t #[a, b, c, x3, x4] := h1.set 2 c;have h3 : Blk _ g t #[a, b, c, d, x4] := h2.set 3 d;exact h3.set 4 e
theorem Np {G : Nat → Prop} {w0 w : World} {g : Nat} (h : Za G w0 w) (hg : G g) (a b c d e : Value) : Za G w0 (Gp w g a b c d e) :=
 ((((h.trans (Za.setCell G w ⟨g, 0, none⟩ a hg) (fun _ => .inl)).trans (Za.setCell G _ ⟨g, 1, none⟩ b hg) (fun _ => .inl)).trans (Za.setCell G _ ⟨g, 2, none⟩ c hg) (fun _ => .inl)).trans (Za.setCell G _ ⟨g, 3, none⟩ d hg) (fun _ => .inl)).trans (Za.setCell G _ ⟨g, 4, none⟩ e hg) (fun _ => .inl)
theorem Kx (w : World) (g : Nat) (a b c d e : Value) : Za (fun k => k = g) w (Gp w g a b c d e) := Np (G := fun k => k = g) (Za.refl _ w) rfl a b c d e
theorem Vr {w : World} {g : Nat} {t : TypeId} {a b c d e : Value} (h : Blk w g t #[a, b, c, d, e]) : w.cell? ⟨g, 0, none⟩ = some a ∧ w.cell? ⟨g, 1, none⟩ = some b ∧ w.cell? ⟨g, 2, none⟩ = some c ∧ w.cell? ⟨g, 3, none⟩ = some d ∧ w.cell? ⟨g, 4, none⟩ = some e :=
 ⟨h.cell 0, h.cell 1, h.cell 2, h.cell 3, h.cell 4⟩
def Zae (w : World) (h g : Nat) : Nat :=
 (match w.cell? ⟨g, 2, none⟩ with | some (.int _ n) => n.toNat | _ => 0) + ((match w.cell? ⟨h, 1, none⟩ with | some (.slice _ n _) => n | _ => 0) - (match w.cell? ⟨h, 2, none⟩ with | some (.int _ s) => s.toNat | _ => 0))
theorem Zal {base h win seen g gb m : Nat} {F : Nat → Prop} {w : World} {S R : List UInt8} {ps : List ByteArray} {P : Option (List (List Zm))} (hh : Yq base F w h win S seen ps P) (hr : Rg w g gb m R) : Zae w h g = R.length + (S.length - seen) := by
 obtain ⟨h0, h1, h2, h3, h4, h5, vb, vp, va, a1, a2, a3, a4⟩ := hh;obtain ⟨A, c, rfl, -, -⟩ := a2.shape;obtain ⟨first, buf, r1, r2⟩ := hr;have e1 := a1.cell 1;have e2 := a1.cell 2;have e3 := r1.1.cell 2;simp only [List.getElem?_toArray, List.getElem?_cons_zero, List.getElem?_cons_succ] at e1 e2 e3;unfold Zae;rw [e1, e2, e3];simp
theorem Znn {base h win seen : Nat} {F : Nat → Prop} {w w5 : World} {S : List UInt8} {ps : List ByteArray} {P : Option (List (List Zm))} {vb vp va : Value} {n : Nat} {xs : List Value}
  (a1 : Blk w h 161 #[(win : Int), vb, (seen : Int), vp, va]) (a3 : Vk F w base 9 1 vp ps.length (Yj ps)) (a4 : Uh base F w va P S seen)
  (hk : Za (fun k => vb.ownBlock = some k ∧ w.ownsRow base 5 1 vb n xs) w w5) :
  Blk w5 h 161 #[(win : Int), vb, (seen : Int), vp, va] ∧ Vk F w5 base 9 1 vp ps.length (Yj ps) ∧ Uh base F w5 va P S seen := by
 have key : ∀ (k : Nat) (t : TypeId) (cs : Array Value), Blk w k t cs → t ≠ 5 → ¬ (vb.ownBlock = some k ∧ w.ownsRow base 5 1 vb n xs) := fun k t cs hb ht h => Vl hb h.2 (Ne.symm ht) h.1;refine ⟨hk.blk a1 (key h _ _ a1 ac), ?_, ?_⟩
 ·rcases a3 with e | ⟨e1, e2⟩
  ·exact .inl e
  ·refine .inr ⟨hk.own e1 (fun k hv h => ?_), e2⟩
   rcases Zc2 e1 h.2 ac with h3 | h3
   ·rw [h3] at hv; cases hv
   ·rw [hv, h.1] at h3; exact h3 rfl
 ·rcases a4 with e | ⟨ls, b, ar, h1, h2, h3, h4, h5, h6, h7, h8⟩
  ·exact .inl e
  ·have hb : ¬ (vb.ownBlock = some b ∧ w.ownsRow base 5 1 vb n xs) := by
    obtain ⟨-, ⟨A, c, hk, ho⟩, -⟩ := h3;exact key b _ _ hk ac
   have e : w5.cell? ⟨b, 0, none⟩ = w.cell? ⟨b, 0, none⟩ := World.cell?_of_block (hk.block b h3.blkLt hb);refine .inr ⟨ls, b, ar, h1, h2, h3.keep hk (fun k hf => ?_) (fun a ha => ?_), h4, h5, h6, fun k hf => h7 k ((AF.eq e k).1 hf), h8⟩
   ·rcases hf with rfl | ⟨v, e1, e2⟩
    ·exact hb
    ·obtain ⟨-, ⟨A, c, hkk, ho⟩, -⟩ := h3
     have e3 := (hkk.cell 0).symm.trans e1;injection e3 with e3
     subst e3;intro h;have e2' : (Value.slice A (Vm ar S seen).length c).ownBlock = some k := e2;rcases Zc2 ho h.2 ac with h3 | h3
     ·rw [h3] at e2'; cases e2'
     ·rw [e2', h.1] at h3; exact h3 rfl
   ·obtain ⟨cs, hcs⟩ := (h3.2.2 a ha).1.2
    exact key a.g _ _ hcs ac
theorem Zr5 {base n : Nat} {F : Nat → Prop} {w : World} {v : Value} {xs : List Value} (h : Vk F w base 5 1 v n xs) : Vk (fun k => (v.ownBlock = some k ∧ w.ownsRow base 5 1 v n xs) ∧ F k) w base 5 1 v n xs := by
 rcases h with h | ⟨h, hf⟩
 ·exact .inl h
 ·exact .inr ⟨h, fun k hk => ⟨⟨hk, h⟩, hf k hk⟩⟩
theorem Zhc (w : World) (a b : Obj) : Below w.heap.size w ((w.alloc a).alloc b) := ((Below.refl _ _).alloc (Nat.le_refl _) _).alloc ah _
theorem Zoa (w : World) (o : Obj) (t : TypeId) (cs : Array Value) : Blk ((w.alloc o).alloc (.cells cs t)) (w.heap.size + 1) t cs := by
 have := Blk.new (w.alloc o) t cs;simpa using this
theorem N97{P:Prop}(h:P:=by
 rw [← hwm2, ← hwm];exact (((V3.below HD3.out V3.lt).set 0 (.bool true)).set 2 (.int .i64 (tv : Int))).set 3 (.int .i64 (s1 : Int))):P:=h
theorem N51{P:Prop}(h:P:=by
 rw [← hwm2, ← hwm];exact (((Za.drewN (fun k => k = gf) w3 1).trans (Za.setCell (fun k => k = gf) _ ⟨gf, 0, none⟩ _ rfl) (fun _ => .inl)).trans (Za.setCell (fun k => k = gf) _ ⟨gf, 2, none⟩ _ rfl) (fun _ => .inl)).trans (Za.setCell (fun k => k = gf) _ ⟨gf, 3, none⟩ _ rfl) (fun _ => .inl)):P:=h
theorem N46{P:Prop}(h:P:=by
 rw [HXE.out];exact ⟨rfl, Z2.mono (fun k hk => (HWS.out wz Z4.size).2 k (Fup.mono ZK.size hk)), Z3, HFIX.out wz Z4⟩):P:=h
theorem Zle (base h win seen g gb m : Nat) (F : Nat → Prop) (S R : List UInt8) (ps : List ByteArray) (P : Option (List (List Zm))) (w : World) (hh : Yq base F w h win S seen ps P) (hr : Rg w g gb m R) (hd : ∀ k, F k → ¬ RgF g gb k) (hfin : ∀ k, F k → k < w.heap.size) (hbw : base ≤ w.heap.size) :
  Calls Tryz.prog 152 #[.pointer (some ⟨h, 0, none⟩), .pointer (some ⟨g, 0, none⟩)] w fun e w' =>
   e = .returned (Jp (Vu win (P.getD []) S seen R).mtch (Vu win (P.getD []) S seen R).full (Vu win (P.getD []) S seen R).arm (Vu win (P.getD []) S seen R).gone (Vu win (P.getD []) S seen R).read) ∧
   Yq base (Fup F w w') w' h win (Vu win (P.getD []) S seen R).S (Vu win (P.getD []) S seen R).seen ps P ∧ Rg w' g gb m (Vu win (P.getD []) S seen R).R ∧ Za (fun k => F k ∨ RgF g gb k) w w' := by
 obtain ⟨X, hX⟩ := nE (Vu win (P.getD []) S seen R);rw [hX];have HGO : Hid (∃ N, Ko S seen R ≤ N ∧ Wl win (P.getD []) N S seen R 0 = X) := ⟨_, Nat.le_refl _, hX⟩;have HH := hid hh; have HR := hid hr; have HD := hid hd; have HFIN := hid hfin;have hglt := hr.lt;clear hX hh hr hd hfin;go_enter Tryz.func152, Tryz.ntmps152;go_upto_region 2 with fail;obtain ⟨w0, hw0⟩ := nE ((w.alloc (.cells #[.bool false, .bool false, .int .i64 0, .int .i64 0, .int .i64 0] 179)).alloc (.cells #[.bool false, .bool false, .int .i64 0, .int .i64 0, .int .i64 0] 179));have HB0 : Hid (Below w.heap.size w w0) := hw0 ▸ Zhc _ _ _;have HG0 : Hid (Blk w0 w.heap.size 179 #[.bool false, .bool false, .int .i64 0, .int .i64 0, .int .i64 0]) := hw0 ▸ (Blk.new w _ _).alloc _;have HF0 : Hid (Blk w0 (w.heap.size + 1) 179 #[.bool false, .bool false, .int .i64 0, .int .i64 0, .int .i64 0]) := hw0 ▸ Zoa _ _ _ _;have HS0 : Hid (w0.heap.size = w.heap.size + 2) := by rw [Hid, ← hw0]; simp
 rw [hw0];clear hw0;obtain ⟨gr, hgr⟩ := nE (w.heap.size);rw [hgr] at HG0 HF0 ⊢;obtain ⟨gf, hgf⟩ := nE (gr + 1);rw [hgf] at HF0 ⊢
 -- the blocks of the two that are told lie in no footprint
 have HNF : Hid (∀ W, ¬ Fup F w0 W gf ∧ ¬ Fup F w0 W gr) := fun W => by
  have h1 := HS0.out;constructor
  ·rintro (h | h)
   ·have := HFIN.out _ h; omega
   ·omega
  ·rintro (h | h)
   ·have := HFIN.out _ h; omega
   ·omega
 have HDU : Hid (∀ W k, Fup F w0 W k → ¬ RgF g gb k) := fun W k hk => by
  have h1 := HS0.out;rcases hk with h | h
  ·exact HD.out k h
  ·rintro (h | h) <;> omega
 have HGN : Hid (g ≠ gf ∧ g ≠ gr ∧ gb ≠ gf ∧ gb ≠ gr ∧ gf ≠ gr ∧ gf < w0.heap.size ∧ gr < w0.heap.size) := by
  have h1 := HS0.out;refine ⟨?_, ?_, ?_, ?_, ?_, ?_, ?_⟩ <;> omega
 obtain ⟨G, hG⟩ : ∃ G : Nat → Prop, (fun k => (F k ∨ RgF g gb k) ∨ k = gf ∨ k = gr) = G := ⟨_, rfl⟩;have HG1 : Hid (∀ k, G k ↔ ((F k ∨ RgF g gb k) ∨ k = gf ∨ k = gr)) := fun k => by rw [← hG]
 have HFIX : Hid (∀ W, Za G w0 W → Za (fun k => F k ∨ RgF g gb k) w W) := fun W h =>
  (Za.of_below HB0.out).trans h (fun k hk => by
   rcases (HG1.out k).1 hk with h | h | h
   ·exact .inl h
   ·right; omega
   ·right; omega)
 have hbw0 : base ≤ w0.heap.size := by have := HS0.out; omega
 clear hG;have HI : Hid (Yq base (Fup F w0 w0) w0 h win S seen ps P) := (HH.below HB0.out).mono (fun k hk => .inl hk);have HRI : Hid (Rg w0 g gb m R) := HR.below HB0.out
 have HWS : Hid (∀ W, w0.heap.size ≤ W.heap.size → w.heap.size ≤ W.heap.size ∧ ∀ k, Fup F w0 W k → Fup F w W k) := fun W hW => by
  have h1 := HS0.out;exact ⟨aa, fun k hk => hk.imp id fun h => ⟨aa, h.2⟩⟩
 clear hgr hgf hglt hbw;obtain ⟨ls, hls⟩ := nE (P.getD []);have HLS := hid hls;rw [hls] at HGO;clear hls;go_wp2_with fail
 go_loopw [6] (fun _ wr => ∃ (N s' rd : Nat) (S' R' : List UInt8), Ko S' s' R' ≤ N ∧ Wl win ls N S' s' R' rd = X ∧ rd ≤ 1000000000 - R'.length ∧ Yq base (Fup F w0 wr) wr h win S' s' ps P ∧ Rg wr g gb m R' ∧ Blk wr gf 179 #[.bool false, .bool false, .int .i64 0, .int .i64 0, (rd : Int)] ∧ Blk wr gr 179 #[.bool false, .bool false, .int .i64 0, .int .i64 0, .int .i64 0] ∧ Za G w0 wr) (fun _ wr => Zae wr h g)
 case atStart =>
  obtain ⟨N, h1, h2⟩ := HGO.out;exact ⟨N, seen, 0, S, R, h1, h2, Nat.zero_le _, HI.out, HRI.out, HF0.out, HG0.out, Za.refl _ _⟩
 case round =>
  obtain ⟨N, s', rd, S', R', hN, hgo, hrd, hhold, hring, hbf, hbr, hkeep⟩ := hrel;have HN := hid hN; have HGO2 := hid hgo; have HHO := hid hhold; have HRI2 := hid hring; have HBF := hid hbf; have HBR := hid hbr; have HKE := hid hkeep;have HMS := hid (Zal hhold hring);have hle := hring.le;have hw0r : w0.heap.size ≤ wr.heap.size := hkeep.size;obtain ⟨N, rfl⟩ : ∃ n, N = n + 1 := ⟨N - 1, by have := Zgs S' s' R'; omega⟩;clear hN hgo hring hbf hbr hkeep HGO HI HRI HF0 HG0 HH HR;obtain ⟨h0, h1, h2, h3, h4, h5, vb, vp, va, a1, a2, a3, a4⟩ := hhold;obtain ⟨A, c, rfl, -, -⟩ := a2.shape;obtain ⟨n, hn⟩ := nE (S'.length);have HNS := hid hn;rw [hn] at a1 a2 h4 h5;have A1 := hid a1; have A2 := hid a2; have A3 := hid a3; have A4 := hid a4;have q0 := a1.cell 0; have q1 := a1.cell 1; have q2 := a1.cell 2;simp only [List.getElem?_toArray, List.getElem?_cons_zero, List.getElem?_cons_succ] at q0 q1 q2;have ql := a1.lt;have HX := hid (And.intro h0 (And.intro h1 (And.intro h2 (And.intro h3 (And.intro h4 h5)))));clear h0 h1 a1 a2 a3 a4 hn;by_cases hlt : s' < n
  ·have hne : ((s' : Int) == (n : Int)) = false := bF aa
   have HOLD := hid HHO.out
   have HGOX : Hid (X = if (dsM ls S' (s' + 1)).any id = true then ⟨S'.drop (s' + 1), 0, R', true, false, Wr (dsM ls S' (s' + 1)), s' + 1, rd⟩ else Wl win ls N S' (s' + 1) R' rd) := by
    rw [Hid, ← HGO2.out, Zfg _ _ _ _ _ _ _ (by rw [HNS.out]; exact hlt)]
   have HN2 : Hid (Ko S' (s' + 1) R' ≤ N) := by have a := HN.out; have b := HNS.out; unfold Hid Ko at *; omega
   have HM2 : Hid (R'.length + (S'.length - (s' + 1)) < Zae wr h g) := by rw [Hid, HMS.out, HNS.out]; omega
   have HSL : Hid (s' < S'.length) := by rw [Hid, HNS.out]; exact hlt
   clear HGO2 HN HMS A1 A2 A3 A4;go_wp2_with fail
   go_quiet (fail)
   obtain ⟨wq, hwq⟩ := nE (wr.drewN nq);have HBQ : Hid (Below wr.heap.size wr wq) := hwq ▸ Zq wr nq;rw [hwq];clear hwq q0 q1 q2 ql;have W1 : Hid (Yq base (Fup F w0 wq) wq h win S' s' ps P) := (HOLD.below HBQ.out).mono (fun k hk => Fup.mono HBQ.size hk);have W2 : Hid (Rg wq g gb m R') := HRI2.below HBQ.out;have W3 := bb HBF HBQ;have W4 := bb HBR HBQ;have W5 : Hid (Za G w0 wq) := HKE.trans (Za.of_below (F := G) HBQ.out) (fun _ => .inl);clear HOLD HRI2 HBF HBR HKE HBQ HHO;obtain ⟨s1, hs1⟩ := nE (s' + 1);have hs1a : 1 ≤ s1 := aa
   have CN := hid (Zfi base h win s' (Fup F w0 wq) S' ps P wq W1.out HSL.out (Nat.le_trans hbw0 W5.size));rw [HLS.out] at CN;rw [hs1] at CN HGOX HN2 HM2;obtain ⟨ds, hds⟩ := nE (dsM ls S' s1);rw [hds] at CN HGOX;obtain ⟨tv, htv⟩ := nE (Wr ds);obtain ⟨fd, hfd⟩ := nE (ds.any id);rw [htv, hfd] at CN HGOX;clear hds htv hfd;go_wp2_with fail;refine CN.mono ?_;rintro en w3 ⟨rfl, x1, x2⟩;have V1 : Hid (Yq base (Fup F w0 w3) w3 h win S' s1 ps P) := x1.mono (fun k hk => Fup.trans W5.size x2.size hk);have V2 : Hid (Rg w3 g gb m R') := W2.keep x2 (fun hg => HDU.out wq g hg (.inl rfl)) (fun hg => HDU.out wq gb hg (.inr rfl));have V3 := hid (x2.blk W3.out (HNF.out wq).1);have V4 := hid (x2.blk W4.out (HNF.out wq).2);have V5 : Hid (Za G w0 w3) := W5.upTrans x2 (fun k hk => (HG1.out k).2 (.inl (.inl hk)));have hsz3 : wq.heap.size ≤ w3.heap.size := x2.size;clear CN x1 x2 W1 W2 W3 W4 W5;cases fd
   ·have HGOZ : Hid (Wl win ls N S' s1 R' rd = X) := by rw [Hid, HGOX.out, if_neg ac]
    clear HGOX;go_wp2_with fail;go_roundw
    case rel => exact ⟨N, s1, rd, S', R', HN2.out, HGOZ.out, hrd, V1.out, V2.out, V3.out, V4.out, V5.out⟩
    case measure => rw [Zal V1.out V2.out]; exact HM2.out
   have HXE : Hid (X = ⟨S'.drop s1, 0, R', true, false, tv, s1, rd⟩) := fx
   clear HGOX HN2 HM2;obtain ⟨-, -, -, -, -, -, vb3, vp3, va3, k1, -⟩ := V1.out;have u2 := k1.cell 2;have ul := k1.lt;obtain ⟨f0, f1, f2, f3, f4⟩ := Vr V3.out;have hfl := V3.lt;have hf0 := V3.frozen 0; have hf2 := V3.frozen 2; have hf3 := V3.frozen 3;simp only [List.getElem?_toArray, List.getElem?_cons_zero, List.getElem?_cons_succ] at u2;have hhf : h ≠ gf := fun e => (HNF.out w3).1 (by have := V1.2.1; rwa [e] at this);clear k1;go_upto_region 14 with fail;refine Zx (.val 0 (.val 1 (.val 2 (.val 3 (.val 5 (.two 4 (.op 6 (.val 7 (.op 8 (.val 9 (.op 10 (.nil)))))) 6 (.val 7 (.two 4 (.op 8 (.val 9 (.op 10 (.nil)))) 8 (.op 4 (.val 9 (.op 10 (.nil)))))))))))) ab ab ?_;have u2' : (w3.drewN 1).cell? ⟨h, 2, none⟩ = some (.int .i64 (s1 : Int)) := u2;have f0' : (w3.drewN 1).cell? ⟨gf, 0, none⟩ = some (.bool false) := f0;have f1' : (w3.drewN 1).cell? ⟨gf, 1, none⟩ = some (.bool false) := f1;have f2' : (w3.drewN 1).cell? ⟨gf, 2, none⟩ = some (.int .i64 0) := f2;have f3' : (w3.drewN 1).cell? ⟨gf, 3, none⟩ = some (.int .i64 0) := f3;have ul' : h < (w3.drewN 1).heap.size := ul;have hfl' : gf < (w3.drewN 1).heap.size := hfl;have hf0' : (w3.drewN 1).frozen? ⟨gf, 0, none⟩ = false := hf0;have hf2' : (w3.drewN 1).frozen? ⟨gf, 2, none⟩ = false := hf2;have hf3' : (w3.drewN 1).frozen? ⟨gf, 3, none⟩ = false := hf3
   iterate 5 (refine Zb rfl ?_; go_big_quiet_step (fail); refine wpQuiet_nil ?_)
   refine Zj rfl rfl ?_ ?_
   focus
    go_wp2_with fail;refine Zc rfl ?_;go_wp2_with fail;refine Zb rfl ?_
    go_big_quiet_step (fail)
    refine wpQuiet_nil ?_
   rotate_left 1
   focus
    go_wp2_with fail;refine Zb rfl ?_
    go_big_quiet_step (fail)
    refine wpQuiet_nil ?_;refine Zj rfl rfl ?_ ?_
    focus
     go_wp2_with fail
    rotate_left 1
    focus
     go_wp2_with fail
   all_goals
    refine Zc rfl ?_;go_wp2_with fail;refine Zb rfl ?_
    go_big_quiet_step (fail)
    refine wpQuiet_nil ?_;refine Zc rfl ?_;go_wp2_with fail;refine Yi ?_;obtain ⟨wm, hwm⟩ := nE (((w3.drewN 1).setCell ⟨gf, 0, none⟩ (.bool true)).setCell ⟨gf, 2, none⟩ (.int .i64 (tv : Int)));obtain ⟨wm2, hwm2⟩ := nE (wm.setCell ⟨gf, 3, none⟩ (.int .i64 (s1 : Int)));have HD3 : Hid (Below w3.heap.size w3 (w3.drewN 1)) := Zq w3 1
    have HKM : Hid (Za (fun k => k = gf) w3 wm2) := by
     exact N51
    have U1 : Hid (Yq base (Fup F w0 w3) wm2 h win S' s1 ps P) := V1.keep HKM.out (fun k hk e => (HNF.out w3).1 (e ▸ hk));have U2 : Hid (Rg wm2 g gb m R') := V2.keep HKM.out HGN.1 HGN.2.2.1
    have U3 : Hid (Blk wm2 gf 179 #[.bool true, .bool false, (tv : Int), (s1 : Int), (rd : Int)]) := by
     exact N97
    have U4 : Hid (Blk wm2 gr 179 #[.bool false, .bool false, .int .i64 0, .int .i64 0, .int .i64 0]) := HKM.blk V4.out HGN.2.2.2.2.1.symm;have U5 : Hid (Za G w0 wm2) := V5.trans (HKM.mono (fun k _ e => (HG1.out k).2 (.inr (.inl e)))) (fun _ => .inl);rw [hwm, hwm2];clear hwm hwm2 u2 u2' f0 f1 f2 f3 f4 f0' f1' f2' f3' hfl hfl' hf0 hf2 hf3 hf0' hf2' hf3' ul ul' V1 V2 V3 V4 V5 HD3;obtain ⟨-, -, -, -, -, -, vb4, vp4, va4, k1, -⟩ := U1.out;have u2 := k1.cell 2;have ul := k1.lt;simp only [List.getElem?_toArray, List.getElem?_cons_zero, List.getElem?_cons_succ] at u2;have CM := hid (Zd3 base h win s1 (Fup F w0 w3) S' ps P wm2 U1.out hs1a (Nat.le_trans hbw0 U5.size));clear k1;go_wp2_with fail;refine CM.mono ?_;rintro en wq ⟨rfl, x1, x2⟩;have hsm : w3.heap.size ≤ wm2.heap.size := HKM.size
    have W1 : Hid (Yq base (Fup F w0 wq) wq h win (S'.drop s1) 0 ps P) := x1.mono (fun k hk => by
     rcases hk with hk | hk
     ·exact Fup.mono (Nat.le_trans hsm x2.size) hk
     ·exact .inr ⟨Nat.le_trans U5.size hk.1, hk.2⟩)
    have W2 : Hid (Rg wq g gb m R') := U2.keep x2 (fun hg => HDU.out w3 g hg (.inl rfl)) (fun hg => HDU.out w3 gb hg (.inr rfl));have W3 := hid (x2.blk U3.out (HNF.out w3).1);have W4 := hid (x2.blk U4.out (HNF.out w3).2)
    have W5 : Hid (Za G w0 wq) := U5.trans x2 (fun k hk => by
     rcases hk with hk | hk
     ·exact .inl ((HG1.out k).2 (.inl (.inl hk)))
     ·exact .inr hk.1)
    clear CM x1 x2 U1 U2 U3 U4 U5 HKM u2 ul;obtain ⟨f0, f1, f2, f3, f4⟩ := Vr W3.out;have hfl := W3.lt;obtain ⟨z0, z1, z2, z3, z4⟩ := Vr W4.out;have y0 := W4.frozen 0; have y1 := W4.frozen 1; have y2 := W4.frozen 2; have y3 := W4.frozen 3; have y4 := W4.frozen 4;have hzl := W4.lt;go_wp2_with fail;obtain ⟨wz, hwz⟩ := nE (Gp wq gr (.bool true) (.bool false) (.int .i64 (tv : Int)) (.int .i64 (s1 : Int)) (.int .i64 (rd : Int)));have Z1 : Blk wz gr 179 #[.bool true, .bool false, (tv : Int), (s1 : Int), (rd : Int)] := hwz ▸ Gf W4.out _ _ _ _ _;have ZK : Za (fun k => k = gr) wq wz := hwz ▸ Kx wq gr _ _ _ _ _;have Z2 : Yq base (Fup F w0 wq) wz h win (S'.drop s1) 0 ps P := W1.keep ZK (fun k hk h => (HNF.out wq).2 (h ▸ hk));have Z3 : Rg wz g gb m R' := W2.keep ZK HGN.2.1 HGN.2.2.2.1;have Z4 : Za G w0 wz := hwz ▸ Np W5.out ((HG1.out gr).2 (.inr (.inr rfl))) _ _ _ _ _;unfold Gp at hwz;rw [hwz];obtain ⟨r0, r1, r2, r3, r4⟩ := Vr Z1;refine bodyPost_ret (v := Jp true false tv s1 (rd)) cg rfl ?_;exact N46
  ·obtain rfl : s' = n := by omega
   have hne : ((s' : Int) == (s' : Int)) = true := ah
   obtain ⟨nr, hnr⟩ := nE (R'.length);have HNR := hid hnr;have CL := hid (fun W (hW : Below wr.heap.size wr W) => Zgj W g gb m R' (HRI2.below hW));rw [hnr] at CL;have HGO3 : Hid (Wl win ls (N + 1) S' S'.length R' rd = X) := by rw [Hid, HNS.out]; exact HGO2.out
   clear HGO2 hnr;go_wp2_with fail
   go_quiet (fail)
   have HBQ : Hid (Below wr.heap.size wr (wr.drewN nq)) := Zq wr nq;obtain ⟨wq, hwq⟩ := nE (wr.drewN nq);rw [hwq] at HBQ ⊢;clear hwq q0 q1 q2 ql;have CL2 := hid (CL.out wq HBQ.out);go_wp2_with fail;refine CL2.mono ?_;rintro en wx ⟨rfl, rfl⟩;clear CL CL2;have W3 := bb HBF HBQ;have W4 := bb HBR HBQ;have W5 : Hid (Za G w0 wq) := HKE.trans (Za.of_below (F := G) HBQ.out) (fun _ => .inl);have W2 : Hid (Rg wq g gb m R') := HRI2.below HBQ.out;have W1 : Hid (Yq base (Fup F w0 wq) wq h win S' s' ps P) := (HHO.below HBQ.out).mono (fun k hk => Fup.mono HBQ.size hk);have B1 := bb A1 HBQ;have B2 := hid ((A2.below HBQ.out (Nat.le_refl _)).mono (fun k hk => Fup.mono HBQ.size hk));have B3 := hid ((A3.below HBQ.out (Nat.le_refl _)).mono (fun k hk => Fup.mono HBQ.size hk));have B4 := hid ((A4.below HBQ.out).mono (fun k hk => Fup.mono HBQ.size hk));have hwrq : wr.heap.size ≤ wq.heap.size := HBQ.size;have hwq0 : w0.heap.size ≤ wq.heap.size := Nat.le_trans hw0r HBQ.size;clear HRI2 HBF HBR HKE HBQ HHO A1 A2 A3 A4;by_cases hr0 : nr = 0
   ·have hR0 : R' = [] := List.eq_nil_of_length_eq_zero (by rw [HNR.out]; exact hr0)
    subst hR0;have hr1 : ((nr : Int) == 0) = true := by simp [hr0]
    have HXE : Hid (X = ⟨S', s', [], false, false, 0, 0, rd⟩) := by rw [Hid, ← HGO3.out, Zdz, HNS.out]
    clear HGO3 hr0;obtain ⟨f0, f1, f2, f3, f4⟩ := Vr W3.out;have hfl := W3.lt;obtain ⟨z0, z1, z2, z3, z4⟩ := Vr W4.out;have y0 := W4.frozen 0; have y1 := W4.frozen 1; have y2 := W4.frozen 2; have y3 := W4.frozen 3; have y4 := W4.frozen 4;have hzl := W4.lt;go_wp2_with fail;obtain ⟨wz, hwz⟩ := nE (Gp wq gr (.bool false) (.bool false) (.int .i64 0) (.int .i64 0) (.int .i64 (rd : Int)));have Z1 : Blk wz gr 179 #[.bool false, .bool false, .int .i64 0, .int .i64 0, (rd : Int)] := hwz ▸ Gf W4.out _ _ _ _ _;have ZK : Za (fun k => k = gr) wq wz := hwz ▸ Kx wq gr _ _ _ _ _;have Z2 : Yq base (Fup F w0 wq) wz h win S' s' ps P := W1.keep ZK (fun k hk h => (HNF.out wq).2 (h ▸ hk));have Z3 : Rg wz g gb m [] := W2.keep ZK HGN.2.1 HGN.2.2.2.1;have Z4 : Za G w0 wz := hwz ▸ Np W5.out ((HG1.out gr).2 (.inr (.inr rfl))) _ _ _ _ _;unfold Gp at hwz;rw [hwz];obtain ⟨r0, r1, r2, r3, r4⟩ := Vr Z1;refine bodyPost_ret (v := Jp false false 0 0 rd) cg rfl ?_;exact N46
   have hr1 : ((nr : Int) == 0) = false := bF aa;have q0 := B1.cell 0; have q1 := B1.cell 1;simp only [List.getElem?_toArray, List.getElem?_cons_zero, List.getElem?_cons_succ] at q0 q1;have ql := B1.lt;by_cases hfull : s' = win
   ·have hf1 : ((s' : Int) == (win : Int)) = true := by simp [hfull]
    have HXE : Hid (X = ⟨S', s', R', false, true, 0, 0, rd⟩) := by rw [Hid, ← HGO3.out, Zd0 _ _ _ _ _ _ (fun h => hr0 (by rw [← HNR.out, h]; rfl)) (by rw [HNS.out]; exact hfull), HNS.out]
    have hff := W3.frozen 1;obtain ⟨f0, f1, f2, f3, f4⟩ := Vr W3.out;have hfl := W3.lt;clear HGO3 hr0;go_wp2_with fail
    go_quiet (fail)
    obtain ⟨wy, hwy⟩ := nE (wq.drewN nq);have HBY : Hid (Below wq.heap.size wq wy) := hwy ▸ Zq wq nq;rw [hwy];clear hwy q0 q1 ql f0 f1 f2 f3 f4 hfl hff B1 B2 B3 B4;have Y1 : Hid (Yq base (Fup F w0 wy) wy h win S' s' ps P) := (W1.below HBY.out).mono (fun k hk => Fup.mono HBY.size hk);have Y2 : Hid (Rg wy g gb m R') := W2.below HBY.out;have Y3 := bb W3 HBY;have Y4 := bb W4 HBY;have Y5 : Hid (Za G w0 wy) := W5.trans (Za.of_below (F := G) HBY.out) (fun _ => .inl);clear W1 W2 W3 W4 W5 HBY;have hff := Y3.frozen 1;obtain ⟨f0, f1, f2, f3, f4⟩ := Vr Y3.out;have hfl := Y3.lt;go_upto_region 9 with fail;obtain ⟨wq, hwu⟩ := nE (wy.setCell ⟨gf, 1, none⟩ (.bool true));have HK1 : Hid (Za (fun k => k = gf) wy wq) := hwu ▸ Za.setCell _ wy ⟨gf, 1, none⟩ _ rfl;have W1 : Hid (Yq base (Fup F w0 wq) wq h win S' s' ps P) := (Y1.keep HK1.out (fun k hk e => (HNF.out wy).1 (e ▸ hk))).mono (fun k hk => Fup.mono HK1.size hk);have W2 : Hid (Rg wq g gb m R') := Y2.keep HK1.out HGN.1 HGN.2.2.1;have W3 : Hid (Blk wq gf 179 #[.bool false, .bool true, .int .i64 0, .int .i64 0, (rd : Int)]) := hwu ▸ Y3.set 1 (.bool true);have W4 : Hid (Blk wq gr 179 #[.bool false, .bool false, .int .i64 0, .int .i64 0, .int .i64 0]) := hwu ▸ Y4.set_far HGN.2.2.2.2.1.symm;have W5 : Hid (Za G w0 wq) := hwu ▸ Y5.trans (Za.setCell G wy ⟨gf, 1, none⟩ _ ((HG1.out gf).2 (.inr (.inl rfl)))) (fun _ => .inl);rw [hwu];clear hwu f0 f1 f2 f3 f4 hfl hff Y1 Y2 Y3 Y4 Y5 HK1;obtain ⟨f0, f1, f2, f3, f4⟩ := Vr W3.out;have hfl := W3.lt;obtain ⟨z0, z1, z2, z3, z4⟩ := Vr W4.out;have y0 := W4.frozen 0; have y1 := W4.frozen 1; have y2 := W4.frozen 2; have y3 := W4.frozen 3; have y4 := W4.frozen 4;have hzl := W4.lt;go_wp2_with fail;obtain ⟨wz, hwz⟩ := nE (Gp wq gr (.bool false) (.bool true) (.int .i64 0) (.int .i64 0) (.int .i64 (rd : Int)));have Z1 : Blk wz gr 179 #[.bool false, .bool true, .int .i64 0, .int .i64 0, (rd : Int)] := hwz ▸ Gf W4.out _ _ _ _ _;have ZK : Za (fun k => k = gr) wq wz := hwz ▸ Kx wq gr _ _ _ _ _;have Z2 : Yq base (Fup F w0 wq) wz h win S' s' ps P := W1.keep ZK (fun k hk h => (HNF.out wq).2 (h ▸ hk));have Z3 : Rg wz g gb m R' := W2.keep ZK HGN.2.1 HGN.2.2.2.1;have Z4 : Za G w0 wz := hwz ▸ Np W5.out ((HG1.out gr).2 (.inr (.inr rfl))) _ _ _ _ _;unfold Gp at hwz;rw [hwz];obtain ⟨r0, r1, r2, r3, r4⟩ := Vr Z1;refine bodyPost_ret (v := Jp false true 0 0 rd) cg rfl ?_;exact N46
   have hf1 : ((s' : Int) == (win : Int)) = false := bF aa
   obtain ⟨ch, R2, hR2⟩ : ∃ c l, R' = c :: l := by
    cases R' with
    | nil => exact absurd (by rw [← HNR.out]; rfl) hr0
    | cons c l => exact ⟨c, l, rfl⟩
   subst hR2
   have HGOX : Hid (X = if (dsM ls (S' ++ [ch]) (s' + 1)).any id = true then ⟨(S' ++ [ch]).drop (s' + 1), 0, R2, true, false, Wr (dsM ls (S' ++ [ch]) (s' + 1)), s' + 1, rd + 1⟩ else Wl win ls N (S' ++ [ch]) (s' + 1) R2 (rd + 1)) := by
    have e := Zfh win ls N S' ch R2 rd (by rw [HNS.out]; exact hfull);rw [HGO3.out, HNS.out] at e;rw [Hid, e, show (S' ++ [ch]).drop (s' + 1) = [] from List.drop_of_length_le (by rw [List.length_append, HNS.out]; exact Nat.le_refl _)]
   have hR2l : R2.length + 1 = nr := by rw [← HNR.out]; rfl
   have HN2 : Hid (Ko (S' ++ [ch]) (s' + 1) R2 ≤ N) := by
    have a := HN.out; have b := HNS.out; have c := HNR.out;unfold Ko at a;unfold Hid Ko;rw [List.length_append];simp only [List.length_cons, List.length_nil] at *;omega
   have HM2 : Hid (R2.length + ((S' ++ [ch]).length - (s' + 1)) < Zae wr h g) := by
    rw [Hid, HMS.out, HNS.out, List.length_append, HNS.out]; simp
   have HSL : Hid (s' < (S' ++ [ch]).length) := by rw [Hid, List.length_append, HNS.out]; simp
   have hrdb : rd + 1 ≤ 1000000000 - R2.length := by
    have := HNR.out; simp only [List.length_cons] at hrd this; have := W2.le; simp only [List.length_cons] at this; omega
   have hsw : s' < win := by have := HX.out; omega
   obtain ⟨rd2, hrd2⟩ := nE (rd + 1);have hrd2i : (rd : Int) + 1 = (rd2 : Int) := aa
   obtain ⟨SN, hSN⟩ := nE (S' ++ [ch]);have HSN := hid hSN;rw [hSN] at HGOX HN2 HM2 HSL;rw [hrd2] at HGOX hrdb;have hrdm : rd2 ≤ 1000000000 := aa
   clear HGO3 HN HMS hr0 hfull hSN;go_wp2_with fail
   go_quiet (fail)
   obtain ⟨wy, hwy⟩ := nE (wq.drewN nq);have HBY : Hid (Below wq.heap.size wq wy) := hwy ▸ Zq wq nq;rw [hwy];clear hwy q0 q1 ql;go_upto_region 10 with fail;refine Zx (.val 0 (.val 1 (.val 2 (.val 3 (.val 5 (.two 4 (.op 6 (.val 7 (.op 8 (.op 9 (.val 10 (.val 11 (.op 12 (.nil)))))))) 6 (.val 7 (.two 4 (.op 8 (.op 9 (.val 10 (.val 11 (.op 12 (.nil)))))) 8 (.op 4 (.op 9 (.val 10 (.val 11 (.op 12 (.nil)))))))))))))) ab ab ?_;obtain ⟨wt, hwt⟩ := nE (wy.drewN 1);have HBT : Hid (Below wq.heap.size wq wt) := hwt ▸ HBY.trans ((Zq wy 1).mono HBY.size);rw [hwt];clear hwt HBY;have T1 := bb B1 HBT;have T2 := hid ((B2.below HBT.out (Nat.le_refl _)).mono (fun k hk => Fup.mono HBT.size hk));have T3 := hid ((B3.below HBT.out (Nat.le_refl _)).mono (fun k hk => Fup.mono HBT.size hk));have T4 := hid ((B4.below HBT.out).mono (fun k hk => Fup.mono HBT.size hk));have TF := bb W3 HBT;have TR := bb W4 HBT;have TK : Hid (Za G w0 wt) := W5.trans (Za.of_below (F := G) HBT.out) (fun _ => .inl)
   have CT : Hid (Calls Tryz.prog 170 #[.pointer (some ⟨g, 0, none⟩), .int .i64 1] wt fun e w' => e = .returned (.string ⟨#[ch]⟩) ∧ Rg w' g gb m R2 ∧ Za (RgF g gb) wt w') := by
    have := Zko wt g gb m (ch :: R2) 1 (W2.below HBT.out) aa aa;have e : Nv 1 (ch :: R2).length = 1 := by rw [Nv, if_neg ac, if_neg af]; rfl
    rw [e] at this;exact this
   have hqt : wq.heap.size ≤ wt.heap.size := HBT.size;have hszt : w0.heap.size ≤ wt.heap.size := Nat.le_trans hwq0 HBT.size;have q1 := T1.cell 1;simp only [List.getElem?_toArray, List.getElem?_cons_zero, List.getElem?_cons_succ] at q1;have ql := T1.lt;clear W1 W2 W3 W4 W5 B1 B2 B3 B4 HBT
   iterate 5 (refine Zb rfl ?_; go_big_quiet_step (fail); refine wpQuiet_nil ?_)
   refine Zj rfl rfl ?_ ?_
   focus
    go_wp2_with fail;refine Zc rfl ?_;go_wp2_with fail;refine CT.mono ?_;rintro en w6 ⟨rfl, x1, x2⟩;have hdt : ∀ k, Fup F w0 wt k → ¬ RgF g gb k := HDU.out wt;have S1 := hid (x2.blk T1.out (fun e => HDU.out wr h HX.2.1 e));have S2 : Hid (Vk (Fup F w0 w6) w6 base 5 1 (.slice A s' c) s' (Zo S')) := (T2.keep x2 hdt).mono (fun k hk => Fup.mono x2.size hk);have S3 : Hid (Vk (Fup F w0 w6) w6 base 9 1 vp ps.length (Yj ps)) := (T3.keep x2 hdt).mono (fun k hk => Fup.mono x2.size hk);have S4 : Hid (Uh base (Fup F w0 w6) w6 va P S' s') := (T4.keep x2 hdt).mono (fun k hk => Fup.mono x2.size hk);have SR : Hid (Rg w6 g gb m R2) := x1;have SF := hid (x2.blk TF.out lj);have SG := hid (x2.blk TR.out kz);have SK : Hid (Za G w0 w6) := TK.trans x2 (fun k hk => .inl ((HG1.out k).2 (.inl (.inr hk))));have hsz6 : wt.heap.size ≤ w6.heap.size := x2.size;have v1 := S1.cell 1;have vl := S1.lt;have v1x := (S1.alloc (.cells #[.int .u8 (ch.toNat : Int)] 5)).cell 1;have vlx := (S1.alloc (.cells #[.int .u8 (ch.toNat : Int)] 5)).lt;simp only [List.getElem?_toArray, List.getElem?_cons_zero, List.getElem?_cons_succ] at v1 v1x;have HOX := hid (Zr5 S2.out);have hbw6 : base ≤ w6.heap.size := Nat.le_trans hbw0 SK.size;clear CT x1 x2 T1 T2 T3 T4 TF TR TK q1 ql hdt;go_wp2_with fail;refine Zb rfl ?_
    go_big_quiet_step (fail)
    refine wpQuiet_nil ?_
   rotate_left 1
   focus
    go_wp2_with fail;refine CT.mono ?_;rintro en w6 ⟨rfl, x1, x2⟩;have hdt : ∀ k, Fup F w0 wt k → ¬ RgF g gb k := HDU.out wt;have S1 := hid (x2.blk T1.out (fun e => HDU.out wr h HX.2.1 e));have S2 : Hid (Vk (Fup F w0 w6) w6 base 5 1 (.slice A s' c) s' (Zo S')) := (T2.keep x2 hdt).mono (fun k hk => Fup.mono x2.size hk);have S3 : Hid (Vk (Fup F w0 w6) w6 base 9 1 vp ps.length (Yj ps)) := (T3.keep x2 hdt).mono (fun k hk => Fup.mono x2.size hk);have S4 : Hid (Uh base (Fup F w0 w6) w6 va P S' s') := (T4.keep x2 hdt).mono (fun k hk => Fup.mono x2.size hk);have SR : Hid (Rg w6 g gb m R2) := x1;have SF := hid (x2.blk TF.out lj);have SG := hid (x2.blk TR.out kz);have SK : Hid (Za G w0 w6) := TK.trans x2 (fun k hk => .inl ((HG1.out k).2 (.inl (.inr hk))));have hsz6 : wt.heap.size ≤ w6.heap.size := x2.size;have v1 := S1.cell 1;have vl := S1.lt;have v1x := (S1.alloc (.cells #[.int .u8 (ch.toNat : Int)] 5)).cell 1;have vlx := (S1.alloc (.cells #[.int .u8 (ch.toNat : Int)] 5)).lt;simp only [List.getElem?_toArray, List.getElem?_cons_zero, List.getElem?_cons_succ] at v1 v1x;have HOX := hid (Zr5 S2.out);have hbw6 : base ≤ w6.heap.size := Nat.le_trans hbw0 SK.size;clear CT x1 x2 T1 T2 T3 T4 TF TR TK q1 ql hdt;go_wp2_with fail;refine Zb rfl ?_
    go_big_quiet_step (fail)
    refine wpQuiet_nil ?_;refine Zj rfl rfl ?_ ?_
    focus
     go_wp2_with fail
    rotate_left 1
    focus
     go_wp2_with fail
   all_goals
    refine Zc rfl ?_;go_wp2_with fail;refine Zc rfl ?_;go_wp2_with (at_builtin; refine Zea _ _ rfl _ _ 136 rfl base 5 _ 1 1 Tryz.underlying136 Qj rfl ac _ _ _ rfl HOX.out 1 [.int .u8 (ch.toNat : Int)] rfl rfl rfl ?_ ac hbw6 ?_)
    ·omega
    intro g5 c5 w7 hown7 hk7 hf7;have P1 := Znn S1.out S3.out S4.out (hk7.mono (fun k _ hk => hk.1));have hdx : ∀ k, ((Value.slice A s' c).ownBlock = some k ∧ w6.ownsRow base 5 1 (.slice A s' c) s' (Zo S')) ∧ Fup F w0 w6 k → ¬ RgF g gb k := fun k hk => HDU.out w6 k hk.2;have R1 : Hid (Rg w7 g gb m R2) := SR.keep hk7 (fun hg => hdx g hg (.inl rfl)) (fun hg => hdx gb hg (.inr rfl));have RF := hid (hk7.blk SF.out (fun hg => (HNF.out w6).1 hg.2));have RG2 := hid (hk7.blk SG.out (fun hg => (HNF.out w6).2 hg.2))
    have RK : Hid (Za G w0 w7) := SK.trans hk7 (fun k hk => by
     rcases hk.2 with h | h
     ·exact .inl ((HG1.out k).2 (.inl (.inl h)))
     ·exact .inr h.1)
    have hsz7 : w6.heap.size ≤ w7.heap.size := hk7.size;have hg5h : g5 ≠ h := fun e => Vl P1.1 hown7 ac (by rw [e]; rfl)
    have hg5F : Fup F w0 w7 g5 := by
     rcases hf7 with hf | hf
     ·exact Fup.mono hsz7 hf.2
     ·exact .inr ⟨Nat.le_trans SK.size hf, (hown7.lt g5 rfl).2⟩
    have P1 := hid P1; have O7 := hid hown7; have G5 := hid hg5F;have v1 := P1.1.cell 1;have vf := P1.1.frozen 1;have vl := P1.1.lt;simp only [List.getElem?_toArray, List.getElem?_cons_zero, List.getElem?_cons_succ] at v1;clear hown7 hk7 hf7 hdx hg5F S1 S2 S3 S4 SR SF SG SK HOX v1x vlx;go_wp2_with fail
    iterate 2 (refine Zb rfl ?_; go_big_quiet_step (fail); refine wpQuiet_nil ?_)
    refine Zc rfl ?_;go_wp2_with fail;refine Yi ?_;obtain ⟨w8, hw8⟩ := nE (w7.setCell ⟨h, 1, none⟩ (.slice (some ⟨g5, 0, none⟩) (s' + 1) c5));have hs8 : w8.heap.size = w7.heap.size := by rw [← hw8]; simp
    have hup : ∀ k, Fup F w0 w6 k → Fup F w0 w8 k := fun k hk => Fup.mono aa hk;have HK8 : Hid (Za (fun k => k = h) w7 w8) := hw8 ▸ Za.setCell _ w7 ⟨h, 1, none⟩ _ rfl
    have E1 : Hid (Yq base (Fup F w0 w8) w8 h win SN s' ps P) := by
     have hlen : (S' ++ [ch]).length = s' + 1 := by rw [List.length_append, HNS.out]; rfl
     have hcl : Zo (S' ++ [ch]) = Zo S' ++ [.int .u8 (ch.toNat : Int)] := by simp [Zo]
     have b1 := P1.1.set 1 (.slice (some ⟨g5, 0, none⟩) (s' + 1) c5);have hx := HX.out;have hFh : Fup F w0 w8 h := Fup.mono aa hx.2.1;rw [← HSN.out];refine ⟨hx.1, hFh, hx.2.2.1, hx.2.2.2.1, by rw [hlen]; omega, by rw [hlen]; omega, .slice (some ⟨g5, 0, none⟩) (s' + 1) c5, vp, va, by rw [← hw8]; exact b1, ?_, ?_, ?_⟩
     ·rw [hlen, hcl]
      refine .inr ⟨by rw [← hw8]; exact Yo O7.out ⟨h, 1, none⟩ _ (by simp [Value.ownBlock, hg5h]), fun k hk => ?_⟩;simp only [Value.ownBlock, Option.some.injEq] at hk;subst hk;exact Fup.mono aa G5.out
     ·have := (P1.2.1.mono hup).set (i := 1) (u := .slice (some ⟨g5, 0, none⟩) (s' + 1) c5) P1.1 ac
      rwa [hw8] at this
     ·have := ((P1.2.2.mono hup).app ch (by rw [HNS.out]; exact Nat.le_refl _)).setB (i := 1) (u := .slice (some ⟨g5, 0, none⟩) (s' + 1) c5) P1.1 ac ac ac
      rwa [hw8] at this
    have hgh : g ≠ h := fun e => HDU.out wr h HX.2.1 (.inl e.symm);have hgbh : gb ≠ h := fun e => HDU.out wr h HX.2.1 (.inr e.symm);have hfh : gf ≠ h := fun e => (HNF.out wr).1 (by rw [e]; exact HX.2.1);have hrh : gr ≠ h := fun e => (HNF.out wr).2 (by rw [e]; exact HX.2.1);have E2 : Hid (Rg w8 g gb m R2) := R1.keep HK8.out hgh hgbh;have E3 := hid (HK8.blk RF.out hfh);have E4 := hid (HK8.blk RG2.out hrh)
    have E5 : Hid (Za G w0 w8) := RK.trans HK8.out (fun k hk => by
     rcases HX.2.1 with h' | h'
     ·exact .inl ((HG1.out k).2 (.inl (.inl (by rw [hk]; exact h'))))
     ·exact .inr (by rw [hk]; exact h'.1))
    rw [hw8];clear hw8 hup HK8 P1 O7 G5 R1 RF RG2 RK v1 vf vl hg5h hgh hgbh hfh hrh;obtain ⟨f0, f1, f2, f3, f4⟩ := Vr E3.out;have hfl := E3.lt;have hf4 := E3.frozen 4;go_upto_region 12 with fail;obtain ⟨wq, hwu⟩ := nE (w8.setCell ⟨gf, 4, none⟩ (.int .i64 (rd2 : Int)));have HK1 : Hid (Za (fun k => k = gf) w8 wq) := hwu ▸ Za.setCell _ w8 ⟨gf, 4, none⟩ _ rfl;have W1 : Hid (Yq base (Fup F w0 wq) wq h win SN s' ps P) := (E1.keep HK1.out (fun k hk e => (HNF.out w8).1 (e ▸ hk))).mono (fun k hk => Fup.mono HK1.size hk);have W2 : Hid (Rg wq g gb m R2) := E2.keep HK1.out HGN.1 HGN.2.2.1;have W3 : Hid (Blk wq gf 179 #[.bool false, .bool false, .int .i64 0, .int .i64 0, (rd2 : Int)]) := hwu ▸ E3.set 4 (.int .i64 (rd2 : Int));have W4 : Hid (Blk wq gr 179 #[.bool false, .bool false, .int .i64 0, .int .i64 0, .int .i64 0]) := hwu ▸ E4.set_far HGN.2.2.2.2.1.symm;have W5 : Hid (Za G w0 wq) := hwu ▸ E5.trans (Za.setCell G w8 ⟨gf, 4, none⟩ _ ((HG1.out gf).2 (.inr (.inl rfl)))) (fun _ => .inl);rw [hwu];clear hwu f0 f1 f2 f3 f4 hfl hf4 E1 E2 E3 E4 E5 HK1;obtain ⟨s1, hs1⟩ := nE (s' + 1);have hs1a : 1 ≤ s1 := aa
    have CN := hid (Zfi base h win s' (Fup F w0 wq) SN ps P wq W1.out HSL.out (Nat.le_trans hbw0 W5.size));rw [HLS.out] at CN;rw [hs1] at CN HGOX HN2 HM2;obtain ⟨ds, hds⟩ := nE (dsM ls SN s1);rw [hds] at CN HGOX;obtain ⟨tv, htv⟩ := nE (Wr ds);obtain ⟨fd, hfd⟩ := nE (ds.any id);rw [htv, hfd] at CN HGOX;clear hds htv hfd;go_wp2_with fail;refine CN.mono ?_;rintro en w3 ⟨rfl, x1, x2⟩;have V1 : Hid (Yq base (Fup F w0 w3) w3 h win SN s1 ps P) := x1.mono (fun k hk => Fup.trans W5.size x2.size hk);have V2 : Hid (Rg w3 g gb m R2) := W2.keep x2 (fun hg => HDU.out wq g hg (.inl rfl)) (fun hg => HDU.out wq gb hg (.inr rfl));have V3 := hid (x2.blk W3.out (HNF.out wq).1);have V4 := hid (x2.blk W4.out (HNF.out wq).2);have V5 : Hid (Za G w0 w3) := W5.upTrans x2 (fun k hk => (HG1.out k).2 (.inl (.inl hk)));have hsz3 : wq.heap.size ≤ w3.heap.size := x2.size;clear CN x1 x2 W1 W2 W3 W4 W5;cases fd
    ·have HGOZ : Hid (Wl win ls N SN s1 R2 rd2 = X) := by rw [Hid, HGOX.out, if_neg ac]
     clear HGOX;go_wp2_with fail;go_roundw
     case rel => exact ⟨N, s1, rd2, SN, R2, HN2.out, HGOZ.out, hrdb, V1.out, V2.out, V3.out, V4.out, V5.out⟩
     case measure => rw [Zal V1.out V2.out]; exact HM2.out
    have HXE : Hid (X = ⟨SN.drop s1, 0, R2, true, false, tv, s1, rd2⟩) := fx
    clear HGOX HN2 HM2;obtain ⟨-, -, -, -, -, -, vb3, vp3, va3, k1, -⟩ := V1.out;have u2 := k1.cell 2;have ul := k1.lt;obtain ⟨f0, f1, f2, f3, f4⟩ := Vr V3.out;have hfl := V3.lt;have hf0 := V3.frozen 0; have hf2 := V3.frozen 2; have hf3 := V3.frozen 3;simp only [List.getElem?_toArray, List.getElem?_cons_zero, List.getElem?_cons_succ] at u2;have hhf : h ≠ gf := fun e => (HNF.out w3).1 (by have := V1.2.1; rwa [e] at this);clear k1;go_upto_region 14 with fail;refine Zx (.val 0 (.val 1 (.val 2 (.val 3 (.val 5 (.two 4 (.op 6 (.val 7 (.op 8 (.val 9 (.op 10 (.nil)))))) 6 (.val 7 (.two 4 (.op 8 (.val 9 (.op 10 (.nil)))) 8 (.op 4 (.val 9 (.op 10 (.nil)))))))))))) ab ab ?_;have u2' : (w3.drewN 1).cell? ⟨h, 2, none⟩ = some (.int .i64 (s1 : Int)) := u2;have f0' : (w3.drewN 1).cell? ⟨gf, 0, none⟩ = some (.bool false) := f0;have f1' : (w3.drewN 1).cell? ⟨gf, 1, none⟩ = some (.bool false) := f1;have f2' : (w3.drewN 1).cell? ⟨gf, 2, none⟩ = some (.int .i64 0) := f2;have f3' : (w3.drewN 1).cell? ⟨gf, 3, none⟩ = some (.int .i64 0) := f3;have ul' : h < (w3.drewN 1).heap.size := ul;have hfl' : gf < (w3.drewN 1).heap.size := hfl;have hf0' : (w3.drewN 1).frozen? ⟨gf, 0, none⟩ = false := hf0;have hf2' : (w3.drewN 1).frozen? ⟨gf, 2, none⟩ = false := hf2;have hf3' : (w3.drewN 1).frozen? ⟨gf, 3, none⟩ = false := hf3
    iterate 5 (refine Zb rfl ?_; go_big_quiet_step (fail); refine wpQuiet_nil ?_)
    refine Zj rfl rfl ?_ ?_
    focus
     go_wp2_with fail;refine Zc rfl ?_;go_wp2_with fail;refine Zb rfl ?_
     go_big_quiet_step (fail)
     refine wpQuiet_nil ?_;refine Zc rfl ?_;go_wp2_with fail;refine Zb rfl ?_
     go_big_quiet_step (fail)
     refine wpQuiet_nil ?_;refine Zc rfl ?_;go_wp2_with fail;refine Yi ?_
    rotate_left 1
    focus
     go_wp2_with fail;refine Zb rfl ?_
     go_big_quiet_step (fail)
     refine wpQuiet_nil ?_;refine Zj rfl rfl ?_ ?_
     focus
      go_wp2_with fail;refine Zc rfl ?_;go_wp2_with fail;refine Zb rfl ?_
      go_big_quiet_step (fail)
      refine wpQuiet_nil ?_;refine Zc rfl ?_;go_wp2_with fail;refine Yi ?_
     rotate_left 1
     focus
      go_wp2_with fail;refine Zc rfl ?_;go_wp2_with fail;refine Zb rfl ?_
      go_big_quiet_step (fail)
      refine wpQuiet_nil ?_;refine Zc rfl ?_;go_wp2_with fail;refine Yi ?_
    all_goals
     obtain ⟨wm, hwm⟩ := nE (((w3.drewN 1).setCell ⟨gf, 0, none⟩ (.bool true)).setCell ⟨gf, 2, none⟩ (.int .i64 (tv : Int)));obtain ⟨wm2, hwm2⟩ := nE (wm.setCell ⟨gf, 3, none⟩ (.int .i64 (s1 : Int)));have HD3 : Hid (Below w3.heap.size w3 (w3.drewN 1)) := Zq w3 1
     have HKM : Hid (Za (fun k => k = gf) w3 wm2) := by
      exact N51
     have U1 : Hid (Yq base (Fup F w0 w3) wm2 h win SN s1 ps P) := V1.keep HKM.out (fun k hk e => (HNF.out w3).1 (e ▸ hk));have U2 : Hid (Rg wm2 g gb m R2) := V2.keep HKM.out HGN.1 HGN.2.2.1
     have U3 : Hid (Blk wm2 gf 179 #[.bool true, .bool false, (tv : Int), (s1 : Int), (rd2 : Int)]) := by
      exact N97
     have U4 : Hid (Blk wm2 gr 179 #[.bool false, .bool false, .int .i64 0, .int .i64 0, .int .i64 0]) := HKM.blk V4.out HGN.2.2.2.2.1.symm;have U5 : Hid (Za G w0 wm2) := V5.trans (HKM.mono (fun k _ e => (HG1.out k).2 (.inr (.inl e)))) (fun _ => .inl);rw [hwm, hwm2];clear hwm hwm2 u2 u2' f0 f1 f2 f3 f4 f0' f1' f2' f3' hfl hfl' hf0 hf2 hf3 hf0' hf2' hf3' ul ul' V1 V2 V3 V4 V5 HD3;obtain ⟨-, -, -, -, -, -, vb4, vp4, va4, k1, -⟩ := U1.out;have u2 := k1.cell 2;have ul := k1.lt;simp only [List.getElem?_toArray, List.getElem?_cons_zero, List.getElem?_cons_succ] at u2;have CM := hid (Zd3 base h win s1 (Fup F w0 w3) SN ps P wm2 U1.out hs1a (Nat.le_trans hbw0 U5.size));clear k1;go_wp2_with fail;refine CM.mono ?_;rintro en wq ⟨rfl, x1, x2⟩;have hsm : w3.heap.size ≤ wm2.heap.size := HKM.size
     have W1 : Hid (Yq base (Fup F w0 wq) wq h win (SN.drop s1) 0 ps P) := x1.mono (fun k hk => by
      rcases hk with hk | hk
      ·exact Fup.mono (Nat.le_trans hsm x2.size) hk
      ·exact .inr ⟨Nat.le_trans U5.size hk.1, hk.2⟩)
     have W2 : Hid (Rg wq g gb m R2) := U2.keep x2 (fun hg => HDU.out w3 g hg (.inl rfl)) (fun hg => HDU.out w3 gb hg (.inr rfl));have W3 := hid (x2.blk U3.out (HNF.out w3).1);have W4 := hid (x2.blk U4.out (HNF.out w3).2)
     have W5 : Hid (Za G w0 wq) := U5.trans x2 (fun k hk => by
      rcases hk with hk | hk
      ·exact .inl ((HG1.out k).2 (.inl (.inl hk)))
      ·exact .inr hk.1)
     clear CM x1 x2 U1 U2 U3 U4 U5 HKM u2 ul;obtain ⟨f0, f1, f2, f3, f4⟩ := Vr W3.out;have hfl := W3.lt;obtain ⟨z0, z1, z2, z3, z4⟩ := Vr W4.out;have y0 := W4.frozen 0; have y1 := W4.frozen 1; have y2 := W4.frozen 2; have y3 := W4.frozen 3; have y4 := W4.frozen 4;have hzl := W4.lt;go_wp2_with fail;obtain ⟨wz, hwz⟩ := nE (Gp wq gr (.bool true) (.bool false) (.int .i64 (tv : Int)) (.int .i64 (s1 : Int)) (.int .i64 (rd2 : Int)));have Z1 : Blk wz gr 179 #[.bool true, .bool false, (tv : Int), (s1 : Int), (rd2 : Int)] := hwz ▸ Gf W4.out _ _ _ _ _;have ZK : Za (fun k => k = gr) wq wz := hwz ▸ Kx wq gr _ _ _ _ _;have Z2 : Yq base (Fup F w0 wq) wz h win (SN.drop s1) 0 ps P := W1.keep ZK (fun k hk h => (HNF.out wq).2 (h ▸ hk));have Z3 : Rg wz g gb m R2 := W2.keep ZK HGN.2.1 HGN.2.2.2.1;have Z4 : Za G w0 wz := hwz ▸ Np W5.out ((HG1.out gr).2 (.inr (.inr rfl))) _ _ _ _ _;unfold Gp at hwz;rw [hwz];obtain ⟨r0, r1, r2, r3, r4⟩ := Vr Z1;refine bodyPost_ret (v := Jp true false tv s1 (rd2)) cg rfl ?_;exact N46
end Go.Proofs.YtpkkfdmhbbipoaaGreat
