/- The walk of HoldFinds. Walks: the reference of layer 19: New, Begin; the law's 'same'. The walk of the reference's look. -/
import Derived.Test.YtpkkfdmhbbipoaaGreatPk
import Derived.Test.YtpkkfdmhbbipoaaGreatMh
import Derived.Test.YtpkkfdmhbbipoaaGreatMl
import Derived.Test.YtpkkfdmhbbipoaaGreatPc
namespace Go.Proofs.YtpkkfdmhbbipoaaGreat
set_option maxRecDepth 20000
set_option maxHeartbeats 8000000
open Go.RowKit PopT
def Mr (win : Nat) (S : List UInt8) (seen : Nat) (v : Value) : Value := .agg #[(win : Int), .string (rgT S), (seen : Int), v]
theorem N99{P:Prop}(h:P:=by
 go_enter Tryz.func144, Tryz.ntmps144
 go_wp2
 go_ret;exact ⟨rfl, rfl⟩):P:=h
theorem Zi3 (x : Int) (m : Nat) (w : World) (hm : m = 4096) : Calls Tryz.prog 144 #[x, .int .i64 1, (m : Int)] w fun e w' => e = .returned (.int .i64 (We x m : Nat)) ∧ w = w' := by
 subst hm;by_cases c1 : x < 1
 ·rw [show We x 4096 = 1 from if_pos c1]
  exact N99
 ·by_cases c2 : (4096 : Int) < x
  ·rw [show We x 4096 = 4096 from jl]
   exact N99
  ·have e : ((We x 4096 : Nat) : Int) = x := by rw [We, if_neg c1, if_neg aa]; omega
   rw [e];exact N99
theorem Zfb (x : Int) (w : World) : Calls Tryz.prog 100 #[x] w fun e w' => e = .returned (Mr (We x 4096) [] 0 (.slice none 0 0)) ∧ Below w.heap.size w w' := by
 have C1 := hid (fun W => Zi3 x 4096 W rfl);obtain ⟨m, hm⟩ := nE (We x 4096);rw [hm] at C1 ⊢;clear hm;go_enter Tryz.func100, Tryz.ntmps100;go_wp2_with fail;refine (C1.out _).mono ?_;rintro en w1 ⟨rfl, rfl⟩;clear C1;go_wp2_with fail;refine bodyPost_ret (v := Mr m [] 0 (.slice none 0 0)) (by simp [results, Tryz.results100, go_sem, Mr, rgT]) rfl ⟨rfl, ?_⟩
 first
  | exact (Below.refl _ _).alloc (Nat.le_refl _) _
  | exact ((((((Below.refl _ _).alloc (Nat.le_refl _) _).setCell (Nat.le_refl _) _).setCell (Nat.le_refl _) _).setCell (Nat.le_refl _) _).setCell (Nat.le_refl _) _)
theorem Qb.keepX {base b2 : Nat} {G : Nat → Prop} {w w' : World} {ls : List (List Zm)} {vs : List Value} (h : Qb base w ls vs) (hk : Za G w w') (hb : b2 ≤ base) (hg : ∀ k, base ≤ k → k < w.heap.size → ¬ G k) : Qb b2 w' ls vs := by
 refine ⟨h.1, fun i l hi => ?_⟩;obtain ⟨A, c, hv, ho⟩ := h.2 i l hi;exact ⟨A, c, hv, Vi (hk.own ho (fun k hv => hg k (ho.lt k hv).1 (ho.lt k hv).2)) hb⟩
def Na (base : Nat) (w : World) (ls : List (List Zm)) (v : Value) : Prop := ∃ A c vs, v = .slice A ls.length c ∧ w.ownsRow base 223 1 v ls.length vs ∧ Qb base w ls vs
theorem Na.keep {base b2 : Nat} {G : Nat → Prop} {w w' : World} {ls : List (List Zm)} {v : Value} (h : Na base w ls v) (hk : Za G w w') (hb : b2 ≤ base) (hg : ∀ k, base ≤ k → k < w.heap.size → ¬ G k) : Na b2 w' ls v := by
 obtain ⟨A, c, vs, rfl, h1, h2⟩ := h;exact ⟨A, c, vs, rfl, Vi (hk.own h1 (fun k hv => hg k (h1.lt k hv).1 (h1.lt k hv).2)) hb, h2.keepX hk hb hg⟩
theorem Na.below {base b2 : Nat} {w w' : World} {ls : List (List Zm)} {v : Value} (h : Na base w ls v) (hk : Below w.heap.size w w') (hb : b2 ≤ base) : Na b2 w' ls v := h.keep (G := fun _ => False) (Za.of_below hk) hb (fun _ _ _ h => h)
def Zrl (win seen : Nat) (S : List UInt8) (v : Value) (R : List (List Zm) × Nat × Nat) (w : World) (e : Ending) (w' : World) : Prop := Below w.heap.size w w' ∧
   ((R.2.2 ≠ 0 ∧ e = .returned (.tuple #[Mr win S seen v, ((R.2.2 : Nat) : Int)])) ∨
    (R.2.2 = 0 ∧ ∃ v', e = .returned (.tuple #[Mr win S 0 v', .int .i64 0]) ∧ Na w.heap.size w' R.1 v'))
theorem Zhj (win seen : Nat) (S : List UInt8) (v : Value) (A : Option Addr) (n c : Nat) (ps : List ByteArray) (w : World) (hv : ∃ A n c, v = .slice A n c) (hl : ps.length = n) (hn : n ≤ 1000) (hp : ∀ p ∈ ps, p.size ≤ 1000000) (hr : Rd w A (Yj ps)) :
  Calls Tryz.prog 147 #[Mr win S seen v, .slice A n c] w fun e w' => Zrl win seen S v (Uz ps) w e w' := by
 obtain ⟨A0, n0, c0, rfl⟩ := hv;have C1 := hid (fun W (hW : Below w.heap.size w W) => Zpd A n c ps W hl hn hp (hr.below hW));obtain ⟨⟨ls, i, e⟩, hR⟩ : ∃ R, Uz ps = R := ⟨_, rfl⟩;rw [hR] at C1 ⊢;obtain ⟨Q, hQ⟩ : ∃ Q : Ending → World → Prop, Zrl win seen S (.slice A0 n0 c0) (ls, i, e) w = Q := ⟨_, rfl⟩;have HQ := hid hQ;rw [show (fun e' w' => Zrl win seen S (.slice A0 n0 c0) (ls, i, e) w e' w') = Q from hQ];obtain ⟨ts, hts⟩ := nE (rgT S);have HTS := hid hts;unfold Mr;rw [hts];clear hR hl hn hp hr hts hQ;go_enter Tryz.func147, Tryz.ntmps147;go_upto_region 1 with fail;obtain ⟨w0, hw0⟩ := nE ((w.alloc (.cells #[(win : Int), ts, (seen : Int), .slice A0 n0 c0] 37)).alloc (.cells #[.int .i64 0, .string ⟨#[]⟩, .int .i64 0, .slice none 0 0] 37));have HB0 : Hid (Below w.heap.size w w0) := hw0 ▸ Zhc _ _ _;have HG0 : Hid (Blk w0 w.heap.size 37 #[(win : Int), ts, (seen : Int), .slice A0 n0 c0]) := hw0 ▸ (Blk.new w _ _).alloc _;have HF0 : Hid (Blk w0 (w.heap.size + 1) 37 #[.int .i64 0, .string ⟨#[]⟩, .int .i64 0, .slice none 0 0]) := hw0 ▸ Zoa _ _ _ _;rw [hw0];clear hw0;obtain ⟨gh, hgh⟩ := nE (w.heap.size);have HGH := hid hgh;rw [hgh] at HG0 HF0 ⊢;obtain ⟨gr, hgr⟩ := nE (gh + 1);rw [hgr] at HF0 ⊢;have hne : gh ≠ gr := aa
 have hghle : w.heap.size ≤ gh ∧ w.heap.size ≤ gr := aa
 clear hgh hgr;have C2 := hid (C1.out w0 HB0.out);have HLT : Hid (gh < w0.heap.size ∧ gr < w0.heap.size) := ⟨HG0.lt, HF0.lt⟩;clear C1;go_wp2_with fail;refine C2.mono ?_;rintro en w1 ⟨A', c', vs, rfl, hown, hls, hb1⟩;have HO := hid hown; have HL := hid hls;have HB1 := bt HB0 hb1;have HG1 := bb HG0 hb1;have HF1 := bb HF0 hb1;have hs01 : w.heap.size ≤ w0.heap.size := HB0.size;clear C2 hown hls hb1 HG0 HF0 HB0;obtain ⟨g0, g1, g2, g3⟩ := Wc HG1.out;have y2 := HG1.frozen 2; have y3 := HG1.frozen 3;have z0 := HF1.frozen 0; have z1 := HF1.frozen 1; have z2 := HF1.frozen 2; have z3 := HF1.frozen 3;obtain ⟨t0, t1, t2, t3⟩ := Wc HF1.out;have gl := HG1.lt; have fl := HF1.lt;simp only at HO HL;have HPV : Hid (Na w0.heap.size w1 ls (.slice A' ls.length c')) := ⟨A', c', vs, rfl, HO.out, HL.out⟩;have hgf : gh < w0.heap.size ∧ gr < w0.heap.size := HLT.out;obtain ⟨nl, hnl⟩ := nE (ls.length);simp only [hnl];rw [hnl] at HPV;clear hnl HO HL;by_cases he : e = 0
 ·subst he
  go_wp2_with fail;obtain ⟨wz, hwz⟩ := nE (Mp (((w1.setCell ⟨gh, 3, none⟩ (.slice A' nl c')).setCell ⟨gh, 2, none⟩ (.int .i64 0))) gr (.int .i64 (win : Int)) (.string ts) (.int .i64 0) (.slice A' nl c'))
  have Z1 : Blk wz gr 37 #[(win : Int), ts, .int .i64 0, .slice A' nl c'] := by
   rw [← hwz]; exact Zaa (((HF1.set_far hne.symm).set_far hne.symm)) _ _ _ _
  have ZB : Below w.heap.size w wz := by
   rw [← hwz]; exact Gk ((HB1.setCell hghle.1 _).setCell hghle.1 _) hghle.2 _ _ _ _
  have ZK : Za (fun k => k = gh ∨ k = gr) w1 wz := by
   rw [← hwz];unfold Mp;exact (((((Za.setCell _ w1 ⟨gh, 3, none⟩ _ (.inl rfl)).trans (Za.setCell (fun k => k = gh ∨ k = gr) _ ⟨gh, 2, none⟩ _ (.inl rfl)) (fun _ => .inl)).trans (Za.setCell (fun k => k = gh ∨ k = gr) _ ⟨gr, 0, none⟩ _ (.inr rfl)) (fun _ => .inl)).trans (Za.setCell (fun k => k = gh ∨ k = gr) _ ⟨gr, 1, none⟩ _ (.inr rfl)) (fun _ => .inl)).trans (Za.setCell (fun k => k = gh ∨ k = gr) _ ⟨gr, 2, none⟩ _ (.inr rfl)) (fun _ => .inl)).trans (Za.setCell (fun k => k = gh ∨ k = gr) _ ⟨gr, 3, none⟩ _ (.inr rfl)) (fun _ => .inl)
  unfold Mp at hwz;rw [hwz];obtain ⟨r0, r1, r2, r3⟩ := Wc Z1;refine bodyPost_ret (v := .tuple #[.agg #[(win : Int), ts, .int .i64 0, .slice A' nl c'], .int .i64 0]) lr rfl ?_;rw [← HQ.out];exact ⟨ZB, .inr ⟨rfl, .slice A' nl c', by rw [Mr, HTS.out]; rfl, HPV.keep ZK hs01 (fun k h1 h2 h3 => aa)⟩⟩
 ·have he0 : ((e : Int) == 0) = false := bF aa
  go_wp2_with fail;obtain ⟨wz, hwz⟩ := nE (Mp w1 gr (.int .i64 (win : Int)) (.string ts) (.int .i64 (seen : Int)) (.slice A0 n0 c0));have Z1 : Blk wz gr 37 #[(win : Int), ts, (seen : Int), .slice A0 n0 c0] := hwz ▸ Zaa HF1.out _ _ _ _;have ZB : Below w.heap.size w wz := hwz ▸ Gk HB1.out hghle.2 _ _ _ _;unfold Mp at hwz;rw [hwz];obtain ⟨r0, r1, r2, r3⟩ := Wc Z1;exact bodyPost_ret (v := .tuple #[.agg #[(win : Int), ts, (seen : Int), .slice A0 n0 c0], (e : Int)]) lr rfl (by rw [← HQ.out]; exact ⟨ZB, .inl ⟨he, by rw [Mr, HTS.out]⟩⟩)
def RS (w : World) (gh hr fr gf : Nat) (wr : World) (win : Nat) (ts : ByteArray) (seen : Nat) (v : Value) (mt fl : Bool) (k gn rd : Nat) : Prop :=
 Blk wr gh 37 #[(win : Int), ts, (seen : Int), v] ∧ Blk wr gf 191 #[mt, fl, (k : Int), (gn : Int), (rd : Int)] ∧
 Blk wr hr 37 #[.int .i64 0, .string ⟨#[]⟩, .int .i64 0, .slice none 0 0] ∧ Blk wr fr 191 #[.bool false, .bool false, .int .i64 0, .int .i64 0, .int .i64 0] ∧ Below w.heap.size w wr ∧
 w.heap.size ≤ gh ∧ gh < hr ∧ hr < fr ∧ fr < gf
section
variable {w wr w' : World} {gh hr fr gf win seen k gn rd : Nat} {ts : ByteArray} {v : Value} {mt fl : Bool}
theorem RS.below (h : RS w gh hr fr gf wr win ts seen v mt fl k gn rd) (hb : Below wr.heap.size wr w') : RS w gh hr fr gf w' win ts seen v mt fl k gn rd := by
 obtain ⟨h1, h2, h3, h4, h5, h6⟩ := h;exact ⟨h1.below hb h1.lt, h2.below hb h2.lt, h3.below hb h3.lt, h4.below hb h4.lt, h5.trans (hb.mono h5.size), h6⟩
theorem RS.set1 (h : RS w gh hr fr gf wr win ts seen v mt fl k gn rd) (u : ByteArray) : RS w gh hr fr gf (wr.setCell ⟨gh, 1, none⟩ (.string u)) win u seen v mt fl k gn rd := by
 obtain ⟨h1, h2, h3, h4, h5, h6, h7, h8, h9⟩ := h;exact ⟨h1.set 1 _, h2.set_far aa, h3.set_far aa, h4.set_far aa, h5.setCell h6 _, h6, h7, h8, h9⟩
theorem RS.set2 (h : RS w gh hr fr gf wr win ts seen v mt fl k gn rd) (u : Nat) : RS w gh hr fr gf (wr.setCell ⟨gh, 2, none⟩ (.int .i64 (u : Int))) win ts u v mt fl k gn rd := by
 obtain ⟨h1, h2, h3, h4, h5, h6, h7, h8, h9⟩ := h;exact ⟨h1.set 2 _, h2.set_far aa, h3.set_far aa, h4.set_far aa, h5.setCell h6 _, h6, h7, h8, h9⟩
theorem RS.f0 (h : RS w gh hr fr gf wr win ts seen v mt fl k gn rd) (u : Bool) : RS w gh hr fr gf (wr.setCell ⟨gf, 0, none⟩ (.bool u)) win ts seen v u fl k gn rd := by
 obtain ⟨h1, h2, h3, h4, h5, h6, h7, h8, h9⟩ := h;exact ⟨h1.set_far aa, h2.set 0 _, h3.set_far aa, h4.set_far aa, h5.setCell dv _, h6, h7, h8, h9⟩
theorem RS.f1 (h : RS w gh hr fr gf wr win ts seen v mt fl k gn rd) (u : Bool) : RS w gh hr fr gf (wr.setCell ⟨gf, 1, none⟩ (.bool u)) win ts seen v mt u k gn rd := by
 obtain ⟨h1, h2, h3, h4, h5, h6, h7, h8, h9⟩ := h;exact ⟨h1.set_far aa, h2.set 1 _, h3.set_far aa, h4.set_far aa, h5.setCell dv _, h6, h7, h8, h9⟩
theorem RS.f2 (h : RS w gh hr fr gf wr win ts seen v mt fl k gn rd) (u : Nat) : RS w gh hr fr gf (wr.setCell ⟨gf, 2, none⟩ (.int .i64 (u : Int))) win ts seen v mt fl u gn rd := by
 obtain ⟨h1, h2, h3, h4, h5, h6, h7, h8, h9⟩ := h;exact ⟨h1.set_far aa, h2.set 2 _, h3.set_far aa, h4.set_far aa, h5.setCell dv _, h6, h7, h8, h9⟩
theorem RS.f3 (h : RS w gh hr fr gf wr win ts seen v mt fl k gn rd) (u : Nat) : RS w gh hr fr gf (wr.setCell ⟨gf, 3, none⟩ (.int .i64 (u : Int))) win ts seen v mt fl k u rd := by
 obtain ⟨h1, h2, h3, h4, h5, h6, h7, h8, h9⟩ := h;exact ⟨h1.set_far aa, h2.set 3 _, h3.set_far aa, h4.set_far aa, h5.setCell dv _, h6, h7, h8, h9⟩
theorem RS.f4 (h : RS w gh hr fr gf wr win ts seen v mt fl k gn rd) (u : Nat) : RS w gh hr fr gf (wr.setCell ⟨gf, 4, none⟩ (.int .i64 (u : Int))) win ts seen v mt fl k gn u := by
 obtain ⟨h1, h2, h3, h4, h5, h6, h7, h8, h9⟩ := h;exact ⟨h1.set_far aa, h2.set 4 _, h3.set_far aa, h4.set_far aa, h5.setCell dv _, h6, h7, h8, h9⟩
theorem RS.out (h : RS w gh hr fr gf wr win ts seen v mt fl k gn rd) : ∃ w2, w2 = Gp (Mp wr hr (.int .i64 (win : Int)) (.string ts) (.int .i64 (seen : Int)) v) fr (.bool mt) (.bool fl) (.int .i64 (k : Int)) (.int .i64 (gn : Int)) (.int .i64 (rd : Int)) ∧
  Blk w2 hr 37 #[(win : Int), ts, (seen : Int), v] ∧ Blk w2 fr 191 #[mt, fl, (k : Int), (gn : Int), (rd : Int)] ∧ Below w.heap.size w w2 := by
 obtain ⟨h1, h2, h3, h4, h5, h6, h7, h8, h9⟩ := h;refine ⟨_, rfl, ?_, ?_, ?_⟩
 ·have := Zaa h3 (.int .i64 (win : Int)) (.string ts) (.int .i64 (seen : Int)) v
  unfold Gp;exact ((((this.set_far aa).set_far aa).set_far aa).set_far aa).set_far aa
 ·refine Gf (x0 := .bool false) (x1 := .bool false) (x2 := .int .i64 0) (x3 := .int .i64 0) (x4 := .int .i64 0) ?_ _ _ _ _ _
  unfold Mp;exact (((h4.set_far aa).set_far aa).set_far aa).set_far aa
 ·have hw : w.heap.size ≤ hr ∧ w.heap.size ≤ fr := by omega
  unfold Gp;exact (((((Gk h5 hw.1 _ _ _ _).setCell hw.2 _).setCell hw.2 _).setCell hw.2 _).setCell hw.2 _).setCell hw.2 _
theorem RS.facts (h : RS w gh hr fr gf wr win ts seen v mt fl k gn rd) : (wr.cell? ⟨gh, 0, none⟩ = some (.int .i64 (win : Int)) ∧ wr.cell? ⟨gh, 1, none⟩ = some (.string ts) ∧ wr.cell? ⟨gh, 2, none⟩ = some (.int .i64 (seen : Int)) ∧ wr.cell? ⟨gh, 3, none⟩ = some v) ∧
  (wr.cell? ⟨gf, 0, none⟩ = some (.bool mt) ∧ wr.cell? ⟨gf, 1, none⟩ = some (.bool fl) ∧ wr.cell? ⟨gf, 2, none⟩ = some (.int .i64 (k : Int)) ∧ wr.cell? ⟨gf, 3, none⟩ = some (.int .i64 (gn : Int)) ∧ wr.cell? ⟨gf, 4, none⟩ = some (.int .i64 (rd : Int))) ∧
  (∀ i, wr.frozen? ⟨gh, i, none⟩ = false) ∧ (∀ i, wr.frozen? ⟨gf, i, none⟩ = false) ∧ gh < wr.heap.size ∧ gf < wr.heap.size :=
 ⟨Wc h.1, Vr h.2.1, fun i => h.1.frozen i, fun i => h.2.1.frozen i, h.1.lt, h.2.1.lt⟩
theorem RS.zeros (h : RS w gh hr fr gf wr win ts seen v mt fl k gn rd) : (wr.cell? ⟨hr, 0, none⟩ = some (.int .i64 0) ∧ wr.cell? ⟨hr, 1, none⟩ = some (.string ⟨#[]⟩) ∧ wr.cell? ⟨hr, 2, none⟩ = some (.int .i64 0) ∧ wr.cell? ⟨hr, 3, none⟩ = some (.slice none 0 0)) ∧
  (wr.cell? ⟨fr, 0, none⟩ = some (.bool false) ∧ wr.cell? ⟨fr, 1, none⟩ = some (.bool false) ∧ wr.cell? ⟨fr, 2, none⟩ = some (.int .i64 0) ∧ wr.cell? ⟨fr, 3, none⟩ = some (.int .i64 0) ∧ wr.cell? ⟨fr, 4, none⟩ = some (.int .i64 0)) ∧
  (∀ i, wr.frozen? ⟨hr, i, none⟩ = false) ∧ (∀ i, wr.frozen? ⟨fr, i, none⟩ = false) ∧ hr < wr.heap.size ∧ fr < wr.heap.size :=
 ⟨Wc h.2.2.1, Vr h.2.2.2.1, fun i => h.2.2.1.frozen i, fun i => h.2.2.2.1.frozen i, h.2.2.1.lt, h.2.2.2.1.lt⟩
theorem RS.far (h : RS w gh hr fr gf wr win ts seen v mt fl k gn rd) : (gh ≠ hr ∧ gh ≠ fr ∧ gh ≠ gf) ∧ (hr ≠ fr ∧ hr ≠ gf ∧ fr ≠ gf) ∧ (hr ≠ gh ∧ fr ≠ gh ∧ gf ≠ gh) ∧ (fr ≠ hr ∧ gf ≠ hr ∧ gf ≠ fr) := by
 obtain ⟨h1, h2, h3, h4, h5, h6, h7, h8, h9⟩ := h;omega
end
def Zcb (sv : Value) (wr : World) (gh : Nat) : Nat := (match sv with | .string s => s.size | _ => 0) + ((match wr.cell? ⟨gh, 1, none⟩ with | some (.string s) => s.size | _ => 0) - (match wr.cell? ⟨gh, 2, none⟩ with | some (.int _ s) => s.toNat | _ => 0))
theorem Zbz {w wr : World} {gh hr fr gf win seen k gn rd : Nat} {ts tr : ByteArray} {v : Value} {mt fl : Bool} (h : RS w gh hr fr gf wr win ts seen v mt fl k gn rd) : Zcb (.string tr) wr gh = tr.size + (ts.size - seen) := by
 obtain ⟨⟨-, h1, h2, -⟩, -⟩ := h.facts;unfold Zcb;rw [h1, h2];simp
theorem Zif (ls : List (List Zm)) (S : List UInt8) (n : Nat) (h : ls.length ≤ 8) : Wr (dsM ls S n) ≤ 1000 := by
 unfold Wr;split
 ·have h1 := List.findIdx_le_length (xs := dsM ls S n) (p := id)
  have h2 : (dsM ls S n).length = ls.length := by unfold dsM; simp
  omega
 ·omega
theorem Zql (S : List UInt8) (c : UInt8) (R : List UInt8) : rgT S ++ (rgT (c :: R)).extract 0 1 = rgT (S ++ [c]) := by
 apply Go.WideShapes.bytes_inj;rw [ByteArray.data_append, Array.toList_append, Me];simp [rgT]
theorem Zou (c : UInt8) (R : List UInt8) : (rgT (c :: R)).extract 1 (rgT (c :: R)).size = rgT R := by
 apply Go.WideShapes.bytes_inj;rw [Zao, Qe];simp [rgT]
theorem Nl (S : List UInt8) (n : Nat) : (rgT S).extract n (rgT S).size = rgT (S.drop n) := by
 apply Go.WideShapes.bytes_inj;rw [Zao, Qe];simp [rgT, List.take_of_length_le]
theorem Zim (S : List UInt8) (n : Nat) : ((rgT S).extract 0 n).data.toList = S.take n := by
 rw [Me]; simp [rgT]
theorem Zja (base win seen : Nat) (S R : List UInt8) (v : Value) (ls : List (List Zm)) (w : World) (hP : Na base w ls v) (hs : seen ≤ S.length) (hS : S.length ≤ win) (hwin : win ≤ 4096) (hlen : S.length + R.length ≤ 1000) (hl8 : ls.length ≤ 8) (hl60 : ∀ l ∈ ls, l.length ≤ 60) :
  Calls Tryz.prog 164 #[Mr win S seen v, .string (rgT R)] w fun e w' =>
   e = .returned (.tuple #[Mr win (Vu win ls S seen R).S (Vu win ls S seen R).seen v, .string (rgT (Vu win ls S seen R).R), Jp (Vu win ls S seen R).mtch (Vu win ls S seen R).full (Vu win ls S seen R).arm (Vu win ls S seen R).gone (Vu win ls S seen R).read]) ∧ Below w.heap.size w w' := by
 obtain ⟨X, hX⟩ := nE (Vu win ls S seen R);rw [hX];have HGO : Hid (∃ N, Ko S seen R ≤ N ∧ Wl win ls N S seen R 0 = X) := ⟨_, Nat.le_refl _, hX⟩
 have CH : Hid (∀ W, Below w.heap.size w W → ∀ s : ByteArray, s.size ≤ 1000 → Calls Tryz.prog 191 #[v, s] W fun e w' => e = .returned (.int .i64 (Zb6 ls s.data.toList)) ∧ Below W.heap.size W w') := fun W hW s hs => by
  obtain ⟨A, c, vs, rfl, h1, h2⟩ := hP.below hW (Nat.le_refl _);exact Zno base A ls.length c vs ls s W rfl hl8 (Xw h1) h2 hs hl60
 have HV : Hid (∃ A n c, v = .slice A n c) := by obtain ⟨A, c, vs, rfl, -⟩ := hP; exact ⟨_, _, _, rfl⟩
 obtain ⟨A, n, c, rfl⟩ := HV.out;have HL8 := hid hl8; have HS := hid hs; have HW := hid hS; have HLEN := hid hlen;obtain ⟨ts, hts⟩ := nE (rgT S);have HTS := hid hts;obtain ⟨tr, htr⟩ := nE (rgT R);have HTR := hid htr;obtain ⟨Q, hQ⟩ : ∃ Q : Ending → World → Prop, (fun e w' => e = Ending.returned (.tuple #[Mr win X.S X.seen (.slice A n c), .string (rgT X.R), Jp X.mtch X.full X.arm X.gone X.read]) ∧ Below w.heap.size w w') = Q := ⟨_, rfl⟩
 have HQ : Hid (∀ W (S' R' : List UInt8) (s' : Nat) (mt fl : Bool) (k gn rd : Nat), X = ⟨S', s', R', mt, fl, k, gn, rd⟩ → Below w.heap.size w W → Q (.returned (.tuple #[.agg #[(win : Int), .string (rgT S'), (s' : Int), .slice A n c], .string (rgT R'), .agg #[mt, fl, (k : Int), (gn : Int), (rd : Int)]])) W) := fun W S' R' s' mt fl k gn rd hX h => by
  rw [← hQ]; subst hX; exact ⟨rfl, h⟩
 rw [hQ];unfold Mr;rw [hts];clear hX hP hs hS hlen hl8 hl60 hts htr hQ HV;go_enter Tryz.func164, Tryz.ntmps164;go_upto_region 2 with fail;obtain ⟨w0, hw0⟩ := nE ((((w.alloc (.cells #[(win : Int), ts, (seen : Int), .slice A n c] 37)).alloc (.cells #[.int .i64 0, .string ⟨#[]⟩, .int .i64 0, .slice none 0 0] 37)).alloc (.cells #[.bool false, .bool false, .int .i64 0, .int .i64 0, .int .i64 0] 191)).alloc (.cells #[.bool false, .bool false, .int .i64 0, .int .i64 0, .int .i64 0] 191))
 have HR0 : Hid (RS w w.heap.size (w.heap.size + 1) (w.heap.size + 1 + 1) (w.heap.size + 1 + 1 + 1) w0 win ts seen (.slice A n c) false false 0 0 0) := by
  rw [← hw0];refine ⟨(((Blk.new w _ _).alloc _).alloc _).alloc _, ?_, ((Zoa _ _ _ _).alloc _).alloc _, ?_, (((Zhc _ _ _).alloc af _).alloc af _), Nat.le_refl _, aa, aa, aa⟩
  ·have := Blk.new (((w.alloc (.cells #[(win : Int), ts, (seen : Int), .slice A n c] 37)).alloc (.cells #[.int .i64 0, .string ⟨#[]⟩, .int .i64 0, .slice none 0 0] 37)).alloc (.cells #[.bool false, .bool false, .int .i64 0, .int .i64 0, .int .i64 0] 191)) 191 #[.bool false, .bool false, .int .i64 0, .int .i64 0, .int .i64 0]
   simpa using this
  ·have := (Blk.new ((w.alloc (.cells #[(win : Int), ts, (seen : Int), .slice A n c] 37)).alloc (.cells #[.int .i64 0, .string ⟨#[]⟩, .int .i64 0, .slice none 0 0] 37)) 191 #[.bool false, .bool false, .int .i64 0, .int .i64 0, .int .i64 0]).alloc (.cells #[.bool false, .bool false, .int .i64 0, .int .i64 0, .int .i64 0] 191)
   simpa using this
 rw [hw0];clear hw0;obtain ⟨gh, hgh⟩ := nE (w.heap.size);have HGH := hid hgh;rw [hgh] at HR0 ⊢;obtain ⟨hr, hhr⟩ := nE (gh + 1);rw [hhr] at HR0 ⊢;obtain ⟨fr, hfr⟩ := nE (hr + 1);rw [hfr] at HR0 ⊢;obtain ⟨gf, hgf⟩ := nE (fr + 1);rw [hgf] at HR0 ⊢;clear hgh hhr hfr hgf;go_wp2_with fail
 go_loopw [1] (fun sv wr => ∃ (N s' rd : Nat) (S' R' : List UInt8) (ts' : ByteArray), Ko S' s' R' ≤ N ∧ Wl win ls N S' s' R' rd = X ∧ rd + R'.length ≤ 1000 ∧ s' ≤ S'.length ∧ S'.length ≤ win ∧ S'.length + R'.length ≤ 1000 ∧ sv = .string (rgT R') ∧ rgT S' = ts' ∧ RS w gh hr fr gf wr win ts' s' (.slice A n c) false false 0 0 rd) (fun sv wr => Zcb sv wr gh)
 case atStart =>
  obtain ⟨N, h1, h2⟩ := HGO.out;exact ⟨N, seen, 0, S, R, ts, h1, h2, by have := HLEN.out; omega, HS.out, HW.out, HLEN.out, by rw [HTR.out], HTS.out, HR0.out⟩
 case round =>
  obtain ⟨N, s', rd, S', R', tz, hN, hgo, hrd, hs', hw', hlen, rfl, htz, hrs⟩ := hrel;have HN := hid hN; have HGO2 := hid hgo; have HTZ := hid htz; have HRS := hid hrs; have HLEN2 := hid hlen; have HRD := hid hrd;have HMS := hid (Zbz (tr := rgT R') hrs);obtain ⟨N, rfl⟩ : ∃ n, N = n + 1 := ⟨N - 1, by have := Zgs S' s' R'; omega⟩;obtain ⟨n1, hn1⟩ := nE (S'.length);have HN1 := hid hn1;have hsz : tz.size = n1 := by rw [← htz, Qe, hn1]
  have HSZ := hid hsz;rw [hn1] at hs' hw';have hszi : (tz.size : Int) ≤ 1000 := aa
  have hn1k : n1 ≤ 1000 := aa
  obtain ⟨⟨p0, p1, p2, p3⟩, ⟨q0, q1, q2, q3, q4⟩, p5, q5, pl, ql⟩ := hrs.facts;obtain ⟨⟨d1, d2, d3⟩, ⟨d4, d5, d6⟩, ⟨d7, d8, d9⟩, ⟨d10, d11, d12⟩⟩ := hrs.far;clear hN hgo htz hrs hn1 HGO HR0 hlen HS HW HLEN HTR HTS;by_cases hlt : s' < n1
  ·have hne : ((s' : Int) == (tz.size : Int)) = false := bF aa
   have HGOX : Hid (X = if (dsM ls S' (s' + 1)).any id = true then ⟨S'.drop (s' + 1), 0, R', true, false, Wr (dsM ls S' (s' + 1)), s' + 1, rd⟩ else Wl win ls N S' (s' + 1) R' rd) := by
    rw [Hid, ← HGO2.out, Zfg _ _ _ _ _ _ _ (by rw [HN1.out]; exact hlt)]
   have HN2 : Hid (Ko S' (s' + 1) R' ≤ N) := by have a := HN.out; have b := HN1.out; unfold Hid Ko at *; omega
   have HM2 : Hid ((rgT R').size + (tz.size - (s' + 1)) < Zcb (.string (rgT R')) wr gh) := by rw [Hid, HMS.out, HSZ.out]; omega
   obtain ⟨tq, htq⟩ := nE (rgT R');have HTQ := hid htq;rw [htq];rw [htq] at HM2;clear HGO2 HN HMS htq hsz;obtain ⟨s1, hs1⟩ := nE (s' + 1);have hs1i : (s' : Int) + 1 = (s1 : Int) := aa
   have hs1t : (s1 : Int) ≤ (tz.size : Int) := by rw [HSZ.out]; omega
   have HDS : Hid (Zb6 ls (S'.take s1) = if (dsM ls S' s1).any id = true then (Wr (dsM ls S' s1) : Int) else -1) := by
    rw [Hid, Zb6, Ziy ls S' s1 (by rw [HN1.out]; omega)]
   have HTK : Hid ((tz.extract 0 s1).data.toList = S'.take s1) := by rw [Hid, ← HTZ.out]; exact Zim S' s1
   have HSS1 : Hid (s1 ≤ S'.length) := by rw [Hid, HN1.out]; omega
   rw [hs1] at HGOX HN2 HM2;have htvb := Zif ls S' s1 HL8.out;obtain ⟨ds, hds⟩ := nE (dsM ls S' s1);rw [hds] at HDS HGOX htvb;obtain ⟨tv, htv⟩ := nE (Wr ds);obtain ⟨fd, hfd⟩ := nE (ds.any id);rw [htv, hfd] at HDS HGOX;rw [htv] at htvb;clear hds htv hfd hs1;go_upto_region 11 with fail;have HR5 := hid (HRS.set2 s1);obtain ⟨w5, hw5⟩ := nE (wr.setCell ⟨gh, 2, none⟩ (.int .i64 (s1 : Int)));rw [hw5] at HR5 ⊢;clear hw5 p0 p1 p2 p3 q0 q1 q2 q3 q4 p5 q5 pl ql;obtain ⟨⟨p0, p1, p2, p3⟩, ⟨q0, q1, q2, q3, q4⟩, p5, q5, pl, ql⟩ := HR5.facts
   have CH2 : Hid (∀ q : BW w5.heap.size w5, Calls Tryz.prog 191 #[.slice A n c, .string (tz.extract 0 s1)] q.1 fun e w' => e = .returned (.int .i64 (if fd = true then (tv : Int) else -1)) ∧ Below q.1.heap.size q.1 w') := fun q => by
    have := CH.out q.1 (HR5.2.2.2.2.1.trans (q.2.mono HR5.2.2.2.2.1.size)) (tz.extract 0 s1) cr;rw [HTK.out, HDS.out] at this;exact this
   have T1 : ∀ q : BW w5.heap.size w5, q.1.cell? ⟨gh, 1, none⟩ = some (.string tz) := fun q => q.cellAt pl p1;have T2 : ∀ q : BW w5.heap.size w5, q.1.cell? ⟨gh, 2, none⟩ = some (.int .i64 (s1 : Int)) := fun q => q.cellAt pl p2;have T3 : ∀ q : BW w5.heap.size w5, q.1.cell? ⟨gh, 3, none⟩ = some (.slice A n c) := fun q => q.cellAt pl p3;clear HDS HTK;cases fd
   ·have HGOZ : Hid (Wl win ls N S' s1 R' rd = X) := by rw [Hid, HGOX.out, if_neg ac]
    clear HGOX;refine Zh w5.heap.size ab ab ?_
    repeat (go_big_quiet_step (first | (go_at_call 191; exact Kr (Nat.le_refl _) CH2.out _)))
    refine wpQuiet_nil ?_;intro w6 hq6;have HR6 : Hid (RS w gh hr fr gf w6 win tz s1 (.slice A n c) false false 0 0 rd) := dp
    clear hq6 T1 T2 T3 CH2 HR5 p0 p1 p2 p3 q0 q1 q2 q3 q4 p5 q5 pl ql;go_wp2_with fail;go_roundw
    case rel => exact ⟨N, s1, rd, S', R', tz, HN2.out, HGOZ.out, HRD.out, HSS1.out, by rw [HN1.out]; exact hw', HLEN2.out, by rw [HTQ.out], HTZ.out, HR6.out⟩
    case measure => rw [Zbz HR6.out]; exact HM2.out
   have HXE : Hid (X = ⟨S'.drop s1, 0, R', true, false, tv, s1, rd⟩) := fx
   have htv0 : (0 : Int) ≤ (tv : Int) := aa
   clear HGOX HN2 HM2;refine Zh w5.heap.size ab ab ?_
   repeat (go_big_quiet_step (first | (go_at_call 191; exact Kr (Nat.le_refl _) CH2.out _)))
   refine wpQuiet_nil ?_;intro w6 hq6;have HR6 : Hid (RS w gh hr fr gf w6 win tz s1 (.slice A n c) false false 0 0 rd) := dp
   clear hq6 T1 T2 T3 CH2 HR5 p0 p1 p2 p3 q0 q1 q2 q3 q4 p5 q5 pl ql;obtain ⟨⟨p0, p1, p2, p3⟩, ⟨q0, q1, q2, q3, q4⟩, p5, q5, pl, ql⟩ := HR6.facts;go_upto_region 13 with fail;refine Zx (.val 0 (.val 1 (.val 3 (.two 2 (.op 4 (.val 5 (.op 6 (.val 7 (.op 8 (.nil)))))) 4 (.val 5 (.two 2 (.op 6 (.val 7 (.op 8 (.nil)))) 6 (.op 2 (.val 7 (.op 8 (.nil)))))))))) ab ab ?_;obtain ⟨w7, hw7⟩ := nE (w6.drewN 1);have HR7 : Hid (RS w gh hr fr gf w7 win tz s1 (.slice A n c) false false 0 0 rd) := hw7 ▸ HR6.below (Zq w6 1);rw [hw7];clear hw7 p0 p1 p2 p3 q0 q1 q2 q3 q4 p5 q5 pl ql;obtain ⟨⟨p0, p1, p2, p3⟩, ⟨q0, q1, q2, q3, q4⟩, p5, q5, pl, ql⟩ := HR7.facts
   iterate 3 (refine Zb rfl ?_; go_big_quiet_step (fail); refine wpQuiet_nil ?_)
   focus
    refine Zj rfl rfl ?_ ?_
    focus
     skip
     go_wp2_with fail;refine Zc rfl ?_;go_wp2_with fail;refine Zb rfl ?_
     go_big_quiet_step (fail)
     refine wpQuiet_nil ?_;refine Zc rfl ?_;go_wp2_with fail;refine Zb rfl ?_
     go_big_quiet_step (fail)
     refine wpQuiet_nil ?_;refine Zc rfl ?_;go_wp2_with fail;refine Yi ?_;have HR8 := hid (((HR7.f0 true).f2 tv).f3 s1);obtain ⟨w8, hw8⟩ := nE (((w7.setCell ⟨gf, 0, none⟩ (.bool true)).setCell ⟨gf, 2, none⟩ (.int .i64 (tv : Int))).setCell ⟨gf, 3, none⟩ (.int .i64 (s1 : Int)));rw [hw8] at HR8 ⊢;clear hw8 p0 p1 p2 p3 q0 q1 q2 q3 q4 p5 q5 pl ql;obtain ⟨⟨p0, p1, p2, p3⟩, ⟨q0, q1, q2, q3, q4⟩, p5, q5, pl, ql⟩ := HR8.facts;obtain ⟨tm, htm⟩ := nE (rgT (S'.drop s1));have HTM := hid htm;have htme : tz.extract s1 tz.size = tm := ig
     clear htm;go_upto_region 15 with fail;have HR9 := hid ((HR8.set1 tm).set2 0);obtain ⟨w9, hw9⟩ := nE ((w8.setCell ⟨gh, 1, none⟩ (.string tm)).setCell ⟨gh, 2, none⟩ (.int .i64 ((0 : Nat) : Int)));have hw9' : (w8.setCell ⟨gh, 1, none⟩ (.string tm)).setCell ⟨gh, 2, none⟩ (.int .i64 0) = w9 := hw9;rw [hw9] at HR9;rw [hw9'];clear hw9 hw9' p0 p1 p2 p3 q0 q1 q2 q3 q4 p5 q5 pl ql htme;obtain ⟨⟨p0, p1, p2, p3⟩, ⟨q0, q1, q2, q3, q4⟩, p5, q5, pl, ql⟩ := HR9.facts;refine Zx (.val 1 (.two 0 (.two 2 (.op 3 (.val 4 (.op 5 (.nil)))) 3 (.val 4 (.op 2 (.op 5 (.nil))))) 2 (.op 0 (.op 3 (.val 4 (.op 5 (.nil))))))) ab ab ?_;obtain ⟨w3, hw3⟩ := nE (w9.drewN 1);have HR3 : Hid (RS w gh hr fr gf w3 win tm 0 (.slice A n c) true false tv s1 rd) := hw3 ▸ HR9.below (Zq w9 1);rw [hw3];clear hw3 p0 p1 p2 p3 q0 q1 q2 q3 q4 p5 q5 pl ql;obtain ⟨⟨p0, p1, p2, p3⟩, ⟨q0, q1, q2, q3, q4⟩, p5, q5, pl, ql⟩ := HR3.facts;obtain ⟨⟨r0, r1, r2, r3⟩, ⟨z0, z1, z2, z3, z4⟩, r5, z5, rl, zl⟩ := HR3.zeros;refine Zb rfl ?_
     go_big_quiet_step (fail)
     refine wpQuiet_nil ?_;refine Zj rfl rfl ?_ ?_
     focus
      skip
      go_wp2_with fail;refine Zj rfl rfl ?_ ?_
      focus
       skip
       go_wp2_with fail;refine Zc rfl ?_;go_wp2_with fail;refine Zb rfl ?_
       go_big_quiet_step (fail)
       refine wpQuiet_nil ?_
      rotate_left 1
      focus
       skip
       go_wp2_with fail;refine Zb rfl ?_
       go_big_quiet_step (fail)
       refine wpQuiet_nil ?_;refine Zc rfl ?_;go_wp2_with fail
     rotate_left 2
     focus
      skip
      go_wp2_with fail;refine Zc rfl ?_;go_wp2_with fail;refine Zc rfl ?_;go_wp2_with fail;refine Zb rfl ?_
      go_big_quiet_step (fail)
      refine wpQuiet_nil ?_
    rotate_left 3
    focus
     skip
     go_wp2_with fail;refine Zb rfl ?_
     go_big_quiet_step (fail)
     refine wpQuiet_nil ?_;refine Zj rfl rfl ?_ ?_
     focus
      skip
      go_wp2_with fail;refine Zc rfl ?_;go_wp2_with fail;refine Zb rfl ?_
      go_big_quiet_step (fail)
      refine wpQuiet_nil ?_;refine Zc rfl ?_;go_wp2_with fail;refine Yi ?_;have HR8 := hid (((HR7.f0 true).f2 tv).f3 s1);obtain ⟨w8, hw8⟩ := nE (((w7.setCell ⟨gf, 0, none⟩ (.bool true)).setCell ⟨gf, 2, none⟩ (.int .i64 (tv : Int))).setCell ⟨gf, 3, none⟩ (.int .i64 (s1 : Int)));rw [hw8] at HR8 ⊢;clear hw8 p0 p1 p2 p3 q0 q1 q2 q3 q4 p5 q5 pl ql;obtain ⟨⟨p0, p1, p2, p3⟩, ⟨q0, q1, q2, q3, q4⟩, p5, q5, pl, ql⟩ := HR8.facts;obtain ⟨tm, htm⟩ := nE (rgT (S'.drop s1));have HTM := hid htm;have htme : tz.extract s1 tz.size = tm := ig
      clear htm;go_upto_region 15 with fail;have HR9 := hid ((HR8.set1 tm).set2 0);obtain ⟨w9, hw9⟩ := nE ((w8.setCell ⟨gh, 1, none⟩ (.string tm)).setCell ⟨gh, 2, none⟩ (.int .i64 ((0 : Nat) : Int)));have hw9' : (w8.setCell ⟨gh, 1, none⟩ (.string tm)).setCell ⟨gh, 2, none⟩ (.int .i64 0) = w9 := hw9;rw [hw9] at HR9;rw [hw9'];clear hw9 hw9' p0 p1 p2 p3 q0 q1 q2 q3 q4 p5 q5 pl ql htme;obtain ⟨⟨p0, p1, p2, p3⟩, ⟨q0, q1, q2, q3, q4⟩, p5, q5, pl, ql⟩ := HR9.facts;refine Zx (.val 1 (.two 0 (.two 2 (.op 3 (.val 4 (.op 5 (.nil)))) 3 (.val 4 (.op 2 (.op 5 (.nil))))) 2 (.op 0 (.op 3 (.val 4 (.op 5 (.nil))))))) ab ab ?_;obtain ⟨w3, hw3⟩ := nE (w9.drewN 1);have HR3 : Hid (RS w gh hr fr gf w3 win tm 0 (.slice A n c) true false tv s1 rd) := hw3 ▸ HR9.below (Zq w9 1);rw [hw3];clear hw3 p0 p1 p2 p3 q0 q1 q2 q3 q4 p5 q5 pl ql;obtain ⟨⟨p0, p1, p2, p3⟩, ⟨q0, q1, q2, q3, q4⟩, p5, q5, pl, ql⟩ := HR3.facts;obtain ⟨⟨r0, r1, r2, r3⟩, ⟨z0, z1, z2, z3, z4⟩, r5, z5, rl, zl⟩ := HR3.zeros;refine Zb rfl ?_
      go_big_quiet_step (fail)
      refine wpQuiet_nil ?_;refine Zj rfl rfl ?_ ?_
      focus
       skip
       go_wp2_with fail;refine Zj rfl rfl ?_ ?_
       focus
        skip
        go_wp2_with fail;refine Zc rfl ?_;go_wp2_with fail;refine Zb rfl ?_
        go_big_quiet_step (fail)
        refine wpQuiet_nil ?_
       rotate_left 1
       focus
        skip
        go_wp2_with fail;refine Zb rfl ?_
        go_big_quiet_step (fail)
        refine wpQuiet_nil ?_;refine Zc rfl ?_;go_wp2_with fail
      rotate_left 2
      focus
       skip
       go_wp2_with fail;refine Zc rfl ?_;go_wp2_with fail;refine Zc rfl ?_;go_wp2_with fail;refine Zb rfl ?_
       go_big_quiet_step (fail)
       refine wpQuiet_nil ?_
     rotate_left 3
     focus
      skip
      go_wp2_with fail;refine Zc rfl ?_;go_wp2_with fail;refine Zb rfl ?_
      go_big_quiet_step (fail)
      refine wpQuiet_nil ?_;refine Zc rfl ?_;go_wp2_with fail;refine Yi ?_;have HR8 := hid (((HR7.f0 true).f2 tv).f3 s1);obtain ⟨w8, hw8⟩ := nE (((w7.setCell ⟨gf, 0, none⟩ (.bool true)).setCell ⟨gf, 2, none⟩ (.int .i64 (tv : Int))).setCell ⟨gf, 3, none⟩ (.int .i64 (s1 : Int)));rw [hw8] at HR8 ⊢;clear hw8 p0 p1 p2 p3 q0 q1 q2 q3 q4 p5 q5 pl ql;obtain ⟨⟨p0, p1, p2, p3⟩, ⟨q0, q1, q2, q3, q4⟩, p5, q5, pl, ql⟩ := HR8.facts;obtain ⟨tm, htm⟩ := nE (rgT (S'.drop s1));have HTM := hid htm;have htme : tz.extract s1 tz.size = tm := ig
      clear htm;go_upto_region 15 with fail;have HR9 := hid ((HR8.set1 tm).set2 0);obtain ⟨w9, hw9⟩ := nE ((w8.setCell ⟨gh, 1, none⟩ (.string tm)).setCell ⟨gh, 2, none⟩ (.int .i64 ((0 : Nat) : Int)));have hw9' : (w8.setCell ⟨gh, 1, none⟩ (.string tm)).setCell ⟨gh, 2, none⟩ (.int .i64 0) = w9 := hw9;rw [hw9] at HR9;rw [hw9'];clear hw9 hw9' p0 p1 p2 p3 q0 q1 q2 q3 q4 p5 q5 pl ql htme;obtain ⟨⟨p0, p1, p2, p3⟩, ⟨q0, q1, q2, q3, q4⟩, p5, q5, pl, ql⟩ := HR9.facts;refine Zx (.val 1 (.two 0 (.two 2 (.op 3 (.val 4 (.op 5 (.nil)))) 3 (.val 4 (.op 2 (.op 5 (.nil))))) 2 (.op 0 (.op 3 (.val 4 (.op 5 (.nil))))))) ab ab ?_;obtain ⟨w3, hw3⟩ := nE (w9.drewN 1);have HR3 : Hid (RS w gh hr fr gf w3 win tm 0 (.slice A n c) true false tv s1 rd) := hw3 ▸ HR9.below (Zq w9 1);rw [hw3];clear hw3 p0 p1 p2 p3 q0 q1 q2 q3 q4 p5 q5 pl ql;obtain ⟨⟨p0, p1, p2, p3⟩, ⟨q0, q1, q2, q3, q4⟩, p5, q5, pl, ql⟩ := HR3.facts;obtain ⟨⟨r0, r1, r2, r3⟩, ⟨z0, z1, z2, z3, z4⟩, r5, z5, rl, zl⟩ := HR3.zeros;refine Zb rfl ?_
      go_big_quiet_step (fail)
      refine wpQuiet_nil ?_;refine Zj rfl rfl ?_ ?_
      focus
       skip
       go_wp2_with fail;refine Zj rfl rfl ?_ ?_
       focus
        skip
        go_wp2_with fail;refine Zc rfl ?_;go_wp2_with fail;refine Zb rfl ?_
        go_big_quiet_step (fail)
        refine wpQuiet_nil ?_
       rotate_left 1
       focus
        skip
        go_wp2_with fail;refine Zb rfl ?_
        go_big_quiet_step (fail)
        refine wpQuiet_nil ?_;refine Zc rfl ?_;go_wp2_with fail
      rotate_left 2
      focus
       skip
       go_wp2_with fail;refine Zc rfl ?_;go_wp2_with fail;refine Zc rfl ?_;go_wp2_with fail;refine Zb rfl ?_
       go_big_quiet_step (fail)
       refine wpQuiet_nil ?_
    all_goals
     refine Zc rfl ?_;go_wp2_with fail;refine Yi ?_;go_wp2_with fail;obtain ⟨wz, hwz, Z1, Z2, Z3⟩ := HR3.out.out;unfold Gp Mp at hwz
     try rw [show ((0 : Nat) : Int) = 0 from rfl] at hwz
     rw [← hwz];obtain ⟨k0, k1, k2, k3⟩ := Wc Z1;obtain ⟨l0, l1, l2, l3, l4⟩ := Vr Z2;refine bodyPost_ret (v := .tuple #[.agg #[(win : Int), tm, (0 : Int), .slice A n c], tq, .agg #[.bool true, .bool false, (tv : Int), (s1 : Int), (rd : Int)]]) bm rfl ?_;have := HQ.out wz (S'.drop s1) R' 0 true false tv s1 rd HXE.out Z3;rw [HTM.out, HTQ.out] at this;exact this
  ·obtain rfl : s' = n1 := by omega
   have hne : ((s' : Int) == (tz.size : Int)) = true := by rw [HSZ.out]; simp
   have HGO3 : Hid (Wl win ls (N + 1) S' S'.length R' rd = X) := by rw [Hid, HN1.out]; exact HGO2.out
   clear HGO2;cases R' with
   | nil =>
    have HXE : Hid (X = ⟨S', s', [], false, false, 0, 0, rd⟩) := by rw [Hid, ← HGO3.out, Zdz, HN1.out]
    rw [show rgT [] = ⟨#[]⟩ from rfl];clear HGO3 hsz;go_upto_region 3 with fail;refine Zx (.val 1 (.two 0 (.two 2 (.op 3 (.val 4 (.op 5 (.nil)))) 3 (.val 4 (.op 2 (.op 5 (.nil))))) 2 (.op 0 (.op 3 (.val 4 (.op 5 (.nil))))))) ab ab ?_;obtain ⟨w3, hw3⟩ := nE (wr.drewN 1);have HR3 : Hid (RS w gh hr fr gf w3 win tz s' (.slice A n c) false false 0 0 rd) := hw3 ▸ HRS.below (Zq wr 1);rw [hw3];clear hw3 p0 p1 p2 p3 q0 q1 q2 q3 q4 p5 q5 pl ql;obtain ⟨⟨p0, p1, p2, p3⟩, ⟨q0, q1, q2, q3, q4⟩, p5, q5, pl, ql⟩ := HR3.facts;obtain ⟨⟨r0, r1, r2, r3⟩, ⟨z0, z1, z2, z3, z4⟩, r5, z5, rl, zl⟩ := HR3.zeros;refine Zb rfl ?_
    go_big_quiet_step (fail)
    refine wpQuiet_nil ?_
    focus
     refine Zj rfl rfl ?_ ?_
     focus
      skip
      go_wp2_with fail;refine Zj rfl rfl ?_ ?_
      focus
       skip
       go_wp2_with fail;refine Zc rfl ?_;go_wp2_with fail;refine Zb rfl ?_
       go_big_quiet_step (fail)
       refine wpQuiet_nil ?_
      rotate_left 1
      focus
       skip
       go_wp2_with fail;refine Zb rfl ?_
       go_big_quiet_step (fail)
       refine wpQuiet_nil ?_;refine Zc rfl ?_;go_wp2_with fail
     rotate_left 2
     focus
      skip
      go_wp2_with fail;refine Zc rfl ?_;go_wp2_with fail;refine Zc rfl ?_;go_wp2_with fail;refine Zb rfl ?_
      go_big_quiet_step (fail)
      refine wpQuiet_nil ?_
     all_goals
      refine Zc rfl ?_;go_wp2_with fail;refine Yi ?_;go_wp2_with fail;obtain ⟨wz, hwz, Z1, Z2, Z3⟩ := HR3.out.out;unfold Gp Mp at hwz
      try rw [show ((0 : Nat) : Int) = 0 from rfl] at hwz
      rw [← hwz];obtain ⟨k0, k1, k2, k3⟩ := Wc Z1;obtain ⟨l0, l1, l2, l3, l4⟩ := Vr Z2;refine bodyPost_ret (v := .tuple #[.agg #[(win : Int), tz, (s' : Int), .slice A n c], .string ⟨#[]⟩, .agg #[.bool false, .bool false, (0 : Int), (0 : Int), (rd : Int)]]) bm rfl ?_;have := HQ.out wz S' [] s' false false 0 0 rd HXE.out Z3;rw [HTZ.out] at this;exact this
   | cons ch R2 =>
    obtain ⟨tq, htq⟩ := nE (rgT (ch :: R2));have HTQ := hid htq;have hqs : tq.size = R2.length + 1 := by rw [← htq, Qe]; rfl
    have hq1 : (1 : Int) ≤ (tq.size : Int) := aa
    have hqn : ¬ tq.toList = [] := by
     have h := Jg (a := tq) (b := ⟨#[]⟩) (fun h => by rw [h] at hqs; exact absurd hqs (by show ¬ (0 = R2.length + 1); omega));rwa [ByteArray.toList_eq ⟨#[]⟩] at h
    have hqb : (tq.toList == []) = false := by rw [beq_eq_false_iff_ne]; exact hqn
    rw [htq] at HMS ⊢;have HQS := hid hqs;clear htq hqs hsz;by_cases hfull : s' = win
    ·have hfi : ((tz.size : Int) == (win : Int)) = true := by rw [HSZ.out, hfull]; simp
     have HXE : Hid (X = ⟨S', s', ch :: R2, false, true, 0, 0, rd⟩) := by rw [Hid, ← HGO3.out, Zd0 _ _ _ _ _ _ ah (by rw [HN1.out]; exact hfull), HN1.out]
     clear HGO3 hfull;go_upto_region 6 with fail;have HRF := hid (HRS.f1 true);obtain ⟨wu, hwu⟩ := nE (wr.setCell ⟨gf, 1, none⟩ (.bool true));rw [hwu] at HRF ⊢;clear hwu p0 p1 p2 p3 q0 q1 q2 q3 q4 p5 q5 pl ql;obtain ⟨⟨p0, p1, p2, p3⟩, ⟨q0, q1, q2, q3, q4⟩, p5, q5, pl, ql⟩ := HRF.facts;refine Zx (.val 1 (.two 0 (.two 2 (.op 3 (.val 4 (.op 5 (.nil)))) 3 (.val 4 (.op 2 (.op 5 (.nil))))) 2 (.op 0 (.op 3 (.val 4 (.op 5 (.nil))))))) ab ab ?_;obtain ⟨w3, hw3⟩ := nE (wu.drewN 1);have HR3 : Hid (RS w gh hr fr gf w3 win tz s' (.slice A n c) false true 0 0 rd) := hw3 ▸ HRF.below (Zq wu 1);rw [hw3];clear hw3 p0 p1 p2 p3 q0 q1 q2 q3 q4 p5 q5 pl ql;obtain ⟨⟨p0, p1, p2, p3⟩, ⟨q0, q1, q2, q3, q4⟩, p5, q5, pl, ql⟩ := HR3.facts;obtain ⟨⟨r0, r1, r2, r3⟩, ⟨z0, z1, z2, z3, z4⟩, r5, z5, rl, zl⟩ := HR3.zeros;refine Zb rfl ?_
     go_big_quiet_step (fail)
     refine wpQuiet_nil ?_
     focus
      refine Zj rfl rfl ?_ ?_
      focus
       skip
       go_wp2_with fail;refine Zj rfl rfl ?_ ?_
       focus
        skip
        go_wp2_with fail;refine Zc rfl ?_;go_wp2_with fail;refine Zb rfl ?_
        go_big_quiet_step (fail)
        refine wpQuiet_nil ?_
       rotate_left 1
       focus
        skip
        go_wp2_with fail;refine Zb rfl ?_
        go_big_quiet_step (fail)
        refine wpQuiet_nil ?_;refine Zc rfl ?_;go_wp2_with fail
      rotate_left 2
      focus
       skip
       go_wp2_with fail;refine Zc rfl ?_;go_wp2_with fail;refine Zc rfl ?_;go_wp2_with fail;refine Zb rfl ?_
       go_big_quiet_step (fail)
       refine wpQuiet_nil ?_
      all_goals
       refine Zc rfl ?_;go_wp2_with fail;refine Yi ?_;go_wp2_with fail;obtain ⟨wz, hwz, Z1, Z2, Z3⟩ := HR3.out.out;unfold Gp Mp at hwz
       try rw [show ((0 : Nat) : Int) = 0 from rfl] at hwz
       rw [← hwz];obtain ⟨k0, k1, k2, k3⟩ := Wc Z1;obtain ⟨l0, l1, l2, l3, l4⟩ := Vr Z2;refine bodyPost_ret (v := .tuple #[.agg #[(win : Int), tz, (s' : Int), .slice A n c], tq, .agg #[.bool false, .bool true, (0 : Int), (0 : Int), (rd : Int)]]) bm rfl ?_;have := HQ.out wz S' (ch :: R2) s' false true 0 0 rd HXE.out Z3;rw [HTZ.out] at this;rw [HTQ.out] at this;exact this
    ·have hfi : ((tz.size : Int) == (win : Int)) = false := by rw [beq_eq_false_iff_ne, HSZ.out]; omega
     obtain ⟨SN, hSN⟩ := nE (S' ++ [ch]);have HSNL : Hid (SN.length = s' + 1) := by rw [← hSN, Hid, List.length_append, HN1.out]; rfl
     obtain ⟨rd2, hrd2⟩ := nE (rd + 1);have hrdi : (rd : Int) + 1 = (rd2 : Int) := aa
     have hrdb : rd ≤ 1000 := aa
     have HGOX : Hid (X = if (dsM ls SN (s' + 1)).any id = true then ⟨SN.drop (s' + 1), 0, R2, true, false, Wr (dsM ls SN (s' + 1)), s' + 1, rd2⟩ else Wl win ls N SN (s' + 1) R2 rd2) := by
      rw [Hid, ← HGO3.out, Zfh _ _ _ _ _ _ _ (by rw [HN1.out]; exact hfull), hSN, HN1.out, hrd2];split
      ·rw [List.drop_of_length_le (by rw [HSNL.out]; omega)]
      ·rfl
     have HN2 : Hid (Ko SN (s' + 1) R2 ≤ N) := by have a := HN.out; have b := HN1.out; have d := HSNL.out; have h2 : (ch :: R2).length = R2.length + 1 := rfl; unfold Hid Ko at *; omega
     have HLENB : Hid (SN.length + R2.length ≤ 1000) := by have h1 := HLEN2.out; have h2 : (ch :: R2).length = R2.length + 1 := rfl; rw [Hid, HSNL.out]; rw [HN1.out] at h1; omega
     have HRDB : Hid (rd2 + R2.length ≤ 1000) := by have h1 := HRD.out; have h2 : (ch :: R2).length = R2.length + 1 := rfl; rw [Hid]; omega
     have HADD : Hid (rgT S' ++ (rgT (ch :: R2)).extract 0 1 = rgT SN) := by rw [Hid, ← hSN]; exact Zql S' ch R2
     have HTAIL : Hid (tq.extract 1 tq.size = rgT R2) := by rw [Hid, ← HTQ.out]; exact Zou ch R2
     obtain ⟨tn, htn⟩ := nE (rgT SN);have HTN := hid htn;have hnsz : tn.size = s' + 1 := by rw [← htn, Qe]; exact HSNL.out
     have hnszi : (tn.size : Int) ≤ 1000 := by have h1 := HLENB.out; rw [HSNL.out] at h1; omega
     have HNSZ := hid hnsz;have hz1 : ((tq.extract 0 1).size : Int) ≤ 8388608 := cr
     have hz0 : (tz.size : Int) ≤ 8388608 := aa
     have hrun1 : ∀ W : World, (Op.stringOp .add tz (tq.extract 0 1)).run Tryz.prog W = .ok (.string tn) W := fun W => by
      have := run_string_add (P := Tryz.prog) W tz (tq.extract 0 1) hz0 hz1;rw [this, ← HTZ.out, ← HTQ.out, HADD.out, htn]
     obtain ⟨tq2, htq2⟩ := nE (tq.extract 1 tq.size);have HTQ2 : Hid (rgT R2 = tq2) := by rw [Hid, ← htq2]; exact HTAIL.symm
     have hq2s : tq2.size + 1 = tq.size := by rw [← HTQ2.out, Qe, HQS.out]
     have HM2 : Hid (tq2.size + (tn.size - (s' + 1)) < Zcb (.string tq) wr gh) := by rw [Hid, HMS.out, HNSZ.out]; omega
     have HW3 : Hid (SN.length ≤ win) := by rw [Hid, HSNL.out]; omega
     clear hSN HGO3 hfull HN HMS hz1 hz0 htn hrd2 HADD HTAIL hnsz hq2s;go_upto_region 8 with fail;refine Zx (.val 0 (.val 2 (.val 3 (.val 5 (.val 6 (.op 1 (.val 4 (.val 7 (.op 8 (.val 9 (.nil))))))))))) ab ab ?_;obtain ⟨w3, hw3⟩ := nE (wr.drewN 1);have HR3 : Hid (RS w gh hr fr gf w3 win tz s' (.slice A n c) false false 0 0 rd) := hw3 ▸ HRS.below (Zq wr 1);rw [hw3];clear hw3 p0 p1 p2 p3 q0 q1 q2 q3 q4 p5 q5 pl ql;obtain ⟨⟨p0, p1, p2, p3⟩, ⟨q0, q1, q2, q3, q4⟩, p5, q5, pl, ql⟩ := HR3.facts
     iterate 5 (refine Zb rfl ?_; go_big_quiet_step (fail); refine wpQuiet_nil ?_)
     refine Zc rfl ?_;go_wp2_with fail
     iterate 2 (refine Zb rfl ?_; go_big_quiet_step (fail); refine wpQuiet_nil ?_)
     refine Zc rfl ?_;go_wp2_with fail;refine Zb rfl ?_
     go_big_quiet_step (fail)
     refine wpQuiet_nil ?_;refine Yi ?_;have HRW := hid ((HR3.set1 tn).f4 rd2);go_upto_region 10 with fail;obtain ⟨w4, hw4⟩ := nE ((w3.setCell ⟨gh, 1, none⟩ (.string tn)).setCell ⟨gf, 4, none⟩ (.int .i64 (rd2 : Int)));rw [hw4] at HRW ⊢;clear hw4 p0 p1 p2 p3 q0 q1 q2 q3 q4 p5 q5 pl ql hrun1 HRS HR3;obtain ⟨⟨p0, p1, p2, p3⟩, ⟨q0, q1, q2, q3, q4⟩, p5, q5, pl, ql⟩ := HRW.facts;obtain ⟨s1, hs1⟩ := nE (s' + 1);have hs1i : (s' : Int) + 1 = (s1 : Int) := aa
     have hs1t : (s1 : Int) ≤ (tn.size : Int) := by rw [HNSZ.out]; omega
     have HDS : Hid (Zb6 ls (SN.take s1) = if (dsM ls SN s1).any id = true then (Wr (dsM ls SN s1) : Int) else -1) := by
      rw [Hid, Zb6, Ziy ls SN s1 (by rw [HSNL.out]; omega)]
     have HTK : Hid ((tn.extract 0 s1).data.toList = SN.take s1) := by rw [Hid, ← HTN.out]; exact Zim SN s1
     have HSS1 : Hid (s1 ≤ SN.length) := by rw [Hid, HSNL.out]; omega
     rw [hs1] at HGOX HN2 HM2;have htvb := Zif ls SN s1 HL8.out;obtain ⟨ds, hds⟩ := nE (dsM ls SN s1);rw [hds] at HDS HGOX htvb;obtain ⟨tv, htv⟩ := nE (Wr ds);obtain ⟨fd, hfd⟩ := nE (ds.any id);rw [htv, hfd] at HDS HGOX;rw [htv] at htvb;clear hds htv hfd hs1;go_upto_region 11 with fail;have HR5 := hid (HRW.set2 s1);obtain ⟨w5, hw5⟩ := nE (w4.setCell ⟨gh, 2, none⟩ (.int .i64 (s1 : Int)));rw [hw5] at HR5 ⊢;clear hw5 p0 p1 p2 p3 q0 q1 q2 q3 q4 p5 q5 pl ql;obtain ⟨⟨p0, p1, p2, p3⟩, ⟨q0, q1, q2, q3, q4⟩, p5, q5, pl, ql⟩ := HR5.facts
     have CH2 : Hid (∀ q : BW w5.heap.size w5, Calls Tryz.prog 191 #[.slice A n c, .string (tn.extract 0 s1)] q.1 fun e w' => e = .returned (.int .i64 (if fd = true then (tv : Int) else -1)) ∧ Below q.1.heap.size q.1 w') := fun q => by
      have := CH.out q.1 (HR5.2.2.2.2.1.trans (q.2.mono HR5.2.2.2.2.1.size)) (tn.extract 0 s1) cr;rw [HTK.out, HDS.out] at this;exact this
     have T1 : ∀ q : BW w5.heap.size w5, q.1.cell? ⟨gh, 1, none⟩ = some (.string tn) := fun q => q.cellAt pl p1;have T2 : ∀ q : BW w5.heap.size w5, q.1.cell? ⟨gh, 2, none⟩ = some (.int .i64 (s1 : Int)) := fun q => q.cellAt pl p2;have T3 : ∀ q : BW w5.heap.size w5, q.1.cell? ⟨gh, 3, none⟩ = some (.slice A n c) := fun q => q.cellAt pl p3;clear HDS HTK;cases fd
     ·have HGOZ : Hid (Wl win ls N SN s1 R2 rd2 = X) := by rw [Hid, HGOX.out, if_neg ac]
      clear HGOX;refine Zh w5.heap.size ab ab ?_
      repeat (go_big_quiet_step (first | (go_at_call 191; exact Kr (Nat.le_refl _) CH2.out _)))
      refine wpQuiet_nil ?_;intro w6 hq6;have HR6 : Hid (RS w gh hr fr gf w6 win tn s1 (.slice A n c) false false 0 0 rd2) := dp
      clear hq6 T1 T2 T3 CH2 HR5 p0 p1 p2 p3 q0 q1 q2 q3 q4 p5 q5 pl ql;go_wp2_with fail;go_roundw
      case rel => exact ⟨N, s1, rd2, SN, R2, tn, HN2.out, HGOZ.out, HRDB.out, HSS1.out, HW3.out, HLENB.out, by rw [HTQ2.out], HTN.out, HR6.out⟩
      case measure => rw [Zbz HR6.out]; exact HM2.out
     have HXE : Hid (X = ⟨SN.drop s1, 0, R2, true, false, tv, s1, rd2⟩) := fx
     have htv0 : (0 : Int) ≤ (tv : Int) := aa
     clear HGOX HN2 HM2;refine Zh w5.heap.size ab ab ?_
     repeat (go_big_quiet_step (first | (go_at_call 191; exact Kr (Nat.le_refl _) CH2.out _)))
     refine wpQuiet_nil ?_;intro w6 hq6;have HR6 : Hid (RS w gh hr fr gf w6 win tn s1 (.slice A n c) false false 0 0 rd2) := dp
     clear hq6 T1 T2 T3 CH2 HR5 p0 p1 p2 p3 q0 q1 q2 q3 q4 p5 q5 pl ql;obtain ⟨⟨p0, p1, p2, p3⟩, ⟨q0, q1, q2, q3, q4⟩, p5, q5, pl, ql⟩ := HR6.facts;go_upto_region 13 with fail;refine Zx (.val 0 (.val 1 (.val 3 (.two 2 (.op 4 (.val 5 (.op 6 (.val 7 (.op 8 (.nil)))))) 4 (.val 5 (.two 2 (.op 6 (.val 7 (.op 8 (.nil)))) 6 (.op 2 (.val 7 (.op 8 (.nil)))))))))) ab ab ?_;obtain ⟨w7, hw7⟩ := nE (w6.drewN 1);have HR7 : Hid (RS w gh hr fr gf w7 win tn s1 (.slice A n c) false false 0 0 rd2) := hw7 ▸ HR6.below (Zq w6 1);rw [hw7];clear hw7 p0 p1 p2 p3 q0 q1 q2 q3 q4 p5 q5 pl ql;obtain ⟨⟨p0, p1, p2, p3⟩, ⟨q0, q1, q2, q3, q4⟩, p5, q5, pl, ql⟩ := HR7.facts
     iterate 3 (refine Zb rfl ?_; go_big_quiet_step (fail); refine wpQuiet_nil ?_)
     focus
      refine Zj rfl rfl ?_ ?_
      focus
       skip
       go_wp2_with fail;refine Zc rfl ?_;go_wp2_with fail;refine Zb rfl ?_
       go_big_quiet_step (fail)
       refine wpQuiet_nil ?_;refine Zc rfl ?_;go_wp2_with fail;refine Zb rfl ?_
       go_big_quiet_step (fail)
       refine wpQuiet_nil ?_;refine Zc rfl ?_;go_wp2_with fail;refine Yi ?_;have HR8 := hid (((HR7.f0 true).f2 tv).f3 s1);obtain ⟨w8, hw8⟩ := nE (((w7.setCell ⟨gf, 0, none⟩ (.bool true)).setCell ⟨gf, 2, none⟩ (.int .i64 (tv : Int))).setCell ⟨gf, 3, none⟩ (.int .i64 (s1 : Int)));rw [hw8] at HR8 ⊢;clear hw8 p0 p1 p2 p3 q0 q1 q2 q3 q4 p5 q5 pl ql;obtain ⟨⟨p0, p1, p2, p3⟩, ⟨q0, q1, q2, q3, q4⟩, p5, q5, pl, ql⟩ := HR8.facts;obtain ⟨tm, htm⟩ := nE (rgT (SN.drop s1));have HTM := hid htm;have htme : tn.extract s1 tn.size = tm := ii
       clear htm;go_upto_region 15 with fail;have HR9 := hid ((HR8.set1 tm).set2 0);obtain ⟨w9, hw9⟩ := nE ((w8.setCell ⟨gh, 1, none⟩ (.string tm)).setCell ⟨gh, 2, none⟩ (.int .i64 ((0 : Nat) : Int)));have hw9' : (w8.setCell ⟨gh, 1, none⟩ (.string tm)).setCell ⟨gh, 2, none⟩ (.int .i64 0) = w9 := hw9;rw [hw9] at HR9;rw [hw9'];clear hw9 hw9' p0 p1 p2 p3 q0 q1 q2 q3 q4 p5 q5 pl ql htme;obtain ⟨⟨p0, p1, p2, p3⟩, ⟨q0, q1, q2, q3, q4⟩, p5, q5, pl, ql⟩ := HR9.facts;refine Zx (.val 1 (.two 0 (.two 2 (.op 3 (.val 4 (.op 5 (.nil)))) 3 (.val 4 (.op 2 (.op 5 (.nil))))) 2 (.op 0 (.op 3 (.val 4 (.op 5 (.nil))))))) ab ab ?_;obtain ⟨w3, hw3⟩ := nE (w9.drewN 1);have HR3 : Hid (RS w gh hr fr gf w3 win tm 0 (.slice A n c) true false tv s1 rd2) := hw3 ▸ HR9.below (Zq w9 1);rw [hw3];clear hw3 p0 p1 p2 p3 q0 q1 q2 q3 q4 p5 q5 pl ql;obtain ⟨⟨p0, p1, p2, p3⟩, ⟨q0, q1, q2, q3, q4⟩, p5, q5, pl, ql⟩ := HR3.facts;obtain ⟨⟨r0, r1, r2, r3⟩, ⟨z0, z1, z2, z3, z4⟩, r5, z5, rl, zl⟩ := HR3.zeros;refine Zb rfl ?_
       go_big_quiet_step (fail)
       refine wpQuiet_nil ?_;refine Zj rfl rfl ?_ ?_
       focus
        skip
        go_wp2_with fail;refine Zj rfl rfl ?_ ?_
        focus
         skip
         go_wp2_with fail;refine Zc rfl ?_;go_wp2_with fail;refine Zb rfl ?_
         go_big_quiet_step (fail)
         refine wpQuiet_nil ?_
        rotate_left 1
        focus
         skip
         go_wp2_with fail;refine Zb rfl ?_
         go_big_quiet_step (fail)
         refine wpQuiet_nil ?_;refine Zc rfl ?_;go_wp2_with fail
       rotate_left 2
       focus
        skip
        go_wp2_with fail;refine Zc rfl ?_;go_wp2_with fail;refine Zc rfl ?_;go_wp2_with fail;refine Zb rfl ?_
        go_big_quiet_step (fail)
        refine wpQuiet_nil ?_
      rotate_left 3
      focus
       skip
       go_wp2_with fail;refine Zb rfl ?_
       go_big_quiet_step (fail)
       refine wpQuiet_nil ?_;refine Zj rfl rfl ?_ ?_
       focus
        skip
        go_wp2_with fail;refine Zc rfl ?_;go_wp2_with fail;refine Zb rfl ?_
        go_big_quiet_step (fail)
        refine wpQuiet_nil ?_;refine Zc rfl ?_;go_wp2_with fail;refine Yi ?_;have HR8 := hid (((HR7.f0 true).f2 tv).f3 s1);obtain ⟨w8, hw8⟩ := nE (((w7.setCell ⟨gf, 0, none⟩ (.bool true)).setCell ⟨gf, 2, none⟩ (.int .i64 (tv : Int))).setCell ⟨gf, 3, none⟩ (.int .i64 (s1 : Int)));rw [hw8] at HR8 ⊢;clear hw8 p0 p1 p2 p3 q0 q1 q2 q3 q4 p5 q5 pl ql;obtain ⟨⟨p0, p1, p2, p3⟩, ⟨q0, q1, q2, q3, q4⟩, p5, q5, pl, ql⟩ := HR8.facts;obtain ⟨tm, htm⟩ := nE (rgT (SN.drop s1));have HTM := hid htm;have htme : tn.extract s1 tn.size = tm := ii
        clear htm;go_upto_region 15 with fail;have HR9 := hid ((HR8.set1 tm).set2 0);obtain ⟨w9, hw9⟩ := nE ((w8.setCell ⟨gh, 1, none⟩ (.string tm)).setCell ⟨gh, 2, none⟩ (.int .i64 ((0 : Nat) : Int)));have hw9' : (w8.setCell ⟨gh, 1, none⟩ (.string tm)).setCell ⟨gh, 2, none⟩ (.int .i64 0) = w9 := hw9;rw [hw9] at HR9;rw [hw9'];clear hw9 hw9' p0 p1 p2 p3 q0 q1 q2 q3 q4 p5 q5 pl ql htme;obtain ⟨⟨p0, p1, p2, p3⟩, ⟨q0, q1, q2, q3, q4⟩, p5, q5, pl, ql⟩ := HR9.facts;refine Zx (.val 1 (.two 0 (.two 2 (.op 3 (.val 4 (.op 5 (.nil)))) 3 (.val 4 (.op 2 (.op 5 (.nil))))) 2 (.op 0 (.op 3 (.val 4 (.op 5 (.nil))))))) ab ab ?_;obtain ⟨w3, hw3⟩ := nE (w9.drewN 1);have HR3 : Hid (RS w gh hr fr gf w3 win tm 0 (.slice A n c) true false tv s1 rd2) := hw3 ▸ HR9.below (Zq w9 1);rw [hw3];clear hw3 p0 p1 p2 p3 q0 q1 q2 q3 q4 p5 q5 pl ql;obtain ⟨⟨p0, p1, p2, p3⟩, ⟨q0, q1, q2, q3, q4⟩, p5, q5, pl, ql⟩ := HR3.facts;obtain ⟨⟨r0, r1, r2, r3⟩, ⟨z0, z1, z2, z3, z4⟩, r5, z5, rl, zl⟩ := HR3.zeros;refine Zb rfl ?_
        go_big_quiet_step (fail)
        refine wpQuiet_nil ?_;refine Zj rfl rfl ?_ ?_
        focus
         skip
         go_wp2_with fail;refine Zj rfl rfl ?_ ?_
         focus
          skip
          go_wp2_with fail;refine Zc rfl ?_;go_wp2_with fail;refine Zb rfl ?_
          go_big_quiet_step (fail)
          refine wpQuiet_nil ?_
         rotate_left 1
         focus
          skip
          go_wp2_with fail;refine Zb rfl ?_
          go_big_quiet_step (fail)
          refine wpQuiet_nil ?_;refine Zc rfl ?_;go_wp2_with fail
        rotate_left 2
        focus
         skip
         go_wp2_with fail;refine Zc rfl ?_;go_wp2_with fail;refine Zc rfl ?_;go_wp2_with fail;refine Zb rfl ?_
         go_big_quiet_step (fail)
         refine wpQuiet_nil ?_
       rotate_left 3
       focus
        skip
        go_wp2_with fail;refine Zc rfl ?_;go_wp2_with fail;refine Zb rfl ?_
        go_big_quiet_step (fail)
        refine wpQuiet_nil ?_;refine Zc rfl ?_;go_wp2_with fail;refine Yi ?_;have HR8 := hid (((HR7.f0 true).f2 tv).f3 s1);obtain ⟨w8, hw8⟩ := nE (((w7.setCell ⟨gf, 0, none⟩ (.bool true)).setCell ⟨gf, 2, none⟩ (.int .i64 (tv : Int))).setCell ⟨gf, 3, none⟩ (.int .i64 (s1 : Int)));rw [hw8] at HR8 ⊢;clear hw8 p0 p1 p2 p3 q0 q1 q2 q3 q4 p5 q5 pl ql;obtain ⟨⟨p0, p1, p2, p3⟩, ⟨q0, q1, q2, q3, q4⟩, p5, q5, pl, ql⟩ := HR8.facts;obtain ⟨tm, htm⟩ := nE (rgT (SN.drop s1));have HTM := hid htm;have htme : tn.extract s1 tn.size = tm := ii
        clear htm;go_upto_region 15 with fail;have HR9 := hid ((HR8.set1 tm).set2 0);obtain ⟨w9, hw9⟩ := nE ((w8.setCell ⟨gh, 1, none⟩ (.string tm)).setCell ⟨gh, 2, none⟩ (.int .i64 ((0 : Nat) : Int)));have hw9' : (w8.setCell ⟨gh, 1, none⟩ (.string tm)).setCell ⟨gh, 2, none⟩ (.int .i64 0) = w9 := hw9;rw [hw9] at HR9;rw [hw9'];clear hw9 hw9' p0 p1 p2 p3 q0 q1 q2 q3 q4 p5 q5 pl ql htme;obtain ⟨⟨p0, p1, p2, p3⟩, ⟨q0, q1, q2, q3, q4⟩, p5, q5, pl, ql⟩ := HR9.facts;refine Zx (.val 1 (.two 0 (.two 2 (.op 3 (.val 4 (.op 5 (.nil)))) 3 (.val 4 (.op 2 (.op 5 (.nil))))) 2 (.op 0 (.op 3 (.val 4 (.op 5 (.nil))))))) ab ab ?_;obtain ⟨w3, hw3⟩ := nE (w9.drewN 1);have HR3 : Hid (RS w gh hr fr gf w3 win tm 0 (.slice A n c) true false tv s1 rd2) := hw3 ▸ HR9.below (Zq w9 1);rw [hw3];clear hw3 p0 p1 p2 p3 q0 q1 q2 q3 q4 p5 q5 pl ql;obtain ⟨⟨p0, p1, p2, p3⟩, ⟨q0, q1, q2, q3, q4⟩, p5, q5, pl, ql⟩ := HR3.facts;obtain ⟨⟨r0, r1, r2, r3⟩, ⟨z0, z1, z2, z3, z4⟩, r5, z5, rl, zl⟩ := HR3.zeros;refine Zb rfl ?_
        go_big_quiet_step (fail)
        refine wpQuiet_nil ?_;refine Zj rfl rfl ?_ ?_
        focus
         skip
         go_wp2_with fail;refine Zj rfl rfl ?_ ?_
         focus
          skip
          go_wp2_with fail;refine Zc rfl ?_;go_wp2_with fail;refine Zb rfl ?_
          go_big_quiet_step (fail)
          refine wpQuiet_nil ?_
         rotate_left 1
         focus
          skip
          go_wp2_with fail;refine Zb rfl ?_
          go_big_quiet_step (fail)
          refine wpQuiet_nil ?_;refine Zc rfl ?_;go_wp2_with fail
        rotate_left 2
        focus
         skip
         go_wp2_with fail;refine Zc rfl ?_;go_wp2_with fail;refine Zc rfl ?_;go_wp2_with fail;refine Zb rfl ?_
         go_big_quiet_step (fail)
         refine wpQuiet_nil ?_
      all_goals
       refine Zc rfl ?_;go_wp2_with fail;refine Yi ?_;go_wp2_with fail;obtain ⟨wz, hwz, Z1, Z2, Z3⟩ := HR3.out.out;unfold Gp Mp at hwz
       try rw [show ((0 : Nat) : Int) = 0 from rfl] at hwz
       rw [← hwz];obtain ⟨k0, k1, k2, k3⟩ := Wc Z1;obtain ⟨l0, l1, l2, l3, l4⟩ := Vr Z2;refine bodyPost_ret (v := .tuple #[.agg #[(win : Int), tm, (0 : Int), .slice A n c], tq2, .agg #[.bool true, .bool false, (tv : Int), (s1 : Int), (rd2 : Int)]]) bm rfl ?_;have := HQ.out wz (SN.drop s1) R2 0 true false tv s1 rd2 HXE.out Z3;rw [HTM.out, HTQ2.out] at this;exact this
end Go.Proofs.YtpkkfdmhbbipoaaGreat
