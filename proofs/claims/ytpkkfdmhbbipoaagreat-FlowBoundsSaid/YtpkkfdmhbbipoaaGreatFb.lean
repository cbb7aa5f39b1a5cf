/- Zp: the library's DeleteFunc, Sort, Compact at numbers of the call's own; package flow: next. Zp: package flow: next, Next. Zp: package flow: walk. -/
import Derived.Test.YtpkkfdmhbbipoaaGreatFa
import Derived.Sort.OwnSortedInts
import Derived.Test.YtpkkfdmhbbipoaaGreatPb
import Derived.Test.YtpkkfdmhbbipoaaGreatMc
namespace Go.Proofs.YtpkkfdmhbbipoaaGreat
set_option maxRecDepth 20000
set_option maxHeartbeats 4000000
open Go.RowKit PopT Go.Sort
abbrev IO (base : Nat) (w : World) (v : Value) (l : List Int) : Prop := w.ownsRow base 3 1 v l.length (Zg l)
theorem Zlx {w : World} {base g cap m q : Nat} {cur : Array Value} {os : Array Obj} {ts : List Int} (hbase : base ≤ g) (hb : w.heap[g]? = some (.cells cur 3 (0, 0))) (h0 : m ≤ ts.length) (h1 : ts.length ≤ cap) (h2 : cap ≤ maxLen) (h3 : cur.size = cap * 1) :
  (grow (putRow (Value.int .i64) (Sort.ahead w q) g 0 ts.toArray) os).ownsRow base 3 1 (.slice (some ⟨g, 0, none⟩) m cap) m (Zg (ts.take m)) := by
 have h := ownsRow_sortedI (os := os) (n := q) (ss := ts) (ts := ts) rfl hbase hb h1 h2 h3;by_cases hz : 0 < ts.length
 ·have := Zly h m h0 hz
  rwa [Nat.mul_one, ← List.map_take] at this
 ·have e : m = ts.length := by omega
  rw [e, List.take_length];exact h
theorem Zfj {w : World} {g n : Nat} {os : Array Obj} (d : Array Int) : Za (fun k => some g = some k) w (grow (putRow (Value.int .i64) (Sort.ahead w n) g 0 d) os) := Za.grown (grownBy_sortedI d) (fun k hk => hk)
theorem Zhx (x : Int) (W : World) : Go.Proofs.FnGives Tryz.prog 124 #[] #[x] (.bool (decide (x < 0))) W := by
 show Calls Tryz.prog 124 #[x] W _;go_enter Tryz.func124, Tryz.ntmps124
 go_wp2
 all_goals (go_ret; exact ⟨by simp_all, 0, rfl⟩)
theorem Zk8 (w : World) : Calls Tryz.prog 123 #[.slice none 0 0, .func (.func 124) #[] #[]] w fun e w' => e = .returned (.slice none 0 0) ∧ w = w' := by
 have C : Hid (∀ W, Calls Tryz.prog 160 #[.slice none 0 0, .func (.func 124) #[] #[]] W fun e w' => e = .returned (.int .i64 (-1)) ∧ W = w') := fun W => by
  go_enter Tryz.func160, Tryz.ntmps160;go_wp2_with fail;refine wp_loop_rounds 1 ?_;rw [rounds_succ];go_wp2_with fail;go_ret;exact ⟨rfl, rfl⟩
 go_enter Tryz.func123, Tryz.ntmps123;go_wp2_with fail;refine (C.out _).mono ?_;rintro en w1 ⟨rfl, rfl⟩;go_wp2_with fail;go_ret;exact ⟨rfl, rfl⟩
theorem J40{P:Prop}(h:P:=by
 refine ⟨_, h1, ?_, ?_⟩
 ·rw [hr, h2, ← grow_empty (putRow _ _ _ _ _)]
  have := Zlx (q := q) (os := #[]) (m := r.length) (ts := r ++ List.replicate (l.length - r.length) 0) hb hg ae af hc hs;rwa [List.take_left] at this
 ·rw [h2, ← grow_empty (putRow _ _ _ _ _)]
  exact Zfj _):P:=h
theorem Zpq {base : Nat} {v : Value} {l : List Int} (w : World) (h : IO base w v l) (hl : l.length ≤ 1000) :
  Calls Tryz.prog 123 #[v, .func (.func 124) #[] #[]] w fun e w' => ∃ v', e = .returned v' ∧ IO base w' v' (l.filter fun x => !decide (x < 0)) ∧ Za (fun k => v.ownBlock = some k) w w' := by
 rcases h.2 with ⟨rfl, h0⟩ | ⟨g, cap, cur, rfl, hb, hg, hn, hc, hs, ht⟩
 ·have : l = [] := List.eq_nil_of_length_eq_zero h0
  subst this;exact (Zk8 w).mono fun e w' ⟨h1, h2⟩ => ⟨_, h1, by subst h2; exact h, by subst h2; exact Za.refl _ _⟩
 ·have hH : Holds (Value.int .i64) w g 0 l.toArray := holds_of_blockI hg gc
  have eg : ∀ args w, (callFunc 124 args).run Tryz.prog w = .ok (.enter 124 args) w := enters_of Tryz.func124 ab rfl;have hcon := AnyE.slices_DeleteFunc Zi9 (Value.int .i64) (fun _ => rfl) (fun x => decide (x < 0)) 124 #[] eg 0 Tryz.zeroValue3 g 0 cap l.toArray w (fun W x _ => Zhx x W) (fun n os dk x _ => Zhx x _) hH af (by simpa using hn);refine (hcon.mono fun e w' ⟨h1, q, h2⟩ => ?_);obtain ⟨r, hr⟩ := nE ((l.filter fun x => !decide (x < 0)));have hrl : r.length ≤ l.length := hr ▸ List.length_filter_le _ _;simp only [List.size_toArray, hr] at h1 h2;exact J40
theorem Zh8 (w : World) : Calls Tryz.prog 125 #[.slice none 0 0] w fun e w' => e = .returned (.tuple #[]) ∧ w = w' := by
 have C0 : Hid (∀ W, Calls Tryz.prog 180 #[.slice none 0 0, .int .i64 0, .int .i64 0] W fun e w' => e = .returned (.tuple #[]) ∧ W = w') := fun W => by
  go_enter Tryz.func180, Tryz.ntmps180;go_wp2_with fail;refine wp_loop_rounds 1 ?_;rw [rounds_succ];go_wp2_with fail
  go_end0
  exact ⟨rfl, rfl⟩
 have C1 : Hid (∀ W, Calls Tryz.prog 161 #[.slice none 0 0, .int .i64 0, .int .i64 0, .int .i64 0] W fun e w' => e = .returned (.tuple #[]) ∧ W = w') := fun W => by
  go_enter Tryz.func161, Tryz.ntmps161;go_wp2_with fail;refine wp_loop_rounds 1 ?_;rw [rounds_succ];go_wp2_with (first | (go_at_call 180; refine (C0.out _).mono ?_; rintro e w' ⟨rfl, rfl⟩));refine bodyPost_ret (results_none rfl _ _ _) rfl ?_;exact ⟨rfl, rfl⟩
 have CL : ∀ W, Calls Tryz.prog 162 #[.int .u64 0] W fun e w' => e = .returned (.int .i64 0) ∧ w' = W := fun W => Any.bits_Len Zi7 0 W aa aa;go_enter Tryz.func125, Tryz.ntmps125
 go_wp2_with (first
  | (go_at_call 162; refine (CL _).mono ?_; rintro e w' ⟨rfl, rfl⟩)
  | (go_at_call 161; refine (C1.out _).mono ?_; rintro e w' ⟨rfl, rfl⟩))
 go_end0
 exact ⟨rfl, rfl⟩
theorem Zmg {base : Nat} {v : Value} {l : List Int} (w : World) (h : IO base w v l) (hl : l.length ≤ 1000) :
  Calls Tryz.prog 125 #[v] w fun e w' => e = .returned (.tuple #[]) ∧ IO base w' v (l.mergeSort fun x y => decide (x ≤ y)) ∧ Za (fun k => v.ownBlock = some k) w w' := by
 rcases h.2 with ⟨rfl, h0⟩ | ⟨g, cap, cur, rfl, hb, hg, hn, hc, hs, ht⟩
 ·have : l = [] := List.eq_nil_of_length_eq_zero h0
  subst this;exact (Zh8 w).mono fun e w' ⟨h1, h2⟩ => ⟨h1, by subst h2; simpa using h, by subst h2; exact Za.refl _ _⟩
 ·have hH : Holds (Value.int .i64) w g 0 l.toArray := holds_of_blockI hg gc
  refine ((Any.slices_Sort_int Zg2 g 0 cap l w hH (Array.getElem?_eq_some_iff.1 hg).1 aa).mono fun e w' ⟨h1, q, os, h2⟩ => ?_);obtain ⟨r, hr⟩ := nE ((l.mergeSort fun x y => decide (x ≤ y)));have hrl : r.length = l.length := hr ▸ List.length_mergeSort _;rw [hr] at h2 ⊢;refine ⟨h1, ?_, ?_⟩
  ·rw [h2]
   have := Zlx (q := q) (os := os) (m := l.length) (ts := r) hb hg aa aa hc hs;rw [← hrl, List.take_length] at this;rw [← hrl]; exact this
  ·rw [h2]; exact Zfj _
theorem Zeu (l : List Int) : (Go.Lib.compact l).length ≤ l.length := by
 unfold Go.Lib.compact Go.Lib.compactUpTo;rw [List.length_map];exact Nat.le_trans (List.length_filter_le _ _) ae
theorem Zgx {base : Nat} {v : Value} {l : List Int} (w : World) (h : IO base w v l) (hl : l.length ≤ 1000) :
  Calls Tryz.prog 126 #[v] w fun e w' => ∃ v', e = .returned v' ∧ IO base w' v' (Go.Lib.compact l) ∧ Za (fun k => v.ownBlock = some k) w w' := by
 rcases h.2 with ⟨rfl, h0⟩ | ⟨g, cap, cur, rfl, hb, hg, hn, hc, hs, ht⟩
 ·have : l = [] := List.eq_nil_of_length_eq_zero h0
  subst this;exact (Any.slices_Compact_int_empty Nh none 0 w).mono fun e w' ⟨h1, h2⟩ => ⟨_, h1, by subst h2; exact h, by subst h2; exact Za.refl _ _⟩
 ·have hH : Holds (Value.int .i64) w g 0 l.toArray := holds_of_blockI hg gc
  refine ((Any.slices_Compact_int Nh g 0 cap l w hH aa hn).mono fun e w' ⟨h1, q, h2⟩ => ?_);obtain ⟨r, hr⟩ := nE (Go.Lib.compact l);have hrl : r.length ≤ l.length := hr ▸ Zeu l;rw [hr] at h1 h2;exact J40
theorem Yo : (Tryz.prog.info? 3).map (fun i => (i.zero, i.size, i.bytes)) = some (some (.int .i64 0), 1, 8) := by kernel_rfl
theorem IO.of {base : Nat} {w : World} {v : Value} {m : Nat} {xs : List Value} {l : List Int} (h : w.ownsRow base 3 1 v m xs) (hm : m = l.length) (hx : xs = Zg l) : IO base w v l := by subst hm; subst hx; exact h
theorem IO.below {base : Nat} {w0 w w' : World} {v : Value} {l : List Int} (h : IO base w v l) (hk : Za (fun k => v.ownBlock = some k) w w') (hb : Below base w0 w) (hs : base ≤ w.heap.size) : Below base w0 w' :=
 hb.trans (hk.below hs (fun k e => (h.lt k e).1))
theorem Zlu (ops : List OpV) (k : Nat) (h : k < ops.length) : Zb5 ops k = if (ops[k]).kind = 1 ∨ (ops[k]).kind = 4 then [(k : Int) + 1] else if (ops[k]).kind = 3 then [(ops[k]).tt] else if (ops[k]).kind = 2 then (ops[k]).arms.map Xu.tt ++ [(ops[k]).onT, (ops[k]).onE] else [] := by
 unfold Zb5;rw [if_neg aa, Int.toNat_natCast, List.getElem?_eq_getElem h]
theorem Zej (l : List Int) (n : Nat) (h : l.length ≤ n) : (l.filter fun x => !decide (x < 0)).length ≤ n := Nat.le_trans (List.length_filter_le _ _) h
theorem J71{P:Prop}(h:P:=by
 clear HE HO0;go_enter Tryz.func75, Tryz.ntmps75;go_wp2_with fail;go_ret;rw [HF.out]; exact ⟨_, rfl, ⟨rfl, .inl ⟨rfl, rfl⟩⟩, (Below.refl _ _).alloc (Nat.le_refl _) _⟩):P:=h
theorem Zft (p : Zv) (A : Option Addr) (c : Nat) (a : Int) (w : World) (hin : Vj w A p.ops) (hl : p.ops.length ≤ 1000) (ha : ∀ o ∈ p.ops, o.arms.length ≤ 900) :
  Calls Tryz.prog 75 #[p.val (.slice A p.ops.length c), a] w fun e w' => ∃ v, e = .returned v ∧ IO w.heap.size w' v (nxM p.ops a) ∧ Below w.heap.size w w' := by
 have HE : Hid (nxM p.ops a = (Zb5 p.ops a).foldl Xg []) := rfl;have HO0 := hid (Zn4 p.ops a);have HIN := hid hin; have HA := hid ha;obtain ⟨nm, dl, jp, ops⟩ := p;unfold Zv.val;simp only at HE HO0 HIN HA hl ⊢;obtain ⟨n, hn⟩ := nE (ops.length);have HN := hid hn;rw [hn] at hl HO0 ⊢;clear hn hin ha;obtain ⟨R, hR⟩ := nE (nxM ops a);rw [hR] at HE HO0 ⊢;clear hR;by_cases h0 : a < 0
 ·have HF : Hid (R = []) := HO0.out (.inl h0)
  exact J71
 by_cases h1 : (n : Int) ≤ a
 ·have HF : Hid (R = []) := HO0.out (.inr h1)
  exact J71
 obtain ⟨k, rfl⟩ : ∃ k : Nat, a = (k : Int) := ⟨a.toNat, aa⟩;have hk : k < n := aa
 have HK : Hid (k < ops.length) := by rw [HN.out]; exact hk
 clear h0 HO0;have HRW := hid (Zlu ops k HK.out);have HAL := hid (HA.out _ (List.getElem_mem HK.out));obtain ⟨b, off, v, rfl, hb, hv, d0, d1, d2, d3, d4, d5, d6⟩ := HIN.at k HK.out;obtain ⟨o, ho⟩ := nE (ops[k]'HK.out);rw [ho] at d0 d1 d2 d3 d5 d6 hv HRW HAL;obtain ⟨ok, ot, on, ott, oar, oT, oE⟩ := o;obtain ⟨A1, c1, rfl, hrd⟩ := hv;simp only at d0 d1 d2 d3 d4 d5 d6 hrd HRW HAL;obtain ⟨m, hm⟩ := nE (oar.length);have HM := hid hm; have HRD := hid hrd;rw [hm] at d4 HAL;have hml : m ≤ 900 := HAL.out;obtain ⟨L, hL⟩ := nE (Zb5 ops k);rw [hL] at HE HRW;clear ho hm hrd HIN HA HAL hL;go_enter Tryz.func75, Tryz.ntmps75;go_upto_region 4 with fail;obtain ⟨w1, hw1⟩ := nE ((w.alloc (.cells #[nm, dl, jp, .slice (some ⟨b, off, none⟩) n c] 26)).alloc (.cells #[ok, ot, on, ott, .slice A1 m c1, oT, oE] 56));have HB : Hid (Below w.heap.size w w1) := hw1 ▸ Va _ _ _;have HO : Hid (Blk w1 (w.heap.size + 1) 56 #[ok, ot, on, ott, .slice A1 m c1, oT, oE]) := hw1 ▸ Nk _ _ _ _;rw [hw1];obtain ⟨go, hgo⟩ := nE (w.heap.size + 1);rw [hgo] at HO ⊢;clear hw1 hgo d0 d1 d2 d3 d4 d5 d6 hb;have hs1 := HB.size;have HV0 : Hid (w1.ownsRow w.heap.size 3 1 (.slice none 0 0) 0 []) := ⟨rfl, .inl ⟨rfl, rfl⟩⟩;obtain ⟨o0, o1, o2, o3, o4, o5, o6⟩ := Vf HO.out;have hol := HO.lt;have hi1 : (k : Int) + 1 ≤ 1000 := aa
 rcases (show ok = 1 ∨ ok = 4 ∨ ok = 3 ∨ ok = 2 ∨ (ok ≠ 1 ∧ ok ≠ 4 ∧ ok ≠ 3 ∧ ok ≠ 2) by omega) with rfl | rfl | rfl | rfl | ⟨k1, k4, k3, k2⟩
 case' inl | inr.inl =>
  have HL : Hid (L = [(k : Int) + 1]) := by rw [Hid, HRW.out, if_pos ac]
  go_wp2_with (at_builtin; refine Xf _ rfl _ _ 68 rfl w.heap.size 3 _ 1 8 Tryz.underlying68 Yo rfl ac _ _ _ rfl HV0.out 1 [.int .i64 ((k : Int) + 1)] rfl rfl rfl ac ac hs1 ?_);intro g c' w2 hown hkp hfr;have HV : Hid (IO w.heap.size w2 (.slice (some ⟨g, 0, none⟩) 1 c') L) := IO.of hown el el;have HB2 : Hid (Below w.heap.size w w2) := HB.trans (hkp.below hs1 (fun k e => by cases e));have HLL : Hid (L.length ≤ 1000) := by rw [Hid, HL.out]; simp
  clear hown hkp hfr
 case' inr.inr.inl =>
  have HL : Hid (L = [ott]) := by rw [Hid, HRW.out, if_neg ac, if_pos rfl]
  go_wp2_with (at_builtin; refine Xf _ rfl _ _ 68 rfl w.heap.size 3 _ 1 8 Tryz.underlying68 Yo rfl ac _ _ _ rfl HV0.out 1 [ott] rfl rfl rfl ac ac hs1 ?_);intro g c' w2 hown hkp hfr;have HV : Hid (IO w.heap.size w2 (.slice (some ⟨g, 0, none⟩) 1 c') L) := IO.of hown el el;have HB2 : Hid (Below w.heap.size w w2) := HB.trans (hkp.below hs1 (fun k e => by cases e));have HLL : Hid (L.length ≤ 1000) := by rw [Hid, HL.out]; simp
  clear hown hkp hfr
 case' inr.inr.inr.inl =>
  have HL : Hid (L = oar.map Xu.tt ++ [oT, oE]) := by rw [Hid, HRW.out, if_neg ac, if_neg ac, if_pos rfl]
  have hs0 := HB.size;go_wp2_with fail
  go_loopw [45, 6] (fun iv ov wr => ∃ i : Nat, i ≤ m ∧ iv = .int .i64 (i : Int) ∧ IO w.heap.size wr ov ((oar.take i).map Xu.tt) ∧ Below w.heap.size w wr ∧ Blk wr go 56 #[.int .i64 2, ot, on, ott, .slice A1 m c1, oT, oE]) (fun iv _ _ => m - (intOf iv).toNat)
  case atStart => exact ⟨0, aa, rfl, HV0.out, HB.out, HO.out⟩
  case' round =>
   obtain ⟨i, hi, rfl, hv, hb, ho⟩ := hrel;clear o0 o1 o2 o3 o4 o5 o6 hol HB HO HV0;have HB := hid hb; have HO := hid ho; have HV := hid hv;obtain ⟨A2, c2, rfl, -⟩ := Wk hv;have hlen : ((oar.take i).map Xu.tt).length = i := by rw [List.length_map, List.length_take, HM.out]; omega
   have HLN := hid hlen;rw [hlen];clear hb ho hv hlen;have hsr := HB.size;by_cases hlt : i < m
  case' pos =>
   have HIA : Hid (i < oar.length) := by rw [HM.out]; exact hlt
   obtain ⟨b1, o1, rfl, hbl1, hc1⟩ := (HRD.below HB.out).at fk;obtain ⟨p0, p1⟩ := Nt hc1 i HIA.out;obtain ⟨⟨pa, ta⟩, hxa⟩ : ∃ x, oar[i]'HIA.out = x := ⟨_, rfl⟩;have HTK : Hid ((oar.take (i + 1)).map Xu.tt = (oar.take i).map Xu.tt ++ [ta]) := by rw [Hid, List.take_succ_eq_append_getElem HIA.out, hxa, List.map_append]; rfl
   rw [hxa] at p0 p1;simp only at p0 p1;clear hxa hc1;have HOX := hid (HO.alloc (.cells #[pa, ta] 99));have HVX := hid (HV.alloc (.cells #[pa, ta] 99));have HBX := hid (HB.alloc hsr (.cells #[pa, ta] 99));rw [HLN.out] at HVX;go_upto_region 15 with fail;obtain ⟨w2, hw2⟩ := nE (wr.alloc (.cells #[pa, ta] 99));have HA2 := bn hw2;rw [hw2] at HOX HVX HBX ⊢;clear hw2 p0 p1;have q1 := HA2.cell 1;have ql := HA2.lt;have hs2 := HBX.size;have hbi : (i + 1) * 8 ≤ 140737488355328 := aa
   go_wp2_with (at_builtin; refine Xf _ rfl _ _ 68 rfl w.heap.size 3 _ 1 8 Tryz.underlying68 Yo rfl ac _ _ _ rfl HVX.out 1 [ta] rfl rfl rfl hbi ac hs2 ?_);intro g c' w3 hown hkp hfr;have HV3 : Hid (IO w.heap.size w3 (.slice (some ⟨g, 0, none⟩) (i + 1) c') ((oar.take (i + 1)).map Xu.tt)) := IO.of hown (by rw [HTK.out, List.length_append, HLN.out]; rfl) (by rw [HTK.out]; simp [Zg]);have HB3 : Hid (Below w.heap.size w w3) := HBX.trans (hkp.below hs2 (fun k e => (HVX.lt k e).1));have HO3 : Hid (Blk w3 go _ _) := hkp.blk HOX.out (fun e => Wq HOX.out HVX.out ac e);clear hown hkp hfr HVX HBX HOX;go_wp2_with fail;go_roundw
   case rel => exact ⟨i + 1, aa, al, HV3.out, HB3.out, HO3.out⟩
   case measure => simp [intOf]; omega
  case' neg =>
   have him : i = m := aa
   subst him;have HVX : Hid (wr.ownsRow w.heap.size 3 1 (.slice A2 ((oar.take i).map Xu.tt).length c2) ((oar.take i).map Xu.tt).length (Zg ((oar.take i).map Xu.tt))) := HV.out;rw [HLN.out] at HVX;obtain ⟨o0, o1, o2, o3, o4, o5, o6⟩ := Vf HO.out;have hol := HO.lt;have hbi : (i + 2) * 8 ≤ 140737488355328 := aa
   go_wp2_with (at_builtin; refine Ql _ rfl _ _ 68 rfl w.heap.size 3 _ 1 8 Tryz.underlying68 Yo rfl ac _ _ _ rfl (HVX.alloc _) ⟨wr.heap.size, 0, none⟩ 2 _ [oT, oE] rfl rfl Gr (by intro u hu; simp at hu; rcases hu with rfl | rfl <;> rfl) hbi ac af ?_);intro A3 c' w2 hown hkp hfr;have HV2 : Hid (IO w.heap.size w2 (.slice A3 (i + 2) c') L) := IO.of hown (by rw [HL.out, List.length_append, List.length_map, HM.out]; rfl) (by rw [HL.out, List.take_of_length_le (by simp [HM.out]), Zg, Zg, List.map_append]; rfl);have HB2 : Hid (Below w.heap.size w w2) := (HB.alloc hsr (.cells #[oT, oE] 3)).trans (hkp.below af (fun k e => (HVX.lt k e).1));clear HV hown hkp hfr;have HV := HV2;have HLL : Hid (L.length ≤ 1000) := by rw [Hid, HL.out, List.length_append, List.length_map, HM.out]; simp; omega
 case' inr.inr.inr.inr =>
  have HL : Hid (L = []) := by rw [Hid, HRW.out, if_neg aa, if_neg k3, if_neg k2]
  have e1 : ((ok : Int) == 1) = false := gw
  have e4 : ((ok : Int) == 4) = false := gt
  have e3 : ((ok : Int) == 3) = false := gu
  have e2 : ((ok : Int) == 2) = false := gv
  have HV : Hid (IO w.heap.size w1 (.slice none 0 0) L) := IO.of HV0.out el el;have HB2 := HB;have HLL : Hid (L.length ≤ 1000) := by rw [Hid, HL.out]; simp
  clear k1 k2 k3 k4;go_upto_region 18 with fail
 all_goals
  try clear HV0
  clear HB HO HRW o0 o1 o2 o3 o4 o5 o6 hol;go_wp2_with fail;refine (Zpq _ HV.out HLL.out).mono ?_;rintro en w3 ⟨v3, rfl, hv3, hk3⟩;have HB3 := hid (HV.below hk3 HB2.out HB2.size);have HV3 := hid hv3;clear hv3 hk3;go_wp2_with fail;refine (Zmg _ HV3.out (Zej L 1000 HLL.out)).mono ?_;rintro en w4 ⟨rfl, hv4, hk4⟩;have HB4 := hid (HV3.below hk4 HB3.out HB3.size);have HV4 := hid hv4;clear hv4 hk4;go_wp2_with fail;refine (Zgx _ HV4.out (by rw [List.length_mergeSort]; exact Zej L 1000 HLL.out)).mono ?_;rintro en w5 ⟨v5, rfl, hv5, hk5⟩;have HB5 := hid (HV4.below hk5 HB4.out HB4.size);have HV5 := hid hv5;clear hv5 hk5;go_wp2_with fail;go_ret;refine ⟨v5, rfl, ?_, HB5.out⟩;rw [HE.out, ← Zgw]; exact HV5.out
theorem Ziw {n : Nat} {o : OpV} (h : opE n o = 0) : o.arms.length ≤ 8 := by
 by_cases hk : o.kind = 2
 ·have hb := Kf h
  unfold opE at h;rw [if_neg aa, if_neg ft, if_neg aa, if_pos hk] at h;unfold Ws at h;split at h
  ·omega
  split at h
  ·omega
  ·omega
 ·rw [Zhr h hk]; simp
theorem Zeh {p : Zv} (h : Kc p) : ∀ o ∈ p.ops, o.arms.length ≤ 900 := fun o ho => by
 have := Ziw ((Wc h).2.2 o ho); omega
theorem Zn5 {p : Zv} (h : Kc p) (a : Int) : (nxM p.ops a).length ≤ p.ops.length + 1 := by
 have := Zbr p.ops.length _ 0 (Zje p.ops a) (fun x hx => Ze8 h a x hx) aa;omega
theorem Zrl {base : Nat} {w : World} {v : Value} {l : List Int} (h : IO base w v l) (hl : 0 < l.length) : ∃ g c, v = .slice (some ⟨g, 0, none⟩) l.length c ∧ base ≤ g ∧ g < w.heap.size := by
 rcases h.2 with ⟨_, h0⟩ | ⟨g, cap, cur, hv, hb, hg, _⟩
 ·omega
 ·exact ⟨g, cap, hv, hb, (Array.getElem?_eq_some_iff.1 hg).1⟩
def Zq4 (ops : List OpV) (S : List Int) (base : Nat) (w : World) (e : Ending) (w' : World) : Prop :=
 ∃ (s : List Bool) (g c : Nat), e = .returned (.slice (some ⟨g, 0, none⟩) (ops.length + 1) c) ∧ w'.ownsRow w.heap.size 4 1 (.slice (some ⟨g, 0, none⟩) (ops.length + 1) c) (ops.length + 1) (Zk s) ∧ s.length = ops.length + 1 ∧
  (∀ x, at_ s x ↔ Uf (nxM ops) S x) ∧ Below base w w'
theorem Zfs (p : Zv) (A : Option Addr) (c : Nat) (S : List Int) (v : Value) (base : Nat) (w : World) (hin : ∀ W, Below base w W → Vj W A p.ops) (hg : Kc p) (hv : IO base w v S) (hS : ∀ x ∈ S, 0 ≤ x ∧ x ≤ p.ops.length) (hSl : S.length ≤ 1000) (hb : base ≤ w.heap.size) :
  Calls Tryz.prog 77 #[p.val (.slice A p.ops.length c), v] w (Zq4 p.ops S base w) := by
 have CN : Hid (∀ (x : Int) W, Below base w W → Calls Tryz.prog 75 #[p.val (.slice A p.ops.length c), x] W fun e w' => ∃ v, e = .returned v ∧ IO W.heap.size w' v (nxM p.ops x) ∧ Below W.heap.size W w') := fun x W hW => Zft p A c x W (hin W hW) (by have := (Wc hg).2.1; omega) (Zeh hg);have HNI := hid (Ze8 hg);have HNL := hid (Zn5 hg);have hn200 := (Wc hg).2.1;have HV := hid hv;have HBG := hid (Zp.begin (nx := nxM p.ops) hS);obtain ⟨Q, hQ⟩ := nE (Zq4 p.ops S base w)
 have HQ : Hid (∀ s g c W, W.ownsRow w.heap.size 4 1 (.slice (some ⟨g, 0, none⟩) (p.ops.length + 1) c) (p.ops.length + 1) (Zk s) → Zp (nxM p.ops) p.ops.length S s [] → Below base w W → Q (.returned (.slice (some ⟨g, 0, none⟩) (p.ops.length + 1) c)) W) := fun s g c W h1 h2 h3 => by
  rw [← hQ]; exact ⟨s, g, c, rfl, h1, h2.len, h2.over, h3⟩
 rw [hQ];obtain ⟨nx, hnx⟩ := nE (nxM p.ops);rw [hnx] at CN HNI HNL HBG HQ;clear hQ hin hg hS hv hnx;obtain ⟨nm, dl, jp, ops⟩ := p;unfold Zv.val at CN ⊢;simp only at CN HNI HNL HBG HQ hn200 ⊢;obtain ⟨n, hn⟩ := nE (ops.length);rw [hn] at CN HNI HNL HBG HQ hn200 ⊢;clear hn;go_enter Tryz.func77, Tryz.ntmps77;go_upto_region 1 with fail;obtain ⟨w0, hw0⟩ := nE (w.alloc (.cells #[nm, dl, jp, .slice A n c] 26));have HP0 := bn hw0;have HB0 := ba hw0;have HV0 := hid (Zt HV.out HB0.out);rw [hw0];obtain ⟨gp, hgp⟩ := nE (w.heap.size);have HGP := hid hgp;rw [hgp] at HP0 ⊢;clear hw0 hgp HV;have hs0 := HB0.size;have p3 := HP0.cell 3;have pl := HP0.lt;go_wp2_with (at_make; refine Jp _ rfl _ _ 114 rfl w.heap.size 4 _ 1 Tryz.underlying114 Zao rfl .i64 .i64 _ _ (n + 1) rfl rfl aa aa aa aa hs0 ?_);intro w1 hown hgr;have HB1 : Hid (Below w.heap.size w w1) := HB0.grown hgr hs0 ae;have HB01 : Hid (Below w0.heap.size w0 w1) := (Below.refl _ _).grown hgr (Nat.le_refl _) ae;have HP1 := bb HP0 HB01;have HV1 := hid (Zt HV0.out HB01.out);obtain ⟨gs, hgs⟩ := nE (w0.heap.size);rw [hgs] at hown ⊢
 have HS1 : Hid (w1.ownsRow w.heap.size 4 1 (.slice (some ⟨gs, 0, none⟩) (n + 1) (n + 1)) (n + 1) (Zk (List.replicate (n + 1) false))) := by
  have e : Zk (List.replicate (n + 1) false) = List.replicate (n + 1) (.bool false) := by simp [Zk]
  rw [Hid, e]; exact hown
 clear hown hgr hgs HB01 HV0 HP0 HB0 p3 pl hs0
 have ht0 : Jk n (List.replicate (n + 1) false) S ≤ 60000 := by
  unfold Jk;have h1 : (List.replicate (n + 1) false).count false ≤ 201 := Nat.le_trans List.count_le_length af;have h2 := Nat.mul_le_mul h1 (show n + 2 ≤ 202 by omega);omega
 have HT0 := hid ht0;clear ht0;go_wp2_with fail
 go_loopg [1] (Jk n (List.replicate (n + 1) false) S) (fun g fv wr => ∃ (l : List Int) (s : List Bool), Jk n s l ≤ g ∧ Jk n s l ≤ 60000 ∧ IO base wr fv l ∧ wr.ownsRow w.heap.size 4 1 (.slice (some ⟨gs, 0, none⟩) (n + 1) (n + 1)) (n + 1) (Zk s) ∧ Zp nx n S s l ∧ Blk wr gp 26 #[nm, dl, jp, .slice A n c] ∧ Below base w wr)
 case atStart => exact ⟨S, _, Nat.le_refl _, HT0.out, HV1.out, HS1.out, HBG.out, HP1.out, HB1.mono hb⟩
 case round =>
  obtain ⟨l, s, hg, ht, hv, hs, hw, hp, hbl⟩ := hrel;have HV := hid hv; have HS := hid hs; have HW := hid hw; have HP := hid hp; have HB := hid hbl;have hsz : w.heap.size ≤ wr.heap.size := hbl.size;clear hv hs hw hp hbl HV1 HS1 HBG HP1 HB1 HT0;rcases List.eq_nil_or_concat l with rfl | ⟨l', x, rfl⟩
  ·obtain ⟨A2, c2, rfl, -⟩ := Wk (show wr.ownsRow base 3 1 _ 0 [] from HV.out)
   go_wp2_with fail;exact HQ.out s gs (n + 1) wr HS.out HW.out HB.out
  ·rw [List.concat_eq_append] at hg ht HV HW
   obtain ⟨g0, c0, rfl, hg0, hg0l⟩ := Zrl HV.out ae;have HG0 : Hid (base ≤ g0 ∧ g0 < wr.heap.size) := ⟨hg0, hg0l⟩;have hx := (HW.todo x ae).1;obtain ⟨k, hk⟩ := nE (l'.length);have HK := hid hk;have hll : (l' ++ [x]).length = k + 1 := by simp [hk]
   have hcx : wr.cell? ⟨g0, k, none⟩ = some (.int .i64 x) := by rw [HV.cellAt k (by rw [hll]; omega)]; simp [Zg, ← hk]
   have HVX : Hid (wr.ownsRow base 3 1 (.slice (some ⟨g0, 0, none⟩) (l' ++ [x]).length c0) (l' ++ [x]).length (Zg (l' ++ [x]))) := HV.out;rw [hll] at HVX ⊢;have hk6 : k ≤ 60000 := by unfold Jk at ht; rw [hll] at ht; omega
   have hcap : k + 1 ≤ c0 := by
    rcases HVX.2 with ⟨_, h0⟩ | ⟨g, cap, cur, hv, _, _, h1, _⟩
    ·omega
    ·injection hv with _ _ e; omega
   have hcut := Zly HVX.out k aa aa;have HC : Hid (IO base wr (.slice (some ⟨g0, 0, none⟩) k c0) l') := IO.of hcut hk.symm (by rw [Nat.mul_one, Zg, Zg, ← List.map_take, List.take_left' hk]);obtain ⟨xn, rfl⟩ : ∃ xn : Nat, x = (xn : Int) := ⟨x.toNat, aa⟩;have hxn : xn < n + 1 := aa
   have HL : Hid (xn < s.length) := by rw [Hid, HW.len]; exact hxn
   have hcs : wr.cell? ⟨gs, xn, none⟩ = some (.bool (s[xn]'HL.out)) := by rw [HS.cellAt xn aa]; simp [Zk, HL.out]
   have hfs := HS.frozenAt xn;have hgsl := (HS.lt gs rfl).2;clear hcut hll hk HV HVX hx hg0 hg0l;obtain ⟨b, hb1⟩ := nE (s[xn]'HL.out);have HBX := hid hb1;rw [hb1] at hcs;clear hb1;have hk1 : (((k + 1 : Nat) : Int) - 1) = (k : Int) := aa
   cases b
   case true =>
    go_wp2_with fail
    go_roundg (Jk n s l')
    case measure => have := Zfa (n := n) s l' (xn : Int); omega
    case rel =>
     have h1 := Zfa (n := n) s l' (xn : Int);have ha : at_ s (xn : Int) := ⟨aa, by rw [Int.toNat_natCast, List.getElem?_eq_getElem HL.out, HBX.out]⟩;exact ⟨l', s, Nat.le_refl _, aa, HC.out, HS.out, HW.skip ha, HP.out, HB.out⟩
   case false =>
    have HTM : Hid (Jk n (s.set xn true) (l' ++ nx xn) < Jk n s (l' ++ [(xn : Int)])) := by
     have := Zmb (n := n) (nx := nx) (s := s) (l := l') (x := (xn : Int)) (by rw [Int.toNat_natCast]; exact HL.out) (by simp only [Int.toNat_natCast]; exact HBX.out) (HNL.out _);rwa [Int.toNat_natCast] at this
    have HWM : Hid (Zp nx n S (s.set xn true) (l' ++ nx xn)) := by have := HW.more HNI.out; rwa [Int.toNat_natCast] at this
    have HSS := hid ((HS.stored xn (.bool true)).1);have hne : gs ≠ gp := fun e => Wq HP.out HS.out ac fz
    have hne2 : (Value.slice (some ⟨g0, 0, none⟩) k c0).ownBlock ≠ some gs := fun e => by
     have e : g0 = gs := by simpa [Value.ownBlock] using e
     subst e;exact (Zaw HC.out HS.out ac).elim (fun h => by simp [Value.ownBlock] at h) (fun h => h rfl)
    have HCS := hid (Yg HC.out ⟨gs, xn, none⟩ (.bool true) hne2);have HPS := hid (HP.set_far (g' := gs) (i := xn) (u := .bool true) (fun e => hne e.symm));have HBS : Hid (Below base w (wr.setCell ⟨gs, xn, none⟩ (.bool true))) := HB.setCell (Nat.le_trans hb (HS.lt gs rfl).1) _;go_upto_region 7 with fail;obtain ⟨w2, hw2⟩ := nE (wr.setCell ⟨gs, xn, none⟩ (.bool true));rw [hw2] at HSS HCS HPS HBS ⊢;have hz2 : wr.heap.size = w2.heap.size := by rw [← hw2]; simp
    have HZ2 := hid hz2;clear hw2 HC HP HB HS hcx hcs hfs hne hne2 HW hz2;obtain ⟨q0, q1, q2, q3⟩ := Xw HPS.out;have ql := HPS.lt;have C1 := hid (CN.out (xn : Int) w2 HBS.out);go_wp2_with fail;refine C1.mono ?_;rintro en w3 ⟨v3, rfl, hv3, hb3⟩;obtain ⟨A3, c3, rfl, hr3⟩ := Wk hv3;have HR3 := hid hr3; have HB3 := hid (HBS.trans (hb3.mono (Nat.le_trans hb HBS.size)))
    have HA3 : Hid (A3 = none → (nx xn).length = 0 ∧ c3 = 0) := fun h => by
     rcases hv3.2 with ⟨e, h0⟩ | ⟨g, cap, cur, e, _⟩
     ·injection e with _ _ e; exact ⟨h0, e⟩
     ·injection e with e; rw [h] at e; cases e
    have HC3 := hid (Zt HCS.out hb3);have HS3 := hid (Zt HSS.out hb3);have HP3 := bb HPS hb3;have hz3 : base ≤ w3.heap.size := Nat.le_trans hb HB3.size
    have HC4 : Hid (w3.ownsRow base 3 1 (.slice (some ⟨g0, 0, none⟩) k c0) k (Zg l')) := by
     have := HC3.out;unfold IO at this;rw [HK.out] at this; exact this
    obtain ⟨m, hm⟩ := nE ((nx (xn : Int)).length);have hm2 : m ≤ n + 1 := by have := HNL.out (xn : Int); omega
    have HM := hid hm;rw [hm] at HA3;have hbi : (k + m) * 8 ≤ 140737488355328 := aa
    have hil : (Zg (nx (xn : Int))).length = m * 1 := by rw [Yt, hm, Nat.mul_one]
    have HIL := hid hil
    have HI1 : Hid (∀ u ∈ Zg (nx (xn : Int)), u.oneCell' = true) := fun u hu => by
     obtain ⟨y, _, rfl⟩ := List.mem_map.1 hu; rfl
    rw [hm];clear hv3 hb3 hr3 hm hil q0 q1 q2 q3 ql C1 HBS HSS HPS HCS HC3;go_wp2_with (at_builtin; refine Ym _ rfl _ _ 68 rfl base 3 _ 1 8 Tryz.underlying68 Yo rfl ac _ _ _ rfl HC4.out A3 _ _ (Zg (nx (xn : Int))) rfl HIL.out HR3.out HA3.out HI1.out hbi ac hz3 ?_);intro A4 c4 w4 hown hkp hfr;have HV4 : Hid (IO base w4 (.slice A4 (k + m) c4) (l' ++ nx (xn : Int))) := IO.of hown (by rw [List.length_append, HK.out, HM.out]) fy;have HS4 := hid (hkp.own HS3.out (fun j e e2 => (Zaw HC4.out HS3.out ac).elim (fun h => by simp [Value.ownBlock] at h) (fun h => h (e2.trans e.symm))));have HP4 := hid (hkp.blk HP3.out (fun e => Wq HP3.out HC4.out ac e));have HB4 : Hid (Below base w w4) := HB3.trans (hkp.below hz3 (fun j e => (HC4.lt j e).1));rw [Jb] at HS4;have HTT := hid ht;clear hown hkp hfr HS3 HP3 HB3 HC4;go_wp2_with fail
    go_roundg (Jk n (s.set xn true) (l' ++ nx (xn : Int)))
    case measure => have := HTM.out; omega
    case rel => exact ⟨_, _, Nat.le_refl _, by have := HTM.out; have := HTT.out; omega, HV4.out, HS4.out, HWM.out, HP4.out, HB4.out⟩
end Go.Proofs.YtpkkfdmhbbipoaaGreat
