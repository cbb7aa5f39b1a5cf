/- Plain law of FlowBounds and FlowOnce: what holds of a run. No program in sight. Plain law of FlowBounds and FlowOnce: the begin, the other inputs, and what the laws ask. No program in sight. Zp: where a number is in a list (layer 4's reference). -/
import Derived.Test.YtpkkfdmhbbipoaaGreatFi
import Derived.Test.YtpkkfdmhbbipoaaGreatFd
import Derived.Test.YtpkkfdmhbbipoaaGreatFf
namespace Go.Proofs.YtpkkfdmhbbipoaaGreat
set_option maxRecDepth 20000
set_option maxHeartbeats 4000000
open Go.RowKit PopT
theorem Zfv {x : Zb} (ho : (x.pd.out : Int) = x.s.out) (hs : x.seen ≤ x.S.length) (hj : (x.jumps : Int) ≤ x.p.jumps) (tt : Nat) : FlI (x.come tt) := by
 obtain ⟨e1, e2, e3, e4, e5, e6, e7⟩ := Zds x tt;refine ⟨fun _ hk => ?_, by rw [e7, e4]; exact ho, ?_, by rw [e3, e5]; exact hj⟩
 ·have hk' : (x.goes tt).op.kind = 1 := (My (x.goes tt)) ▸ hk
  have hp := Zfx (x.goes tt) hk';refine ⟨ip, ?_⟩;rw [show (x.come tt).pd.laid = 0 from hp.2]; exact Nat.zero_le _
 ·unfold Zb.come Zb.enters
  split
  ·exact hs
  ·split
   ·exact Nat.zero_le _
   ·split
    ·exact hs
    ·exact hs
theorem Zd3 {x : Zb} (h : FlI x) (tt : Nat) : FlI (x.come tt) := Zfv h.out h.seen h.jum tt
theorem Gi {x : Zb} (hg : Ww x.s = true) (h : FlI x) (n : Nat) (hn : n ≠ 0) : FlI (x.stop n) := by
 have ho := (Vs hg).2.2.1.1;exact ⟨fun h0 => absurd h0 hn, by show ((x.s.out.toNat : Nat) : Int) = x.s.out; omega, Nat.le_refl _, h.jum⟩
theorem Zbn {x : Zb} (hg : Ww x.s = true) (h : FlI x) (what : Nat) (tt : Int) : FlI (x.jump what tt).1 := by
 unfold Zb.jump;split
 ·exact Gi hg h 2 aa
 ·split
  ·exact Gi hg h 2 aa
  ·rename_i hj
   have hh : FlI x.hop := ⟨h.text, h.out, h.seen, by show ((x.jumps + 1 : Nat) : Int) ≤ x.p.jumps; omega⟩;exact Zd3 hh _
theorem Zpd {x : Zb} (hd : Ye x) (h : FlI x) (h0 : x.st = 0) : FlI x.does.1 := by
 have hg := hd.good;unfold Zb.does;split
 ·rename_i hov; exact Gi hg h _ hov
 split
 ·rename_i hk
  unfold Zb.send;split
  ·obtain ⟨ht, hl⟩ := h.text h0 hk
   refine ⟨fun _ _ => ⟨ht, ?_⟩, h.out, h.seen, h.jum⟩;show x.pd.laid + x.pd.loadN ≤ x.pd.text.size;unfold Xk.loadN;split <;> omega
  ·exact Zd3 h _
 split
 ·unfold Zb.look
  have hL := Zhu x.s.win.toNat x.P x.S x.seen x.R h.seen;have hh : FlI (x.looked (Ve x.s.win.toNat x.P x.S x.seen x.R)) := ⟨h.text, h.out, hL.2.1, h.jum⟩;simp only;split
  ·exact Zbn (x := x.looked _) hg hh _ _
  ·split
   ·exact Gi (x := x.looked _) hg hh 4 aa
   ·split
    ·exact Zbn (x := x.looked _) hg hh _ _
    ·split
     ·exact Zbn (x := x.looked _) hg hh _ _
     ·exact hh
 split
 ·exact Zbn hg h _ _
 split
 ·exact Zd3 h _
 split
 ·exact Gi hg h 2 aa
 ·exact Gi hg h 1 aa
theorem Zch (x : Zb) : x.enters.s = x.s := (Zhz x).2.2.2.1
theorem Zdk (x : Zb) (what : Nat) (tt : Int) : (x.jump what tt).1.s = x.s := by
 unfold Zb.jump;split
 ·rfl
 ·split
  ·rfl
  ·exact Zch _
theorem Zqm (x : Zb) : x.look.1.s = x.s := by
 unfold Zb.look;simp only;split
 ·exact Zdk _ _ _
 ·split
  ·rfl
  ·split
   ·exact Zdk _ _ _
   ·split
    ·exact Zdk _ _ _
    ·rfl
theorem Zqs (x : Zb) : x.does.1.s = x.s := by
 unfold Zb.does;split
 ·rfl
 ·split
  ·unfold Zb.send; split
   ·rfl
   ·exact Zch _
  ·split
   ·exact Zqm _
   ·split
    ·exact Zdk _ _ _
    ·split
     ·exact Zch _
     ·split <;> rfl
theorem Zpv {x : Zb} (h : Ye x) (now : Int) (hn : now ≤ 9223372036854775807) : Ye (x.clock now) :=
 ⟨h.good, h.pgood, h.pok, h.loc, h.st, h.jumps, h.til, h.lim, h.cut, by have := h.now; show 0 ≤ max x.now now ∧ max x.now now ≤ 9223372036854775807; omega⟩
theorem Zjp (x : Zb) (h : Ye x) (hf : Fit x) (hi : FlI x) (now : Int) (hn : now ≤ 9223372036854775807) :
  ((x.step now).2.2 = false ∧ (x.step now).1 = x) ∨ ((x.step now).2.2 = true ∧ x.st = 0 ∧ (x.step now).2.1.loc = x.loc ∧ Zhc x (x.step now).1 (x.step now).2.1.what ∧ FlI (x.step now).1 ∧ (x.step now).1.s = x.s ∧ (x.step now).1.p = x.p) := by
 unfold Zb.step;split
 ·exact .inl ⟨rfl, rfl⟩
 ·rename_i hr
  right;have hr' : x.ready now = true := by simpa using hr
  unfold Zb.ready at hr';rw [Bool.and_eq_true, decide_eq_true_eq] at hr';have hcl := Zpv h now hn;have hic : FlI (x.clock now) := ⟨hi.text, hi.out, hi.seen, hi.jum⟩
  have hrr : (x.clock now).readyM (x.clock now).now = true := by
   have : (x.clock now).now = max now x.now := by show max x.now now = max now x.now; omega
   rw [this]; exact hr'.2
  have hm := Zk7 (x.clock now) hcl ⟨hf.1, hf.2⟩ hic hr'.1 hrr;refine ⟨rfl, hr'.1, rfl, hm, Zpd hcl hic hr'.1, ?_, Zrm (x.clock now)⟩;exact Zqs (x.clock now)
theorem Zmu (x : Zb) (hi : FlI x) (b : ByteArray) : FlI (x.put b).1 ∧ (x.put b).1.s = x.s ∧ (x.put b).1.p = x.p ∧ (x.put b).1.loc = x.loc ∧ (x.put b).1.st = x.st ∧ phi (x.put b).1 = phi x + (x.put b).2 := by
 unfold Zb.put;split
 ·exact ⟨hi, rfl, rfl, rfl, rfl, ae⟩
 ·refine ⟨⟨hi.text, hi.out, hi.seen, hi.jum⟩, rfl, rfl, rfl, rfl, ?_⟩
  unfold phi;show _ + (((x.R ++ b.data.toList.take (x.s.ring.toNat - x.R.length)).length : Nat) : Int) = _ + ((min b.size (x.s.ring.toNat - x.R.length) : Nat) : Int)
  have e : (x.R ++ b.data.toList.take (x.s.ring.toNat - x.R.length)).length = x.R.length + min b.size (x.s.ring.toNat - x.R.length) := by
   rw [List.length_append, List.length_take, Ki b, Nat.min_comm]
  rw [e];show 2 * ((x.p.jumps - x.jumps) * Tot x) + (if x.loc < x.p.ops.length then Ka x + 2 * Uo x (x.loc + 1) else 1) + _ = 2 * ((x.p.jumps - x.jumps) * Tot x) + (if x.loc < x.p.ops.length then Ka x + 2 * Uo x (x.loc + 1) else 1) + _ + _;omega
def Zlq (x y : Zb) : Prop := FlI y ∧ y.s = x.s ∧ y.p = x.p ∧ y.loc = x.loc ∧ y.st = x.st ∧ phi y = phi x
theorem J54{P:Prop}(h:P:=by
 split
 ·exact ⟨hi, rfl, rfl, rfl, rfl, rfl⟩
 ·exact ⟨⟨hi.text, hi.out, hi.seen, hi.jum⟩, rfl, rfl, rfl, rfl, rfl⟩):P:=h
theorem Zk1 (x : Zb) (hi : FlI x) : Zlq x x.ends := by
 unfold Zb.ends;exact J54
theorem Zjn (x : Zb) (hi : FlI x) (z : Int) : Zlq x (x.take z) := by
 unfold Zb.take;exact J54
theorem Zla (x : Zb) (hi : FlI x) (t : Int) : Zlq x (x.cuts t) := by
 unfold Zb.cuts;exact J54
/-! ### A run -/
def Zhb (y : Xr) : Bool := decide (y.what = 1) || decide (y.what = 5)
structure Jh (s : Vk) (p : Zv) (x : Zb) (l : List Xr) (n : Nat) : Prop where
 fl : FlI x
 es : x.s = s
 ep : x.p = p
 cnt : (l.length : Int) + (if x.st = 0 then phi x else 0) ≤ 2 * (Qo s.out p.ops * (p.jumps + 1)) + n
 here : x.st = 0 → Uf (nxM p.ops) [0] x.loc
 past : ∀ y ∈ l, Uf (nxM p.ops) [0] y.loc
 once : l.Pairwise fun a b => Zhb a = false → Uf (nxM p.ops) (nxM p.ops a.loc) b.loc
 now : x.st = 0 → ∀ y ∈ l, Zhb y = false → Uf (nxM p.ops) (nxM p.ops y.loc) x.loc
theorem Zlw (x : Zb) (hd : Ye x) (hi : FlI x) (h2 : x.st = 0) : 1 ≤ phi x := by
 by_cases hl : x.loc < x.p.ops.length
 ·have hb := Zf7 x hd hi h2 hl
  have ha := Gk x hd (x.loc + 1);have hT : 0 ≤ (x.p.jumps - x.jumps) * Tot x := Int.mul_nonneg (by have := hi.jum; omega) aa;omega
 ·have ha := Gk x hd 0
  have hT : 0 ≤ (x.p.jumps - x.jumps) * Tot x := Int.mul_nonneg (by have := hi.jum; omega) aa;unfold phi; rw [if_neg hl]; omega
theorem Jh.step {s : Vk} {p : Zv} {x : Zb} {l : List Xr} {n : Nat} (h : Jh s p x l n) (hd : Ye x) (hf : Fit x) (now : Int) (hn : now ≤ 9223372036854775807) :
  ((x.step now).2.2 = false → Jh s p (x.step now).1 l n) ∧ ((x.step now).2.2 = true → Jh s p (x.step now).1 (l ++ [(x.step now).2.1]) n) := by
 rcases Zjp x hd hf h.fl now hn with ⟨h1, h2⟩ | ⟨h1, h2, h3, h4, h5, h6, h7⟩
 ·exact ⟨fun _ => by rw [h2]; exact h, fun h => absurd (h1.symm.trans h) ac⟩
 ·refine ⟨fun h => absurd (h1.symm.trans h) ac, fun _ => ?_⟩
  obtain ⟨y, hy⟩ := nE ((x.step now).1);obtain ⟨z, hz⟩ := nE ((x.step now).2.1);rw [hy] at h4 h5 h6 h7 ⊢;rw [hz] at h3 h4 ⊢;have hc := h.cnt;rw [if_pos h2] at hc
  have hpast : ∀ w ∈ l ++ [z], Uf (nxM p.ops) [0] w.loc := fun w hw => by
   rcases List.mem_append.1 hw with hw | hw
   ·exact h.past w hw
   ·rw [List.mem_singleton] at hw; subst hw; rw [h3]; exact h.here h2
  have honce : (l ++ [z]).Pairwise fun a b => Zhb a = false → Uf (nxM p.ops) (nxM p.ops a.loc) b.loc := by
   refine List.pairwise_append.2 ⟨h.once, ae, fun a ha b hb hs => ?_⟩;rw [List.mem_singleton] at hb;subst hb;rw [h3]; exact h.now h2 a ha hs
  have hphi : (y.st = 0 → phi y + 1 ≤ phi x) → 1 ≤ phi x → (((l ++ [z]).length : Nat) : Int) + (if y.st = 0 then phi y else 0) ≤ 2 * (Qo s.out p.ops * (p.jumps + 1)) + n := fun ha hb => by
   rw [List.length_append, List.length_singleton];split
   ·rename_i hst; have := ha hst; omega
   ·omega
  have hone : 1 ≤ phi x := Zlw x hd h.fl h2;unfold Zhc at h4;rcases h4 with h4 | ⟨⟨h4, h8, h9⟩, h10⟩ | ⟨h4, h9, h10⟩
  ·refine ⟨h5, h6.trans h.es, h7.trans h.ep, hphi (fun h0 => absurd h0 h4) hone, fun h0 => absurd h0 h4, hpast, honce, fun h0 => absurd h0 h4⟩
  ·refine ⟨h5, h6.trans h.es, h7.trans h.ep, hphi (fun _ => h10) hone, fun _ => by rw [h8]; exact h.here h2, hpast, honce, fun _ w hw hs => ?_⟩
   rw [h8];rcases List.mem_append.1 hw with hw | hw
   ·exact h.now h2 w hw hs
   ·rw [List.mem_singleton] at hw
    subst hw;unfold Zhb at hs;rcases h4 with h4 | h4 <;> simp [h4] at hs
  ·rw [h.ep] at h4
   refine ⟨h5, h6.trans h.es, h7.trans h.ep, hphi (fun _ => h10) hone, fun _ => .step (h.here h2) h4, hpast, honce, fun _ w hw hs => ?_⟩;rcases List.mem_append.1 hw with hw | hw
   ·exact .step (h.now h2 w hw hs) h4
   ·rw [List.mem_singleton] at hw
    subst hw;rw [h3]; exact .base h4
theorem Zok {s : Vk} {p : Zv} {now : Int} (h : Ye (Ko s p now)) : Jh s p ((Ko s p now).come 0) [] 0 := by
 obtain ⟨e1, e2, e3, e4, e5, e6, e7⟩ := Zds (Ko s p now) 0;have ho := (Vs h.good).2.2.1.1;have hj := (Wc h.pgood).1;have ho' : 1 ≤ s.out := ho;have hj' : 0 ≤ p.jumps := hj.1;refine ⟨Zfv (by show ((s.out.toNat : Nat) : Int) = s.out; omega) (Nat.le_refl _) (by show ((0 : Nat) : Int) ≤ p.jumps; omega) 0, e4, e5, ?_, fun _ => ?_, ae, .nil, ae⟩
 ·have hp := Zdv (Ko s p now) h 0 (Nat.zero_le _)
  have ha := Gk (Ko s p now) h 0;have e : Tot (Ko s p now) = Qo s.out p.ops := rfl
  have e8 : ((Ko s p now).p.jumps - ((Ko s p now).jumps : Int)) * Tot (Ko s p now) = Qo s.out p.ops * p.jumps := by
   rw [e]; show (p.jumps - ((0 : Nat) : Int)) * _ = _;rw [Int.natCast_zero, Int.sub_zero, Int.mul_comm]
  have e9 : (Ko s p now).R.length = 0 := rfl;rw [e8, e9] at hp;rw [e] at ha;rw [Int.mul_add, Int.mul_one];simp only [List.length_nil, Int.natCast_zero, Int.zero_add, Int.add_zero] at hp ⊢;split
  ·omega
  ·have := Int.mul_nonneg (a := Qo s.out p.ops) (b := p.jumps) aa hj'
   omega
 ·rw [e1]; exact .base ae
section
variable {s : Vk} {p : Zv} {x y : Zb} {l : List Xr} {n : Nat}
theorem Jh.same (h : Jh s p x l n) (hs : Zlq x y) : Jh s p y l n := by
 obtain ⟨h1, h2, h3, h4, h5, h6⟩ := hs;exact ⟨h1, h2.trans h.es, h3.trans h.ep, by rw [h5, h6]; exact h.cnt, by rw [h5, h4]; exact h.here, h.past, h.once, by rw [h5, h4]; exact h.now⟩
theorem Jh.put (h : Jh s p x l n) (b : ByteArray) : Jh s p (x.put b).1 l (n + (x.put b).2) := by
 obtain ⟨h1, h2, h3, h4, h5, h6⟩ := Zmu x h.fl b;refine ⟨h1, h2.trans h.es, h3.trans h.ep, ?_, by rw [h5, h4]; exact h.here, h.past, h.once, by rw [h5, h4]; exact h.now⟩;have := h.cnt;rw [h5, h6];split at this <;> rename_i hst
 ·rw [if_pos hst]; omega
 ·rw [if_neg hst]; omega
theorem Zrf (x : Zb) (b : ByteArray) : (x.put b).2 ≤ x.s.ring.toNat := by
 unfold Zb.put;split
 ·exact Nat.zero_le _
 ·show min b.size (x.s.ring.toNat - x.R.length) ≤ _
  omega
theorem Jh.goods (h : Jh s p x l n) (hd : Ye x) : Ww s = true ∧ Kc p := by
 rw [← h.es, ← h.ep]; exact ⟨hd.good, hd.pgood⟩
theorem Jh.most (h : Jh s p x l n) (hd : Ye x) : (l.length : Int) ≤ Kp s p + n := by
 obtain ⟨hg, hp⟩ := h.goods hd;have ho := (Vs hg).2.2.1.1;have h1 := Zdi ho hp p.ops.length;rw [List.take_length] at h1;have e : Wo s p = Qo s.out p.ops := by unfold Wo; rw [if_pos ⟨hg, Yr.2 hp⟩]
 have hc := h.cnt;unfold Kp;rw [e, if_neg aa, Int.mul_assoc];split at hc
 ·rename_i h0
  have := Zlw x hd h.fl h0;omega
 ·omega
theorem Jh.reach (h : Jh s p x l n) (hd : Ye x) (y : Xr) (hy : y ∈ l) : (y.loc : Int) ∈ Wz p := by
 obtain ⟨hg, hp⟩ := h.goods hd;unfold Wz;rw [if_pos (Yr.2 hp)];exact ((Gq hp [0] dz (fun x hx => ay)).2 _).2 (h.past y hy)
end
theorem Zne {a : List Int} {A : Option Addr} {c : Nat} (x : Int) (w : World) (ha : Rd w A (Zg a)) (hl : a.length ≤ 1000000) :
  Calls Tryz.prog 59 #[.slice A a.length c, x] w fun e w' => ∃ k : Int, e = .returned k ∧ (x ∈ a → ¬ k < 0) ∧ Below w.heap.size w w' := by
 have HA := hid ha;have HR : Hid (x ∈ a → x ∈ a.drop 0) := id;obtain ⟨R, hR⟩ := nE ((x ∈ a));rw [hR] at HR ⊢;obtain ⟨n, hn⟩ := nE (a.length);have HN := hid hn;rw [hn] at hl ⊢;clear hR ha hn;go_enter Tryz.func59, Tryz.ntmps59;go_wp2_with fail
 go_loopw [5] (fun iv wr => ∃ i : Nat, i ≤ n ∧ iv = .int .i64 (i : Int) ∧ (R → x ∈ a.drop i) ∧ Below w.heap.size w wr) (fun iv _ => n - (intOf iv).toNat)
 case atStart => exact ⟨0, aa, rfl, HR.out, Below.refl _ _⟩
 case round =>
  obtain ⟨i, hi, rfl, hr, hbl⟩ := hrel;have HRR := hid hr; have HBL := hid hbl;clear hr hbl HR;by_cases hlt : i < n
  ·have h1 : i < a.length := by rw [HN.out]; exact hlt
   obtain ⟨b1, o1, rfl, hbl1, hc1⟩ := (HA.below HBL.out).at (by rw [Yt]; omega);have p0 : wr.cell? ⟨b1, o1 + i, none⟩ = some (.int .i64 a[i]) := hc1 i _ (Uj a i h1)
   have HS : Hid (R → x = a[i] ∨ x ∈ a.drop (i + 1)) := fun h => by
    have := HRR.out h;rw [List.drop_eq_getElem_cons h1] at this;exact List.mem_cons.1 this
   obtain ⟨y, hy⟩ := nE (a[i]'h1);rw [hy] at p0 HS;clear hy hc1 h1 HRR;by_cases hs : y = x
   ·subst hs
    clear HS;go_wp2_with fail
    try go_ret
    exact ⟨(i : Int), rfl, fun _ => aa, HBL.out⟩
   ·have HS2 : Hid (R → x ∈ a.drop (i + 1)) := fun h => (HS.out h).resolve_left (fun e => hs e.symm)
    have hs0 : ((y : Int) == x) = false := by rw [beq_eq_false_iff_ne]; exact hs
    clear HS hs;go_wp2_with fail;go_roundw
    case rel => exact ⟨i + 1, aa, al, HS2.out, HBL.out⟩
    case measure => simp [intOf]; omega
  ·have HS2 : Hid (¬ R) := fun h => by
    have := HRR.out h;rw [List.drop_of_length_le ax] at this;cases this
   clear HRR;go_wp2_with fail
   try go_ret
   exact ⟨-1, rfl, fun h => absurd h HS2.out, HBL.out⟩
end Go.Proofs.YtpkkfdmhbbipoaaGreat
