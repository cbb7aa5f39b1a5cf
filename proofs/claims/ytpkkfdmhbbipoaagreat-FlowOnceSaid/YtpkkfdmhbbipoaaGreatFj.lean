/- Plain law of FlowBounds and FlowOnce: what holds of a run. No program in sight. Plain law of FlowBounds and FlowOnce: the begin, the other inputs, and what the laws ask. No program in sight. Walks: where a number is in a list (layer 4's reference). -/
import Derived.Test.YtpkkfdmhbbipoaaGreatFi
import Derived.Test.YtpkkfdmhbbipoaaGreatFd
import Derived.Test.YtpkkfdmhbbipoaaGreatFf
namespace Go.Proofs.YtpkkfdmhbbipoaaGreat
open Go.RowKit PopT
theorem flI_come0 {x : DialV} (ho : (x.pd.out : Int) = x.s.out) (hs : x.seen ≤ x.S.length) (hj : (x.jumps : Int) ≤ x.p.jumps) (tt : Nat) : FlI (x.come tt) := by
 obtain ⟨e1, e2, e3, e4, e5, e6, e7⟩ := come_f x tt
 refine ⟨fun _ hk => ?_, by rw [e7, e4]; exact ho, ?_, by rw [e3, e5]; exact hj⟩
 ·have hk' : (x.goes tt).op.kind = 1 := (enters_op (x.goes tt)) ▸ hk
  have hp := enters_pd (x.goes tt) hk'
  refine ⟨by rw [show (x.come tt).op = (x.goes tt).op from enters_op _]; exact hp.1, ?_⟩
  rw [show (x.come tt).pd.laid = 0 from hp.2]; exact Nat.zero_le _
 ·unfold DialV.come DialV.enters
  split
  ·exact hs
  ·split
   ·exact Nat.zero_le _
   ·split
    ·exact hs
    ·exact hs
theorem flI_come {x : DialV} (h : FlI x) (tt : Nat) : FlI (x.come tt) := flI_come0 h.out h.seen h.jum tt
theorem flI_stop {x : DialV} (hg : goodS x.s = true) (h : FlI x) (n : Nat) (hn : n ≠ 0) : FlI (x.stop n) := by
 have ho := (goodS_bd hg).2.2.1.1
 exact ⟨fun h0 => absurd h0 hn, by show ((x.s.out.toNat : Nat) : Int) = x.s.out; omega, Nat.le_refl _, h.jum⟩
theorem flI_jump {x : DialV} (hg : goodS x.s = true) (h : FlI x) (what : Nat) (tt : Int) : FlI (x.jump what tt).1 := by
 unfold DialV.jump
 split
 ·exact flI_stop hg h 2 (by omega)
 ·split
  ·exact flI_stop hg h 2 (by omega)
  ·rename_i hj
   have hh : FlI x.hop := ⟨h.text, h.out, h.seen, by show ((x.jumps + 1 : Nat) : Int) ≤ x.p.jumps; omega⟩
   exact flI_come hh _
theorem flI_does {x : DialV} (hd : DialOk x) (h : FlI x) (h0 : x.st = 0) : FlI x.does.1 := by
 have hg := hd.good
 unfold DialV.does
 split
 ·rename_i hov; exact flI_stop hg h _ hov
 split
 ·rename_i hk
  unfold DialV.send
  split
  ·obtain ⟨ht, hl⟩ := h.text h0 hk
   refine ⟨fun _ _ => ⟨ht, ?_⟩, h.out, h.seen, h.jum⟩
   show x.pd.laid + x.pd.loadN ≤ x.pd.text.size
   unfold PendV.loadN
   split <;> omega
  ·exact flI_come h _
 split
 ·unfold DialV.look
  have hL := look_all x.s.win.toNat x.P x.S x.seen x.R h.seen
  have hh : FlI (x.looked (lookM x.s.win.toNat x.P x.S x.seen x.R)) := ⟨h.text, h.out, hL.2.1, h.jum⟩
  simp only
  split
  ·exact flI_jump (x := x.looked _) hg hh _ _
  ·split
   ·exact flI_stop (x := x.looked _) hg hh 4 (by omega)
   ·split
    ·exact flI_jump (x := x.looked _) hg hh _ _
    ·split
     ·exact flI_jump (x := x.looked _) hg hh _ _
     ·exact hh
 split
 ·exact flI_jump hg h _ _
 split
 ·exact flI_come h _
 split
 ·exact flI_stop hg h 2 (by omega)
 ·exact flI_stop hg h 1 (by omega)
theorem enters_sF (x : DialV) : x.enters.s = x.s := (enters_f x).2.2.2.1
theorem jump_sF (x : DialV) (what : Nat) (tt : Int) : (x.jump what tt).1.s = x.s := by
 unfold DialV.jump
 split
 ·rfl
 ·split
  ·rfl
  ·exact enters_sF _
theorem look_sF (x : DialV) : x.look.1.s = x.s := by
 unfold DialV.look
 simp only
 split
 ·exact jump_sF _ _ _
 ·split
  ·rfl
  ·split
   ·exact jump_sF _ _ _
   ·split
    ·exact jump_sF _ _ _
    ·rfl
theorem does_sF (x : DialV) : x.does.1.s = x.s := by
 unfold DialV.does
 split
 ·rfl
 ·split
  ·unfold DialV.send; split
   ·rfl
   ·exact enters_sF _
  ·split
   ·exact look_sF _
   ·split
    ·exact jump_sF _ _ _
    ·split
     ·exact enters_sF _
     ·split <;> rfl
theorem clock_ok {x : DialV} (h : DialOk x) (now : Int) (hn : now ≤ 9223372036854775807) : DialOk (x.clock now) :=
 ⟨h.good, h.pgood, h.pok, h.loc, h.st, h.jumps, h.til, h.lim, h.cut, by have := h.now; show 0 ≤ max x.now now ∧ max x.now now ≤ 9223372036854775807; omega⟩
theorem step_moves (x : DialV) (h : DialOk x) (hf : Fit x) (hi : FlI x) (now : Int) (hn : now ≤ 9223372036854775807) :
  ((x.step now).2.2 = false ∧ (x.step now).1 = x) ∨ ((x.step now).2.2 = true ∧ x.st = 0 ∧ (x.step now).2.1.loc = x.loc ∧ Moves x (x.step now).1 (x.step now).2.1.what ∧ FlI (x.step now).1 ∧ (x.step now).1.s = x.s ∧ (x.step now).1.p = x.p) := by
 unfold DialV.step
 split
 ·exact .inl ⟨rfl, rfl⟩
 ·rename_i hr
  right
  have hr' : x.ready now = true := by simpa using hr
  unfold DialV.ready at hr'
  rw [Bool.and_eq_true, decide_eq_true_eq] at hr'
  have hcl := clock_ok h now hn
  have hic : FlI (x.clock now) := ⟨hi.text, hi.out, hi.seen, hi.jum⟩
  have hrr : (x.clock now).readyM (x.clock now).now = true := by
   have : (x.clock now).now = max now x.now := by show max x.now now = max now x.now; omega
   rw [this]; exact hr'.2
  have hm := does_moves (x.clock now) hcl ⟨hf.1, hf.2⟩ hic hr'.1 hrr
  refine ⟨rfl, hr'.1, rfl, hm, flI_does hcl hic hr'.1, ?_, does_p (x.clock now)⟩
  exact does_sF (x.clock now)
theorem put_moves (x : DialV) (hi : FlI x) (b : ByteArray) : FlI (x.put b).1 ∧ (x.put b).1.s = x.s ∧ (x.put b).1.p = x.p ∧ (x.put b).1.loc = x.loc ∧ (x.put b).1.st = x.st ∧ phi (x.put b).1 = phi x + (x.put b).2 := by
 unfold DialV.put
 split
 ·exact ⟨hi, rfl, rfl, rfl, rfl, by simp⟩
 ·refine ⟨⟨hi.text, hi.out, hi.seen, hi.jum⟩, rfl, rfl, rfl, rfl, ?_⟩
  unfold phi
  show _ + (((x.R ++ b.data.toList.take (x.s.ring.toNat - x.R.length)).length : Nat) : Int) = _ + ((min b.size (x.s.ring.toNat - x.R.length) : Nat) : Int)
  have e : (x.R ++ b.data.toList.take (x.s.ring.toNat - x.R.length)).length = x.R.length + min b.size (x.s.ring.toNat - x.R.length) := by
   rw [List.length_append, List.length_take, size_list' b, Nat.min_comm]
  rw [e]
  show 2 * ((x.p.jumps - x.jumps) * Tot x) + (if x.loc < x.p.ops.length then cLeft x + 2 * Arest x (x.loc + 1) else 1) + _ = 2 * ((x.p.jumps - x.jumps) * Tot x) + (if x.loc < x.p.ops.length then cLeft x + 2 * Arest x (x.loc + 1) else 1) + _ + _
  omega
def Same4 (x y : DialV) : Prop := FlI y ∧ y.s = x.s ∧ y.p = x.p ∧ y.loc = x.loc ∧ y.st = x.st ∧ phi y = phi x
theorem ends_moves (x : DialV) (hi : FlI x) : Same4 x x.ends := by
 unfold DialV.ends
 split
 ·exact ⟨hi, rfl, rfl, rfl, rfl, rfl⟩
 ·exact ⟨⟨hi.text, hi.out, hi.seen, hi.jum⟩, rfl, rfl, rfl, rfl, rfl⟩
theorem take_moves (x : DialV) (hi : FlI x) (z : Int) : Same4 x (x.take z) := by
 unfold DialV.take
 split
 ·exact ⟨hi, rfl, rfl, rfl, rfl, rfl⟩
 ·exact ⟨⟨hi.text, hi.out, hi.seen, hi.jum⟩, rfl, rfl, rfl, rfl, rfl⟩
theorem cuts_moves (x : DialV) (hi : FlI x) (t : Int) : Same4 x (x.cuts t) := by
 unfold DialV.cuts
 split
 ·exact ⟨hi, rfl, rfl, rfl, rfl, rfl⟩
 ·exact ⟨⟨hi.text, hi.out, hi.seen, hi.jum⟩, rfl, rfl, rfl, rfl, rfl⟩
/-! ### A run -/
def stays (y : StepV) : Bool := decide (y.what = 1) || decide (y.what = 5)
structure RunI (s : SetV) (p : ProgV) (x : DialV) (l : List StepV) (n : Nat) : Prop where
 fl : FlI x
 es : x.s = s
 ep : x.p = p
 cnt : (l.length : Int) + (if x.st = 0 then phi x else 0) ≤ 2 * (sumS s.out p.ops * (p.jumps + 1)) + n
 here : x.st = 0 → FlowTo (nxM p.ops) [0] x.loc
 past : ∀ y ∈ l, FlowTo (nxM p.ops) [0] y.loc
 once : l.Pairwise fun a b => stays a = false → FlowTo (nxM p.ops) (nxM p.ops a.loc) b.loc
 now : x.st = 0 → ∀ y ∈ l, stays y = false → FlowTo (nxM p.ops) (nxM p.ops y.loc) x.loc
theorem phi_pos (x : DialV) (hd : DialOk x) (hi : FlI x) (h2 : x.st = 0) : 1 ≤ phi x := by
 by_cases hl : x.loc < x.p.ops.length
 ·have hb := phi_low x hd hi h2 hl
  have ha := arest_bd x hd (x.loc + 1)
  have hT : 0 ≤ (x.p.jumps - x.jumps) * Tot x := Int.mul_nonneg (by have := hi.jum; omega) (by omega)
  omega
 ·have ha := arest_bd x hd 0
  have hT : 0 ≤ (x.p.jumps - x.jumps) * Tot x := Int.mul_nonneg (by have := hi.jum; omega) (by omega)
  unfold phi; rw [if_neg hl]; omega
theorem RunI.step {s : SetV} {p : ProgV} {x : DialV} {l : List StepV} {n : Nat} (h : RunI s p x l n) (hd : DialOk x) (hf : Fit x) (now : Int) (hn : now ≤ 9223372036854775807) :
  ((x.step now).2.2 = false → RunI s p (x.step now).1 l n) ∧ ((x.step now).2.2 = true → RunI s p (x.step now).1 (l ++ [(x.step now).2.1]) n) := by
 rcases step_moves x hd hf h.fl now hn with ⟨h1, h2⟩ | ⟨h1, h2, h3, h4, h5, h6, h7⟩
 ·exact ⟨fun _ => by rw [h2]; exact h, fun h => absurd (h1.symm.trans h) (by decide)⟩
 ·refine ⟨fun h => absurd (h1.symm.trans h) (by decide), fun _ => ?_⟩
  obtain ⟨y, hy⟩ : ∃ y, (x.step now).1 = y := ⟨_, rfl⟩
  obtain ⟨z, hz⟩ : ∃ z, (x.step now).2.1 = z := ⟨_, rfl⟩
  rw [hy] at h4 h5 h6 h7 ⊢
  rw [hz] at h3 h4 ⊢
  have hc := h.cnt
  rw [if_pos h2] at hc
  have hpast : ∀ w ∈ l ++ [z], FlowTo (nxM p.ops) [0] w.loc := fun w hw => by
   rcases List.mem_append.1 hw with hw | hw
   ·exact h.past w hw
   ·rw [List.mem_singleton] at hw; subst hw; rw [h3]; exact h.here h2
  have honce : (l ++ [z]).Pairwise fun a b => stays a = false → FlowTo (nxM p.ops) (nxM p.ops a.loc) b.loc := by
   refine List.pairwise_append.2 ⟨h.once, by simp, fun a ha b hb hs => ?_⟩
   rw [List.mem_singleton] at hb
   subst hb
   rw [h3]; exact h.now h2 a ha hs
  have hphi : (y.st = 0 → phi y + 1 ≤ phi x) → 1 ≤ phi x → (((l ++ [z]).length : Nat) : Int) + (if y.st = 0 then phi y else 0) ≤ 2 * (sumS s.out p.ops * (p.jumps + 1)) + n := fun ha hb => by
   rw [List.length_append, List.length_singleton]
   split
   ·rename_i hst; have := ha hst; omega
   ·omega
  have hone : 1 ≤ phi x := phi_pos x hd h.fl h2
  unfold Moves at h4
  rcases h4 with h4 | ⟨⟨h4, h8, h9⟩, h10⟩ | ⟨h4, h9, h10⟩
  ·refine ⟨h5, h6.trans h.es, h7.trans h.ep, hphi (fun h0 => absurd h0 h4) hone, fun h0 => absurd h0 h4, hpast, honce, fun h0 => absurd h0 h4⟩
  ·refine ⟨h5, h6.trans h.es, h7.trans h.ep, hphi (fun _ => h10) hone, fun _ => by rw [h8]; exact h.here h2, hpast, honce, fun _ w hw hs => ?_⟩
   rw [h8]
   rcases List.mem_append.1 hw with hw | hw
   ·exact h.now h2 w hw hs
   ·rw [List.mem_singleton] at hw
    subst hw
    unfold stays at hs
    rcases h4 with h4 | h4 <;> simp [h4] at hs
  ·rw [h.ep] at h4
   refine ⟨h5, h6.trans h.es, h7.trans h.ep, hphi (fun _ => h10) hone, fun _ => .step (h.here h2) h4, hpast, honce, fun _ w hw hs => ?_⟩
   rcases List.mem_append.1 hw with hw | hw
   ·exact .step (h.now h2 w hw hs) h4
   ·rw [List.mem_singleton] at hw
    subst hw
    rw [h3]; exact .base h4
theorem runI_new {s : SetV} {p : ProgV} {now : Int} (h : DialOk (newV s p now)) : RunI s p ((newV s p now).come 0) [] 0 := by
 obtain ⟨e1, e2, e3, e4, e5, e6, e7⟩ := come_f (newV s p now) 0
 have ho := (goodS_bd h.good).2.2.1.1
 have hj := (good_ops h.pgood).1
 have ho' : 1 ≤ s.out := ho
 have hj' : 0 ≤ p.jumps := hj.1
 refine ⟨flI_come0 (by show ((s.out.toNat : Nat) : Int) = s.out; omega) (Nat.le_refl _) (by show ((0 : Nat) : Int) ≤ p.jumps; omega) 0, e4, e5, ?_, fun _ => ?_, (by simp), .nil, (by simp)⟩
 ·have hp := phi_come (newV s p now) h 0 (Nat.zero_le _)
  have ha := arest_bd (newV s p now) h 0
  have e : Tot (newV s p now) = sumS s.out p.ops := rfl
  have e8 : ((newV s p now).p.jumps - ((newV s p now).jumps : Int)) * Tot (newV s p now) = sumS s.out p.ops * p.jumps := by
   rw [e]; show (p.jumps - ((0 : Nat) : Int)) * _ = _
   rw [Int.natCast_zero, Int.sub_zero, Int.mul_comm]
  have e9 : (newV s p now).R.length = 0 := rfl
  rw [e8, e9] at hp
  rw [e] at ha
  rw [Int.mul_add, Int.mul_one]
  simp only [List.length_nil, Int.natCast_zero, Int.zero_add, Int.add_zero] at hp ⊢
  split
  ·omega
  ·have := Int.mul_nonneg (a := sumS s.out p.ops) (b := p.jumps) (by omega) hj'
   omega
 ·rw [e1]; exact .base (by simp)
section
variable {s : SetV} {p : ProgV} {x y : DialV} {l : List StepV} {n : Nat}
theorem RunI.same (h : RunI s p x l n) (hs : Same4 x y) : RunI s p y l n := by
 obtain ⟨h1, h2, h3, h4, h5, h6⟩ := hs
 exact ⟨h1, h2.trans h.es, h3.trans h.ep, by rw [h5, h6]; exact h.cnt, by rw [h5, h4]; exact h.here, h.past, h.once, by rw [h5, h4]; exact h.now⟩
theorem RunI.put (h : RunI s p x l n) (b : ByteArray) : RunI s p (x.put b).1 l (n + (x.put b).2) := by
 obtain ⟨h1, h2, h3, h4, h5, h6⟩ := put_moves x h.fl b
 refine ⟨h1, h2.trans h.es, h3.trans h.ep, ?_, by rw [h5, h4]; exact h.here, h.past, h.once, by rw [h5, h4]; exact h.now⟩
 have := h.cnt
 rw [h5, h6]
 split at this <;> rename_i hst
 ·rw [if_pos hst]; omega
 ·rw [if_neg hst]; omega
theorem put_le (x : DialV) (b : ByteArray) : (x.put b).2 ≤ x.s.ring.toNat := by
 unfold DialV.put
 split
 ·exact Nat.zero_le _
 ·show min b.size (x.s.ring.toNat - x.R.length) ≤ _
  omega
theorem RunI.goods (h : RunI s p x l n) (hd : DialOk x) : goodS s = true ∧ Goodp p := by
 rw [← h.es, ← h.ep]; exact ⟨hd.good, hd.pgood⟩
theorem RunI.reach (h : RunI s p x l n) (hd : DialOk x) (y : StepV) (hy : y ∈ l) : (y.loc : Int) ∈ reachL p := by
 obtain ⟨hg, hp⟩ := h.goods hd
 unfold reachL
 rw [if_pos (goodB_iff.2 hp)]
 exact ((fromL_iff hp [0] (by simp [Asc]) (fun x hx => by rw [List.mem_singleton] at hx; omega)).2 _).2 (h.past y hy)
theorem RunI.alone (h : RunI s p x l n) (hd : DialOk x) (hl : loopsB p = false) : l.Pairwise fun a b => stays a = false → b.loc ≠ a.loc := by
 obtain ⟨hg, hp⟩ := h.goods hd
 refine h.once.imp_of_mem fun {a b} ha hb hab hs he => ?_
 have h1 := hab hs
 rw [he] at h1
 have h2 := h.reach hd a ha
 have h3 : (a.loc : Int) ∈ fromL p (nxM p.ops a.loc) := ((fromL_iff hp _ (nx_asc p.ops a.loc) (nx_in hp a.loc)).2 _).2 h1
 have h4 : loopsB p = true := by
  unfold loopsB
  exact List.any_eq_true.2 ⟨_, h2, by simpa using h3⟩
 rw [hl] at h4; cases h4
end
end Go.Proofs.YtpkkfdmhbbipoaaGreat
