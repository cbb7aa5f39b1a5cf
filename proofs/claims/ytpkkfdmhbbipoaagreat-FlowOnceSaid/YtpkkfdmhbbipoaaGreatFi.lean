/- What a dialogue sends, in plain Lean: what was taken is the texts sent, then a head of the op's text. Plain law of FlowBounds and FlowOnce: what a step does to where a dialogue is, and to how many steps are left. No program in sight. -/
import Derived.Test.YtpkkfdmhbbipoaaGreatDk
import Derived.Test.YtpkkfdmhbbipoaaGreatFg
namespace Go.Proofs.YtpkkfdmhbbipoaaGreat
open Go.RowKit PopT
theorem enters_p (x : DialV) : x.enters.p = x.p := by unfold DialV.enters; (repeat' split) <;> rfl
theorem come_p (x : DialV) (tt : Nat) : (x.come tt).p = x.p := enters_p _
theorem jump_p (x : DialV) (what : Nat) (tt : Int) : (x.jump what tt).1.p = x.p := by
 unfold DialV.jump
 split
 ·rfl
 ·split
  ·rfl
  ·exact come_p _ _
theorem look_p (x : DialV) : x.look.1.p = x.p := by
 unfold DialV.look
 simp only
 split
 ·exact jump_p _ _ _
 ·split
  ·rfl
  ·split
   ·exact jump_p _ _ _
   ·split
    ·exact jump_p _ _ _
    ·rfl
theorem does_p (x : DialV) : x.does.1.p = x.p := by
 unfold DialV.does
 split
 ·rfl
 ·split
  ·unfold DialV.send; split
   ·rfl
   ·exact come_p _ _
  ·split
   ·exact look_p _
   ·split
    ·exact jump_p _ _ _
    ·split
     ·exact come_p _ _
     ·split <;> rfl
structure SendI (x : DialV) (sent part : ByteArray) : Prop where
 rest : part.size ≠ 0 → x.loc < x.p.ops.length ∧ part.size ≤ x.op.text.size ∧ x.op.text.extract 0 part.size = part
 sends : x.st = 0 → x.op.kind = 1 → x.pd.text = x.op.text ∧ part = x.pd.text.extract 0 x.pd.sent
 none : x.st = 0 → x.op.kind ≠ 1 → part.size = 0 ∧ x.pd.sent = x.pd.laid
/-! ### A look -/
theorem lookGo_all (win : Nat) (ls : List (List Item)) : ∀ (n : Nat) (S : List UInt8) (seen : Nat) (R : List UInt8) (rd : Nat), seen ≤ S.length → R.length + (S.length - seen) + 1 ≤ n →
  (lookGo win ls n S seen R rd).R.length ≤ R.length ∧ (lookGo win ls n S seen R rd).seen ≤ (lookGo win ls n S seen R rd).S.length ∧
  ((lookGo win ls n S seen R rd).mtch = false → (lookGo win ls n S seen R rd).full = false → (lookGo win ls n S seen R rd).R = [] ∧ (lookGo win ls n S seen R rd).seen = (lookGo win ls n S seen R rd).S.length) := by
 intro n
 induction n with
 | zero => intro S seen R rd _ h; omega
 | succ n ih =>
  intro S seen R rd hs hn
  unfold lookGo
  split
  ·rename_i h
   exact ⟨Nat.le_refl _, hs, fun _ _ => ⟨h.2, h.1⟩⟩
  ·rename_i h1
   split
   ·exact ⟨Nat.le_refl _, hs, fun _ h => by cases h⟩
   ·by_cases he : seen = S.length
    ·have hR : R ≠ [] := fun h => h1 ⟨he, h⟩
     have hRl : 0 < R.length := List.length_pos_iff.2 hR
     have hl : (S ++ R.take 1).length = S.length + 1 := by rw [List.length_append, List.length_take]; omega
     have hd : (R.drop 1).length = R.length - 1 := by simp
     simp only [if_pos he]
     split
     ·exact ⟨by simp, Nat.zero_le _, fun h => by cases h⟩
     ·obtain ⟨a, b, c⟩ := ih (S ++ R.take 1) (seen + 1) (R.drop 1) (rd + 1) (by omega) (by omega)
      exact ⟨by omega, b, c⟩
    ·simp only [if_neg he]
     split
     ·exact ⟨Nat.le_refl _, Nat.zero_le _, fun h => by cases h⟩
     ·exact ih S (seen + 1) R rd (by omega) (by omega)
theorem look_all (win : Nat) (ls : List (List Item)) (S : List UInt8) (seen : Nat) (R : List UInt8) (hs : seen ≤ S.length) : (lookM win ls S seen R).R.length ≤ R.length ∧ (lookM win ls S seen R).seen ≤ (lookM win ls S seen R).S.length ∧
  ((lookM win ls S seen R).mtch = false → (lookM win ls S seen R).full = false → (lookM win ls S seen R).R = [] ∧ (lookM win ls S seen R).seen = (lookM win ls S seen R).S.length) :=
 lookGo_all win ls _ S seen R 0 hs (Nat.le_refl _)
/-! ### What is left -/
structure FlI (x : DialV) : Prop where
 text : x.st = 0 → x.op.kind = 1 → x.pd.text = x.op.text ∧ x.pd.laid ≤ x.pd.text.size
 out : (x.pd.out : Int) = x.s.out
 seen : x.seen ≤ x.S.length
 jum : (x.jumps : Int) ≤ x.p.jumps
def Tot (x : DialV) : Int := sumS x.s.out x.p.ops
def Arest (x : DialV) (k : Nat) : Int := Tot x + 1 - sumS x.s.out (x.p.ops.take k)
def cLeft (x : DialV) : Int := if x.op.kind = 1 then cI x.s.out ((x.pd.text.size : Int) - x.pd.laid) + 1 else if x.op.kind = 2 then (if x.seen < x.S.length then 2 else 1) else 1
def phi (x : DialV) : Int := 2 * ((x.p.jumps - x.jumps) * Tot x) + (if x.loc < x.p.ops.length then cLeft x + 2 * Arest x (x.loc + 1) else 1) + x.R.length
theorem enters_f (x : DialV) : x.enters.loc = x.loc ∧ x.enters.st = x.st ∧ x.enters.jumps = x.jumps ∧ x.enters.s = x.s ∧ x.enters.p = x.p ∧ x.enters.R = x.R ∧ x.enters.pd.out = x.pd.out := by
 unfold DialV.enters
 (repeat' split) <;> exact ⟨rfl, rfl, rfl, rfl, rfl, rfl, rfl⟩
theorem come_f (x : DialV) (tt : Nat) : (x.come tt).loc = tt ∧ (x.come tt).st = x.st ∧ (x.come tt).jumps = x.jumps ∧ (x.come tt).s = x.s ∧ (x.come tt).p = x.p ∧ (x.come tt).R = x.R ∧ (x.come tt).pd.out = x.pd.out := enters_f _
theorem sumS_1 (s : SetV) (p : ProgV) (hs : 1 ≤ s.out) (hg : Goodp p) (k : Nat) : 1 ≤ sumS s.out (p.ops.take k) := (sumS_le hs hg k).1
theorem sumS_mono {out : Int} {p : ProgV} (ho : 1 ≤ out) (h : Goodp p) (k : Nat) : sumS out (p.ops.take k) ≤ sumS out p.ops := by
 have key : ∀ d, sumS out (p.ops.take k) ≤ sumS out (p.ops.take (k + d)) := by
  intro d
  induction d with
  | zero => exact Int.le_refl _
  | succ d ih =>
   by_cases hi : k + d < p.ops.length
   ·have := sumS_succ out p.ops (k + d) hi
    have h2 := opSteps_le ho ((good_ops h).2.2 _ (List.getElem_mem hi))
    rw [show k + (d + 1) = k + d + 1 by omega]
    omega
   ·have e1 : p.ops.take (k + (d + 1)) = p.ops := List.take_of_length_le (by omega)
    have e2 : p.ops.take (k + d) = p.ops := List.take_of_length_le (by omega)
    rw [e1]; rw [e2] at ih; exact ih
 have := key p.ops.length
 have e : p.ops.take (k + p.ops.length) = p.ops := List.take_of_length_le (by omega)
 rwa [e] at this
theorem arest_bd (x : DialV) (h : DialOk x) (k : Nat) : 1 ≤ Arest x k ∧ Arest x k ≤ Tot x := by
 have ho := (goodS_bd h.good).2.2.1.1
 have h1 := sumS_1 x.s x.p ho h.pgood k
 have h2 := sumS_mono ho h.pgood k
 unfold Arest Tot; omega
theorem arest_succ (x : DialV) (k : Nat) (hk : k < x.p.ops.length) : Arest x k = opSteps x.s.out x.p.ops[k] + Arest x (k + 1) := by
 unfold Arest
 rw [sumS_succ x.s.out x.p.ops k hk]; omega
theorem opAt' (x : DialV) (h : x.loc < x.p.ops.length) : x.op = x.p.ops[x.loc] := by
 unfold DialV.op
 rw [List.getD_eq_getElem?_getD, List.getElem?_eq_getElem h]; rfl
theorem enters_op (x : DialV) : x.enters.op = x.op := by unfold DialV.enters; (repeat' split) <;> rfl
theorem enters_pd (x : DialV) (h : x.op.kind = 1) : x.enters.pd.text = x.op.text ∧ x.enters.pd.laid = 0 := by
 unfold DialV.enters
 rw [if_pos h]; exact ⟨rfl, rfl⟩
theorem cLeft_pos (x : DialV) (h : DialOk x) (hi : FlI x) (h0 : x.st = 0) : 1 ≤ cLeft x := by
 unfold cLeft
 have ho := (goodS_bd h.good).2.2.1.1
 split
 ·rename_i hk
  have := hi.text h0 hk
  have := cI_le (out := x.s.out) ho (show (0 : Int) ≤ (x.pd.text.size : Int) - x.pd.laid by omega)
  omega
 ·split
  ·split <;> omega
  ·omega
theorem phi_come (x : DialV) (h : DialOk x) (tt : Nat) (ht : tt ≤ x.p.ops.length) : phi (x.come tt) ≤ 2 * ((x.p.jumps - x.jumps) * Tot x) + 2 * Arest x tt + x.R.length := by
 obtain ⟨e1, e2, e3, e4, e5, e6, e7⟩ := come_f x tt
 have hT : Tot (x.come tt) = Tot x := by unfold Tot; rw [e4, e5]
 have hA : ∀ k, Arest (x.come tt) k = Arest x k := fun k => by unfold Arest; rw [hT, e4, e5]
 unfold phi
 rw [e1, e3, e5, e6, hT, hA]
 have hb := arest_bd x h tt
 have ho := (goodS_bd h.good).2.2.1.1
 split
 ·rename_i hl
  have hop : (x.come tt).op = x.p.ops[tt] := by
   rw [opAt' (x.come tt) (by rw [e1, e5]; exact hl)]
   simp only [e1, e5]
  have hE := (good_ops h.pgood).2.2 _ (List.getElem_mem hl)
  have hs := opSteps_le ho hE
  have hc : cLeft (x.come tt) ≤ 2 * opSteps x.s.out x.p.ops[tt] := by
   unfold cLeft
   rw [e4]
   split
   ·rename_i hk
    have hk' : (x.goes tt).op.kind = 1 := (enters_op (x.goes tt)) ▸ hk
    have hp := enters_pd (x.goes tt) hk'
    have hp1 : (x.come tt).pd.text = (x.come tt).op.text := by rw [show (x.come tt).op = (x.goes tt).op from enters_op _]; exact hp.1
    have hp2 : (x.come tt).pd.laid = 0 := hp.2
    rw [hp1, hp2, hop, opSteps_cI ho hE]
    rw [opSteps_cI ho hE] at hs
    simp only [Int.natCast_zero, Int.sub_zero]
    omega
   ·split
    ·split <;> omega
    ·omega
  have := arest_succ x tt hl
  omega
 ·omega
theorem phi_jump (x : DialV) (h : DialOk x) (hj : x.jumps + 1 ≤ 2000) (tt : Nat) (ht : tt ≤ x.p.ops.length) : phi (x.hop.come tt) ≤ 2 * ((x.p.jumps - x.jumps) * Tot x) + x.R.length := by
 have hh : DialOk x.hop := ⟨h.good, h.pgood, h.pok, h.loc, h.st, hj, h.til, h.lim, h.cut, h.now⟩
 have h1 := phi_come x.hop hh tt ht
 have h2 := arest_bd x.hop hh tt
 have e1 : Tot x.hop = Tot x := rfl
 have e2 : x.hop.R = x.R := rfl
 have e3 : (x.hop.p.jumps - (x.hop.jumps : Int)) * Tot x.hop = (x.p.jumps - x.jumps) * Tot x - Tot x := by
  show (x.p.jumps - ((x.jumps + 1 : Nat) : Int)) * Tot x = _
  rw [show x.p.jumps - ((x.jumps + 1 : Nat) : Int) = (x.p.jumps - x.jumps) - 1 by omega, Int.sub_mul, Int.one_mul]
 rw [e3, e2] at h1
 rw [e1] at h2
 omega
def Moves (x y : DialV) (what : Nat) : Prop := y.st ≠ 0 ∨ (((what = 1 ∨ what = 5) ∧ y.loc = x.loc ∧ y.st = 0) ∧ phi y + 1 ≤ phi x) ∨ ((y.loc : Int) ∈ nxM x.p.ops x.loc ∧ y.st = 0 ∧ phi y + 1 ≤ phi x)
theorem mem_nx {ops : List OpV} {a t : Int} (h : t ∈ rawM ops a) (h0 : 0 ≤ t) : t ∈ nxM ops a := (mem_adds _ _ _).2 (.inl ⟨h, h0⟩)
theorem phi_low (x : DialV) (h : DialOk x) (hi : FlI x) (h0 : x.st = 0) (hl : x.loc < x.p.ops.length) : 2 * ((x.p.jumps - x.jumps) * Tot x) + 1 + 2 * Arest x (x.loc + 1) + x.R.length ≤ phi x := by
 have := cLeft_pos x h hi h0
 unfold phi; rw [if_pos hl]; omega
theorem jump_moves (x z : DialV) (what : Nat) (t : Int) (h : DialOk x) (hi : FlI x) (h0 : x.st = 0) (hl : x.loc < x.p.ops.length) (hz : z.s = x.s ∧ z.p = x.p ∧ z.jumps = x.jumps ∧ z.st = x.st ∧ z.R.length ≤ x.R.length) (hzo : DialOk z) (ht : t ≤ x.p.ops.length) (hm : t ∈ rawM x.p.ops x.loc) :
  Moves x (z.jump what t).1 (z.jump what t).2 := by
 obtain ⟨e1, e2, e3, e4, e5⟩ := hz
 have hjm := (good_ops h.pgood).1
 have hji := hi.jum
 unfold DialV.jump
 split
 ·exact .inl (by show (2 : Nat) ≠ 0; omega)
 ·split
  ·exact .inl (by show (2 : Nat) ≠ 0; omega)
  ·rename_i ht0 hj
   right; right
   obtain ⟨f1, f2, f3, f4, f5, f6, f7⟩ := come_f z.hop t.toNat
   have hp := phi_jump z hzo (by rw [e2, e3] at hj; omega) t.toNat (by rw [e2]; omega)
   have hb := phi_low x h hi h0 hl
   have ha := arest_bd x h (x.loc + 1)
   have hT : Tot z = Tot x := by unfold Tot; rw [e1, e2]
   rw [hT, e2, e3] at hp
   refine ⟨?_, by show (z.hop.come t.toNat).st = 0; rw [f2]; exact e4.trans h0, by show phi (z.hop.come t.toNat) + 1 ≤ phi x; omega⟩
   show (((z.hop.come t.toNat).loc : Nat) : Int) ∈ _
   rw [f1, Int.toNat_of_nonneg (by omega)]
   exact mem_nx hm (by omega)
theorem does_moves (x : DialV) (h : DialOk x) (hf : Fit x) (hi : FlI x) (h0 : x.st = 0) (hr : x.readyM x.now = true) : Moves x x.does.1 x.does.2.1 := by
 have ho := (goodS_bd h.good).2.2.1.1
 unfold DialV.does
 split
 ·rename_i hov; exact .inl hov
 rename_i hov
 have hR : ∀ k : Int, x.op.kind = k → k ≠ 0 → x.loc < x.p.ops.length := fun k hk hk0 => op_lt x (by omega)
 have hraw : ∀ (hl : x.loc < x.p.ops.length), rawM x.p.ops x.loc = if x.op.kind = 1 ∨ x.op.kind = 4 then [(x.loc : Int) + 1] else if x.op.kind = 3 then [x.op.tt] else if x.op.kind = 2 then x.op.arms.map ArmV.tt ++ [x.op.onT, x.op.onE] else [] := fun hl => by
  rw [rawM_at x.p.ops x.loc hl, opAt' x hl]
 have hgo : ∀ (hl : x.loc < x.p.ops.length) (what : Nat), (x.op.kind = 1 ∨ x.op.kind = 4) → Moves x (x.come (x.loc + 1)) what := fun hl what hk => by
  right; right
  obtain ⟨f1, f2, f3, f4, f5, f6, f7⟩ := come_f x (x.loc + 1)
  have hp := phi_come x h (x.loc + 1) (by omega)
  have hb := phi_low x h hi h0 hl
  refine ⟨?_, by rw [f2]; exact h0, by omega⟩
  rw [f1]
  refine mem_nx ?_ (by omega)
  rw [hraw hl, if_pos hk]; simp
 split
 ·rename_i hk
  have hl := hR 1 hk (by omega)
  unfold DialV.send
  split
  ·rename_i hlt
   right; left
   obtain ⟨ht, hle⟩ := hi.text h0 hk
   have hsent : x.pd.laid = x.pd.sent := by
    unfold DialV.readyM at hr
    rw [if_neg hov, if_pos hk] at hr
    simpa using hr
   refine ⟨⟨.inr rfl, rfl, h0⟩, ?_⟩
   show phi x.lays + 1 ≤ phi x
   have hn : x.pd.loadN = min (x.pd.text.size - x.pd.laid) x.pd.out := by unfold PendV.loadN; rw [if_neg (by omega)]
   have hc := cI_pos (out := x.s.out) ho (show (0 : Int) < (x.pd.text.size : Int) - x.pd.laid by omega)
   have hc2 : cI x.s.out ((x.pd.text.size : Int) - ((x.pd.laid + x.pd.loadN : Nat) : Int)) = cI x.s.out ((x.pd.text.size : Int) - x.pd.laid - x.s.out) := by
    rw [hn]
    have hou := hi.out
    by_cases hcmp : x.pd.text.size - x.pd.laid ≤ x.pd.out
    ·rw [Nat.min_eq_left hcmp]
     unfold cI
     rw [if_pos (by omega), if_pos (by omega)]
    ·rw [Nat.min_eq_right (by omega)]
     congr 1; omega
   unfold phi
   have e1 : Tot x.lays = Tot x := rfl
   have e6 : Arest x (x.lays.loc + 1) = Arest x (x.loc + 1) := rfl
   have e2 : ∀ k, Arest x.lays k = Arest x k := fun _ => rfl
   have e3 : cLeft x.lays = cI x.s.out ((x.pd.text.size : Int) - ((x.pd.laid + x.pd.loadN : Nat) : Int)) + 1 := by unfold cLeft; rw [if_pos (show x.lays.op.kind = 1 from hk)]; rfl
   have e4 : cLeft x = cI x.s.out ((x.pd.text.size : Int) - x.pd.laid) + 1 := by unfold cLeft; rw [if_pos hk]
   rw [e1, e2, e3, e4, hc2]
   show 2 * ((x.p.jumps - x.jumps) * Tot x) + (if x.loc < x.p.ops.length then _ else 1) + (x.R.length : Int) + 1 ≤ _
   rw [if_pos hl, if_pos hl]
   omega
  ·exact hgo hl 6 (.inl hk)
 split
 ·rename_i hk1 hk
  have hl := hR 2 hk (by omega)
  obtain ⟨hLR, hLs, hLn⟩ := look_all x.s.win.toNat x.P x.S x.seen x.R hi.seen
  have hLa := look_arm x.s.win.toNat x.P x.S x.seen x.R
  have htg := op_tgts x h hk
  unfold DialV.look
  obtain ⟨L, hL⟩ : ∃ L, lookM x.s.win.toNat x.P x.S x.seen x.R = L := ⟨_, rfl⟩
  rw [hL] at hLR hLs hLn hLa ⊢
  have hzo : DialOk (x.looked L) := ⟨h.good, h.pgood, h.pok, h.loc, h.st, h.jumps, h.til, h.lim, h.cut, h.now⟩
  have hz : (x.looked L).s = x.s ∧ (x.looked L).p = x.p ∧ (x.looked L).jumps = x.jumps ∧ (x.looked L).st = x.st ∧ (x.looked L).R.length ≤ x.R.length := ⟨rfl, rfl, rfl, rfl, hLR⟩
  have hr2 : rawM x.p.ops x.loc = x.op.arms.map ArmV.tt ++ [x.op.onT, x.op.onE] := by rw [hraw hl, if_neg (by omega), if_neg (by omega), if_pos hk]
  simp only
  split
  ·rename_i hm
   have ha : L.arm < x.op.arms.length := by rw [← hf.1 h0 hk]; exact hLa hm
   refine jump_moves x (x.looked L) 2 _ h hi h0 hl hz hzo (htg.1 _) ?_
   rw [hr2, List.getD_eq_getElem?_getD, List.getElem?_eq_getElem ha]
   exact List.mem_append_left _ (List.mem_map.2 ⟨_, List.getElem_mem ha, rfl⟩)
  ·split
   ·exact .inl (by show (4 : Nat) ≠ 0; omega)
   ·split
    ·exact jump_moves x (x.looked L) 4 _ h hi h0 hl hz hzo htg.2.2 (by rw [hr2]; simp)
    ·split
     ·exact jump_moves x (x.looked L) 3 _ h hi h0 hl hz hzo htg.2.1 (by rw [hr2]; simp)
     ·rename_i hm hfu hef hdu
      right; left
      refine ⟨⟨.inl rfl, rfl, h0⟩, ?_⟩
      show phi (x.looked L) + 1 ≤ phi x
      obtain ⟨hR0, hS0⟩ := hLn (by simpa using hm) (by simpa using hfu)
      unfold DialV.readyM at hr
      rw [if_neg hov, if_neg hk1, if_pos hk] at hr
      have hwait : x.seen < x.S.length ∨ 0 < x.R.length := by
       simp only [Bool.or_eq_true, decide_eq_true_eq, Bool.not_eq_true', hef, hdu] at hr
       rcases hr with ((h1 | h1) | h1) | h1
       ·exact .inl h1
       ·right
        cases hx : x.R with
        | nil => rw [hx] at h1; simp at h1
        | cons a b => simp
       ·simp at h1
       ·simp at h1
      unfold phi
      have e1 : Tot (x.looked L) = Tot x := rfl
      have e6 : Arest x ((x.looked L).loc + 1) = Arest x (x.loc + 1) := rfl
      have e2 : ∀ k, Arest (x.looked L) k = Arest x k := fun _ => rfl
      have e3 : cLeft (x.looked L) = 1 := by
       unfold cLeft
       rw [if_neg (show ¬ (x.looked L).op.kind = 1 from hk1), if_pos (show (x.looked L).op.kind = 2 from hk), if_neg (show ¬ (x.looked L).seen < (x.looked L).S.length by show ¬ L.seen < L.S.length; omega)]
      have e4 : cLeft x = if x.seen < x.S.length then 2 else 1 := by unfold cLeft; rw [if_neg hk1, if_pos hk]
      rw [e1, e2, e3, e4]
      show 2 * ((x.p.jumps - x.jumps) * Tot x) + (if x.loc < x.p.ops.length then _ else 1) + (L.R.length : Int) + 1 ≤ _
      rw [if_pos hl, if_pos hl, hR0]
      simp only [List.length_nil]
      split <;> omega
 split
 ·rename_i hk1 hk2 hk
  have hl := hR 3 hk (by omega)
  exact jump_moves x x 7 _ h hi h0 hl ⟨rfl, rfl, rfl, rfl, Nat.le_refl _⟩ h (op_goto x h hk) (by rw [hraw hl, if_neg (by omega), if_pos hk]; simp)
 split
 ·rename_i hk1 hk2 hk3 hk
  exact hgo (hR 4 hk (by omega)) 8 (.inr hk)
 split
 ·exact .inl (by show (2 : Nat) ≠ 0; omega)
 ·exact .inl (by show (1 : Nat) ≠ 0; omega)
end Go.Proofs.YtpkkfdmhbbipoaaGreat
