/- What a dialogue sends, in plain Lean: what was taken is the texts sent, then a head of the op's text. Plain law of FlowBounds and FlowOnce: what a step does to where a dialogue is, and to how many steps are left. No program in sight. -/
import Derived.Test.YtpkkfdmhbbipoaaGreatDk
import Derived.Test.YtpkkfdmhbbipoaaGreatFg
namespace Go.Proofs.YtpkkfdmhbbipoaaGreat
open Go.RowKit PopT
theorem Zpn (x : Zb) : x.enters.p = x.p := by unfold Zb.enters; (repeat' split) <;> rfl
theorem Zjh (x : Zb) (tt : Nat) : (x.come tt).p = x.p := Zpn _
theorem Zf5 (x : Zb) (what : Nat) (tt : Int) : (x.jump what tt).1.p = x.p := by
 unfold Zb.jump;split
 ·rfl
 ·split
  ·rfl
  ·exact Zjh _ _
theorem Zrj (x : Zb) : x.look.1.p = x.p := by
 unfold Zb.look;simp only;split
 ·exact Zf5 _ _ _
 ·split
  ·rfl
  ·split
   ·exact Zf5 _ _ _
   ·split
    ·exact Zf5 _ _ _
    ·rfl
theorem Zrm (x : Zb) : x.does.1.p = x.p := by
 unfold Zb.does;split
 ·rfl
 ·split
  ·unfold Zb.send; split
   ·rfl
   ·exact Zjh _ _
  ·split
   ·exact Zrj _
   ·split
    ·exact Zf5 _ _ _
    ·split
     ·exact Zjh _ _
     ·split <;> rfl
structure Zr8 (x : Zb) (sent part : ByteArray) : Prop where
 rest : part.size ≠ 0 → x.loc < x.p.ops.length ∧ part.size ≤ x.op.text.size ∧ x.op.text.extract 0 part.size = part
 sends : x.st = 0 → x.op.kind = 1 → x.pd.text = x.op.text ∧ part = x.pd.text.extract 0 x.pd.sent
 none : x.st = 0 → x.op.kind ≠ 1 → part.size = 0 ∧ x.pd.sent = x.pd.laid
/-! ### A look -/
theorem Zkh (win : Nat) (ls : List (List Zl)) : ∀ (n : Nat) (S : List UInt8) (seen : Nat) (R : List UInt8) (rd : Nat), seen ≤ S.length → R.length + (S.length - seen) + 1 ≤ n →
  (Xv win ls n S seen R rd).R.length ≤ R.length ∧ (Xv win ls n S seen R rd).seen ≤ (Xv win ls n S seen R rd).S.length ∧
  ((Xv win ls n S seen R rd).mtch = false → (Xv win ls n S seen R rd).full = false → (Xv win ls n S seen R rd).R = [] ∧ (Xv win ls n S seen R rd).seen = (Xv win ls n S seen R rd).S.length) := by
 intro n
 induction n with
 | zero => intro S seen R rd _ h; omega
 | succ n ih =>
  intro S seen R rd hs hn;unfold Xv;split
  ·rename_i h
   exact ⟨Nat.le_refl _, hs, fun _ _ => ⟨h.2, h.1⟩⟩
  ·rename_i h1
   split
   ·exact ⟨Nat.le_refl _, hs, fun _ h => ck⟩
   ·by_cases he : seen = S.length
    ·have hR : R ≠ [] := fun h => h1 ⟨he, h⟩
     have hRl : 0 < R.length := List.length_pos_iff.2 hR;have hl : (S ++ R.take 1).length = S.length + 1 := by rw [List.length_append, List.length_take]; omega
     have hd : (R.drop 1).length = R.length - 1 := ae
     simp only [if_pos he];split
     ·exact ⟨ae, Nat.zero_le _, fun h => ck⟩
     ·obtain ⟨a, b, c⟩ := ih (S ++ R.take 1) (seen + 1) (R.drop 1) (rd + 1) aa aa
      exact ⟨aa, b, c⟩
    ·simp only [if_neg he]
     split
     ·exact ⟨Nat.le_refl _, Nat.zero_le _, fun h => ck⟩
     ·exact ih S (seen + 1) R rd aa aa
theorem Zhu (win : Nat) (ls : List (List Zl)) (S : List UInt8) (seen : Nat) (R : List UInt8) (hs : seen ≤ S.length) : (Ve win ls S seen R).R.length ≤ R.length ∧ (Ve win ls S seen R).seen ≤ (Ve win ls S seen R).S.length ∧
  ((Ve win ls S seen R).mtch = false → (Ve win ls S seen R).full = false → (Ve win ls S seen R).R = [] ∧ (Ve win ls S seen R).seen = (Ve win ls S seen R).S.length) :=
 Zkh win ls _ S seen R 0 hs (Nat.le_refl _)
/-! ### What is left -/
structure FlI (x : Zb) : Prop where
 text : x.st = 0 → x.op.kind = 1 → x.pd.text = x.op.text ∧ x.pd.laid ≤ x.pd.text.size
 out : (x.pd.out : Int) = x.s.out
 seen : x.seen ≤ x.S.length
 jum : (x.jumps : Int) ≤ x.p.jumps
def Tot (x : Zb) : Int := Qo x.s.out x.p.ops
def Uo (x : Zb) (k : Nat) : Int := Tot x + 1 - Qo x.s.out (x.p.ops.take k)
def Ka (x : Zb) : Int := if x.op.kind = 1 then cI x.s.out ((x.pd.text.size : Int) - x.pd.laid) + 1 else if x.op.kind = 2 then (if x.seen < x.S.length then 2 else 1) else 1
def phi (x : Zb) : Int := 2 * ((x.p.jumps - x.jumps) * Tot x) + (if x.loc < x.p.ops.length then Ka x + 2 * Uo x (x.loc + 1) else 1) + x.R.length
theorem Zhz (x : Zb) : x.enters.loc = x.loc ∧ x.enters.st = x.st ∧ x.enters.jumps = x.jumps ∧ x.enters.s = x.s ∧ x.enters.p = x.p ∧ x.enters.R = x.R ∧ x.enters.pd.out = x.pd.out := by
 unfold Zb.enters
 (repeat' split) <;> exact ⟨rfl, rfl, rfl, rfl, rfl, rfl, rfl⟩
theorem Zds (x : Zb) (tt : Nat) : (x.come tt).loc = tt ∧ (x.come tt).st = x.st ∧ (x.come tt).jumps = x.jumps ∧ (x.come tt).s = x.s ∧ (x.come tt).p = x.p ∧ (x.come tt).R = x.R ∧ (x.come tt).pd.out = x.pd.out := Zhz _
theorem Zrc (s : Vk) (p : Zv) (hs : 1 ≤ s.out) (hg : Kc p) (k : Nat) : 1 ≤ Qo s.out (p.ops.take k) := (Zdi hs hg k).1
theorem Zmc {out : Int} {p : Zv} (ho : 1 ≤ out) (h : Kc p) (k : Nat) : Qo out (p.ops.take k) ≤ Qo out p.ops := by
 have key : ∀ d, Qo out (p.ops.take k) ≤ Qo out (p.ops.take (k + d)) := by
  intro d
  induction d with
  | zero => exact Int.le_refl _
  | succ d ih =>
   by_cases hi : k + d < p.ops.length
   ·have := Mv out p.ops (k + d) hi
    have h2 := Za3 ho ((Wc h).2.2 _ (List.getElem_mem hi));rw [show k + (d + 1) = k + d + 1 by omega];omega
   ·have e1 : p.ops.take (k + (d + 1)) = p.ops := List.take_of_length_le aa
    have e2 : p.ops.take (k + d) = p.ops := List.take_of_length_le aa;rw [e1]; rw [e2] at ih; exact ih
 have := key p.ops.length;have e : p.ops.take (k + p.ops.length) = p.ops := List.take_of_length_le aa;rwa [e] at this
theorem Gk (x : Zb) (h : Ye x) (k : Nat) : 1 ≤ Uo x k ∧ Uo x k ≤ Tot x := by
 have ho := (Vs h.good).2.2.1.1;have h1 := Zrc x.s x.p ho h.pgood k;have h2 := Zmc ho h.pgood k;unfold Uo Tot; omega
theorem Zlk (x : Zb) (k : Nat) (hk : k < x.p.ops.length) : Uo x k = Jo x.s.out x.p.ops[k] + Uo x (k + 1) := by
 unfold Uo;rw [Mv x.s.out x.p.ops k hk]; omega
theorem Zq2 (x : Zb) (h : x.loc < x.p.ops.length) : x.op = x.p.ops[x.loc] := by
 unfold Zb.op;rw [List.getD_eq_getElem?_getD, List.getElem?_eq_getElem h]; rfl
theorem My (x : Zb) : x.enters.op = x.op := by unfold Zb.enters; (repeat' split) <;> rfl
theorem Zfx (x : Zb) (h : x.op.kind = 1) : x.enters.pd.text = x.op.text ∧ x.enters.pd.laid = 0 := by
 unfold Zb.enters;rw [if_pos h]; exact ⟨rfl, rfl⟩
theorem Zny (x : Zb) (h : Ye x) (hi : FlI x) (h0 : x.st = 0) : 1 ≤ Ka x := by
 unfold Ka;have ho := (Vs h.good).2.2.1.1;split
 ·rename_i hk
  have := hi.text h0 hk;have := Zr1 (out := x.s.out) ho (show (0 : Int) ≤ (x.pd.text.size : Int) - x.pd.laid by omega);omega
 ·split
  ·split <;> omega
  ·omega
theorem Zdv (x : Zb) (h : Ye x) (tt : Nat) (ht : tt ≤ x.p.ops.length) : phi (x.come tt) ≤ 2 * ((x.p.jumps - x.jumps) * Tot x) + 2 * Uo x tt + x.R.length := by
 obtain ⟨e1, e2, e3, e4, e5, e6, e7⟩ := Zds x tt;have hT : Tot (x.come tt) = Tot x := by unfold Tot; rw [e4, e5]
 have hA : ∀ k, Uo (x.come tt) k = Uo x k := fun k => by unfold Uo; rw [hT, e4, e5]
 unfold phi;rw [e1, e3, e5, e6, hT, hA];have hb := Gk x h tt;have ho := (Vs h.good).2.2.1.1;split
 ·rename_i hl
  have hop : (x.come tt).op = x.p.ops[tt] := by
   rw [Zq2 (x.come tt) (by rw [e1, e5]; exact hl)];simp only [e1, e5]
  have hE := (Wc h.pgood).2.2 _ (List.getElem_mem hl);have hs := Za3 ho hE
  have hc : Ka (x.come tt) ≤ 2 * Jo x.s.out x.p.ops[tt] := by
   unfold Ka;rw [e4];split
   ·rename_i hk
    have hk' : (x.goes tt).op.kind = 1 := (My (x.goes tt)) ▸ hk;have hp := Zfx (x.goes tt) hk';have hp1 : (x.come tt).pd.text = (x.come tt).op.text := ip
    have hp2 : (x.come tt).pd.laid = 0 := hp.2;rw [hp1, hp2, hop, Zee ho hE];rw [Zee ho hE] at hs;simp only [Int.natCast_zero, Int.sub_zero];omega
   ·split
    ·split <;> omega
    ·omega
  have := Zlk x tt hl;omega
 ·omega
theorem Zoo (x : Zb) (h : Ye x) (hj : x.jumps + 1 ≤ 2000) (tt : Nat) (ht : tt ≤ x.p.ops.length) : phi (x.hop.come tt) ≤ 2 * ((x.p.jumps - x.jumps) * Tot x) + x.R.length := by
 have hh : Ye x.hop := ⟨h.good, h.pgood, h.pok, h.loc, h.st, hj, h.til, h.lim, h.cut, h.now⟩;have h1 := Zdv x.hop hh tt ht;have h2 := Gk x.hop hh tt;have e1 : Tot x.hop = Tot x := rfl;have e2 : x.hop.R = x.R := rfl
 have e3 : (x.hop.p.jumps - (x.hop.jumps : Int)) * Tot x.hop = (x.p.jumps - x.jumps) * Tot x - Tot x := by
  show (x.p.jumps - ((x.jumps + 1 : Nat) : Int)) * Tot x = _;rw [show x.p.jumps - ((x.jumps + 1 : Nat) : Int) = (x.p.jumps - x.jumps) - 1 by omega, Int.sub_mul, Int.one_mul]
 rw [e3, e2] at h1;rw [e1] at h2;omega
def Zhc (x y : Zb) (what : Nat) : Prop := y.st ≠ 0 ∨ (((what = 1 ∨ what = 5) ∧ y.loc = x.loc ∧ y.st = 0) ∧ phi y + 1 ≤ phi x) ∨ ((y.loc : Int) ∈ nxM x.p.ops x.loc ∧ y.st = 0 ∧ phi y + 1 ≤ phi x)
theorem Zn7 {ops : List OpV} {a t : Int} (h : t ∈ Zb5 ops a) (h0 : 0 ≤ t) : t ∈ nxM ops a := (Gg _ _ _).2 (.inl ⟨h, h0⟩)
theorem Zf7 (x : Zb) (h : Ye x) (hi : FlI x) (h0 : x.st = 0) (hl : x.loc < x.p.ops.length) : 2 * ((x.p.jumps - x.jumps) * Tot x) + 1 + 2 * Uo x (x.loc + 1) + x.R.length ≤ phi x := by
 have := Zny x h hi h0;unfold phi; rw [if_pos hl]; omega
theorem Gx (x z : Zb) (what : Nat) (t : Int) (h : Ye x) (hi : FlI x) (h0 : x.st = 0) (hl : x.loc < x.p.ops.length) (hz : z.s = x.s ∧ z.p = x.p ∧ z.jumps = x.jumps ∧ z.st = x.st ∧ z.R.length ≤ x.R.length) (hzo : Ye z) (ht : t ≤ x.p.ops.length) (hm : t ∈ Zb5 x.p.ops x.loc) :
  Zhc x (z.jump what t).1 (z.jump what t).2 := by
 obtain ⟨e1, e2, e3, e4, e5⟩ := hz;have hjm := (Wc h.pgood).1;have hji := hi.jum;unfold Zb.jump;split
 ·exact .inl ir
 ·split
  ·exact .inl ir
  ·rename_i ht0 hj
   right; right;obtain ⟨f1, f2, f3, f4, f5, f6, f7⟩ := Zds z.hop t.toNat;have hp := Zoo z hzo (by rw [e2, e3] at hj; omega) t.toNat (by rw [e2]; omega);have hb := Zf7 x h hi h0 hl;have ha := Gk x h (x.loc + 1);have hT : Tot z = Tot x := by unfold Tot; rw [e1, e2]
   rw [hT, e2, e3] at hp;refine ⟨?_, by show (z.hop.come t.toNat).st = 0; rw [f2]; exact e4.trans h0, by show phi (z.hop.come t.toNat) + 1 ≤ phi x; omega⟩;show (((z.hop.come t.toNat).loc : Nat) : Int) ∈ _;rw [f1, Int.toNat_of_nonneg aa];exact Zn7 hm aa
theorem Zk7 (x : Zb) (h : Ye x) (hf : Fit x) (hi : FlI x) (h0 : x.st = 0) (hr : x.readyM x.now = true) : Zhc x x.does.1 x.does.2.1 := by
 have ho := (Vs h.good).2.2.1.1;unfold Zb.does;split
 ·rename_i hov; exact .inl hov
 rename_i hov
 have hR : ∀ k : Int, x.op.kind = k → k ≠ 0 → x.loc < x.p.ops.length := fun k hk hk0 => Zbc x aa
 have hraw : ∀ (hl : x.loc < x.p.ops.length), Zb5 x.p.ops x.loc = if x.op.kind = 1 ∨ x.op.kind = 4 then [(x.loc : Int) + 1] else if x.op.kind = 3 then [x.op.tt] else if x.op.kind = 2 then x.op.arms.map Xu.tt ++ [x.op.onT, x.op.onE] else [] := fun hl => by
  rw [Zlu x.p.ops x.loc hl, Zq2 x hl]
 have hgo : ∀ (hl : x.loc < x.p.ops.length) (what : Nat), (x.op.kind = 1 ∨ x.op.kind = 4) → Zhc x (x.come (x.loc + 1)) what := fun hl what hk => by
  right; right;obtain ⟨f1, f2, f3, f4, f5, f6, f7⟩ := Zds x (x.loc + 1);have hp := Zdv x h (x.loc + 1) aa;have hb := Zf7 x h hi h0 hl;refine ⟨?_, by rw [f2]; exact h0, aa⟩;rw [f1];refine Zn7 ?_ aa;rw [hraw hl, if_pos hk]; simp
 split
 ·rename_i hk
  have hl := hR 1 hk aa;unfold Zb.send;split
  ·rename_i hlt
   right; left;obtain ⟨ht, hle⟩ := hi.text h0 hk
   have hsent : x.pd.laid = x.pd.sent := by
    unfold Zb.readyM at hr;rw [if_neg hov, if_pos hk] at hr;simpa using hr
   refine ⟨⟨.inr rfl, rfl, h0⟩, ?_⟩;show phi x.lays + 1 ≤ phi x;have hn : x.pd.loadN = min (x.pd.text.size - x.pd.laid) x.pd.out := by unfold Xk.loadN; rw [if_neg aa]
   have hc := Zro (out := x.s.out) ho (show (0 : Int) < (x.pd.text.size : Int) - x.pd.laid by omega)
   have hc2 : cI x.s.out ((x.pd.text.size : Int) - ((x.pd.laid + x.pd.loadN : Nat) : Int)) = cI x.s.out ((x.pd.text.size : Int) - x.pd.laid - x.s.out) := by
    rw [hn];have hou := hi.out;by_cases hcmp : x.pd.text.size - x.pd.laid ≤ x.pd.out
    ·rw [Nat.min_eq_left hcmp]
     unfold cI;rw [if_pos aa, if_pos aa]
    ·rw [Nat.min_eq_right aa]
     congr 1; omega
   unfold phi;have e1 : Tot x.lays = Tot x := rfl;have e6 : Uo x (x.lays.loc + 1) = Uo x (x.loc + 1) := rfl;have e2 : ∀ k, Uo x.lays k = Uo x k := fun _ => rfl;have e3 : Ka x.lays = cI x.s.out ((x.pd.text.size : Int) - ((x.pd.laid + x.pd.loadN : Nat) : Int)) + 1 := by unfold Ka; rw [if_pos (show x.lays.op.kind = 1 from hk)]; rfl
   have e4 : Ka x = cI x.s.out ((x.pd.text.size : Int) - x.pd.laid) + 1 := by unfold Ka; rw [if_pos hk]
   rw [e1, e2, e3, e4, hc2];show 2 * ((x.p.jumps - x.jumps) * Tot x) + (if x.loc < x.p.ops.length then _ else 1) + (x.R.length : Int) + 1 ≤ _;rw [if_pos hl, if_pos hl];omega
  ·exact hgo hl 6 (.inl hk)
 split
 ·rename_i hk1 hk
  have hl := hR 2 hk aa;obtain ⟨hLR, hLs, hLn⟩ := Zhu x.s.win.toNat x.P x.S x.seen x.R hi.seen;have hLa := Zht x.s.win.toNat x.P x.S x.seen x.R;have htg := Zf8 x h hk;unfold Zb.look;obtain ⟨L, hL⟩ := nE (Ve x.s.win.toNat x.P x.S x.seen x.R);rw [hL] at hLR hLs hLn hLa ⊢;have hzo : Ye (x.looked L) := ⟨h.good, h.pgood, h.pok, h.loc, h.st, h.jumps, h.til, h.lim, h.cut, h.now⟩;have hz : (x.looked L).s = x.s ∧ (x.looked L).p = x.p ∧ (x.looked L).jumps = x.jumps ∧ (x.looked L).st = x.st ∧ (x.looked L).R.length ≤ x.R.length := ⟨rfl, rfl, rfl, rfl, hLR⟩;have hr2 : Zb5 x.p.ops x.loc = x.op.arms.map Xu.tt ++ [x.op.onT, x.op.onE] := by rw [hraw hl, if_neg aa, if_neg aa, if_pos hk]
  simp only;split
  ·rename_i hm
   have ha : L.arm < x.op.arms.length := by rw [← hf.1 h0 hk]; exact hLa hm
   refine Gx x (x.looked L) 2 _ h hi h0 hl hz hzo (htg.1 _) ?_;rw [hr2, List.getD_eq_getElem?_getD, List.getElem?_eq_getElem ha];exact List.mem_append_left _ (List.mem_map.2 ⟨_, List.getElem_mem ha, rfl⟩)
  ·split
   ·exact .inl (by show (4 : Nat) ≠ 0; omega)
   ·split
    ·exact Gx x (x.looked L) 4 _ h hi h0 hl hz hzo htg.2.2 (by rw [hr2]; simp)
    ·split
     ·exact Gx x (x.looked L) 3 _ h hi h0 hl hz hzo htg.2.1 (by rw [hr2]; simp)
     ·rename_i hm hfu hef hdu
      right; left;refine ⟨⟨.inl rfl, rfl, h0⟩, ?_⟩;show phi (x.looked L) + 1 ≤ phi x;obtain ⟨hR0, hS0⟩ := hLn (by simpa using hm) (by simpa using hfu);unfold Zb.readyM at hr;rw [if_neg hov, if_neg hk1, if_pos hk] at hr
      have hwait : x.seen < x.S.length ∨ 0 < x.R.length := by
       simp only [Bool.or_eq_true, decide_eq_true_eq, Bool.not_eq_true', hef, hdu] at hr;rcases hr with ((h1 | h1) | h1) | h1
       ·exact .inl h1
       ·right
        cases hx : x.R with
        | nil => rw [hx] at h1; simp at h1
        | cons a b => simp
       ·simp at h1
       ·simp at h1
      unfold phi;have e1 : Tot (x.looked L) = Tot x := rfl;have e6 : Uo x ((x.looked L).loc + 1) = Uo x (x.loc + 1) := rfl;have e2 : ∀ k, Uo (x.looked L) k = Uo x k := fun _ => rfl
      have e3 : Ka (x.looked L) = 1 := by
       unfold Ka;rw [if_neg (show ¬ (x.looked L).op.kind = 1 from hk1), if_pos (show (x.looked L).op.kind = 2 from hk), if_neg (show ¬ (x.looked L).seen < (x.looked L).S.length by show ¬ L.seen < L.S.length; omega)]
      have e4 : Ka x = if x.seen < x.S.length then 2 else 1 := by unfold Ka; rw [if_neg hk1, if_pos hk]
      rw [e1, e2, e3, e4];show 2 * ((x.p.jumps - x.jumps) * Tot x) + (if x.loc < x.p.ops.length then _ else 1) + (L.R.length : Int) + 1 ≤ _;rw [if_pos hl, if_pos hl, hR0];simp only [List.length_nil];split <;> omega
 split
 ·rename_i hk1 hk2 hk
  have hl := hR 3 hk aa;exact Gx x x 7 _ h hi h0 hl ⟨rfl, rfl, rfl, rfl, Nat.le_refl _⟩ h (Zf9 x h hk) (by rw [hraw hl, if_neg aa, if_pos hk]; simp)
 split
 ·rename_i hk1 hk2 hk3 hk
  exact hgo (hR 4 hk aa) 8 (.inr hk)
 split
 ·exact .inl ir
 ·exact .inl (by show (1 : Nat) ≠ 0; omega)
end Go.Proofs.YtpkkfdmhbbipoaaGreat
