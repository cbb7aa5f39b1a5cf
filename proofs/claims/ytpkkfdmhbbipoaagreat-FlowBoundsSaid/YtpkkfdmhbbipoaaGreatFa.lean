/- append of what may be read, or of nothing. No program in sight. Plain law of layer 24 (flow): numbers that rise; where a script may go; what is reached. No program in sight. The shelf's layings at this program (numbers of this seat). -/
import Derived.Test.YtpkkfdmhbbipoaaGreatDe
import Derived.Test.YtpkkfdmhbbipoaaGreatMa
import Derived.Test.YtpkkfdmhbbipoaaGreatPc
import Derived.Lib.SlicesCompact
import Derived.Shelf.SlicesE.DeleteFunc
import Derived.Shelf.Sort.Plain
import Derived.Shelf.Slices.CompactI
import Derived.Shelf.Small.Bits
namespace Go.Proofs.YtpkkfdmhbbipoaaGreat
open Go.RowKit
theorem Zi5 {P : Program} (w : World) (t ty e : TypeId) (i : TypeInfo) (ht : P.underlying t = some (.slice e)) (hi : P.info? e = some i) (A : Option Addr) (n c : Nat) (hA : A = none → n = 0 ∧ c = 0) (hn : n ≤ c) :
  (Builtin.append_ #[t, t] ty #[.slice A n c, .slice none 0 0]).run P w = .ok (.slice A n c) w := by
 cases A with
 | none =>
  obtain ⟨rfl, rfl⟩ := hA rfl;simp [Builtin.append_, run_underlying ht, sizeOf, typeInfo, hi, Builtin.lenOf, Builtin.firstCells]
 | some ad =>
  simp [Builtin.append_, run_underlying ht, sizeOf, typeInfo, hi, Builtin.lenOf, Builtin.firstCells, loadCells, storeCells, hn]
theorem Ym {P : Program} (w : World) {ops : Array Oper} {rest : List Oper} {o : Oper} {a : Act} {Q : Exit → Act → World → Prop} (hgd : o.guard = none) (s x : Operand) (t : TypeId)
  (ho : o.op = .call { callee := .builtin .append, args := #[s, x], argTypes := #[t, t] })
  (base : Nat) (e : TypeId) (z : Value) (size bytes : Nat) (ht : P.underlying t = some (.slice e)) (hi : (P.info? e).map (fun i => (i.zero, i.size, i.bytes)) = some (some z, size, bytes))
  (hzs : z.cells.size = size) (hsz : 0 < size)
  (v : Value) (n : Nat) (xs : List Value) (hs : a.eval s = v) (hown : w.ownsRow base e size v n xs)
  (A : Option Addr) (m c : Nat) (news : List Value) (hx : a.eval x = .slice A m c) (hl : news.length = m * size) (hnews : Rd w A news) (hA : A = none → m = 0 ∧ c = 0) (h1 : ∀ u ∈ news, u.oneCell' = true)
  (hbytes : (n + m) * bytes ≤ 140737488355328) (hby : 1 ≤ bytes) (hbase : base ≤ w.heap.size)
  (h : ∀ A c' w', w'.ownsRow base e size (.slice A (n + m) c') (n + m) (xs ++ news) → Za (fun k => v.ownBlock = some k) w w' → (∀ k, (Value.slice A (n + m) c').ownBlock = some k → v.ownBlock = some k ∨ w.heap.size ≤ k) → wpList P ops Q rest (a.put o.dst (.slice A (n + m) c')) w') :
  wpList P ops Q (o :: rest) a w := by
 cases A with
 | some ad =>
  refine Ql w hgd s x t ho base e z size bytes ht hi hzs hsz v n xs hs hown ad m c news hx hl ?_ h1 hbytes hby hbase h;rcases hnews with h | ⟨b, off, e, _, hc⟩
  ·intro j u hj; rw [h] at hj; simp at hj
  ·exact J70
 | none =>
  obtain ⟨rfl, rfl⟩ := hA rfl;have hn : news = [] := List.eq_nil_of_length_eq_zero dv;subst hn;obtain ⟨i, hi', hz, hz1, hz2⟩ := info_parts hi
  have hv : ∃ A c', v = .slice A n c' ∧ (A = none → n = 0 ∧ c' = 0) ∧ n ≤ c' := by
   rcases hown.2 with ⟨hv, h0⟩ | ⟨g, cap, cur, hv, _, _, hnc, _⟩
   ·exact ⟨none, 0, by rw [h0]; exact hv, fun _ => ⟨h0, rfl⟩, aa⟩
   ·exact ⟨_, _, hv, fun h => ck, hnc⟩
  obtain ⟨A, c', rfl, hA', hnc⟩ := hv;have hr := Zi5 (P := P) w t o.type e i ht hi' A n c' hA' hnc;refine wpList_plain hgd fun _ hK => ?_;unfold Oper.wp execOp;simp only [ho, resolve, invoke, builtin, Sem.run_bind, Sem.run_pure, Result.andThen_ok, List.map_toArray, List.map_cons, List.map_nil, hs, hx, hr];exact hK _ _ (h A c' w (by simpa using hown) (Za.refl _ _) (fun k hk => .inl hk))
open PopT
/-! ### Numbers that rise -/
abbrev Asc (l : List Int) : Prop := l.Pairwise (· < ·)
def Zad : List Int → Int → List Int
 | [], n => [n]
 | x :: l, n => if x < n then x :: Zad l n else if x = n then x :: l else n :: x :: l
def Xg (l : List Int) (n : Int) : List Int := if n < 0 then l else Zad l n
theorem Zhs (l : List Int) (n m : Int) : m ∈ Zad l n ↔ m = n ∨ m ∈ l := by
 induction l with
 | nil => simp [Zad]
 | cons x l ih =>
  unfold Zad;split
  ·simp only [List.mem_cons, ih]; constructor <;> (rintro (h | h | h) <;> simp [h])
  ·split
   ·rename_i h; subst h; simp
   ·simp
theorem Zo1 (l : List Int) (n m : Int) : m ∈ Xg l n ↔ (m = n ∧ 0 ≤ n) ∨ m ∈ l := by
 unfold Xg;split
 ·constructor
  ·exact .inr
  ·rintro (h | h)
   ·omega
   ·exact h
 ·rw [Zhs]
  constructor
  ·rintro (h | h)
   ·exact .inl ⟨h, aa⟩
   ·exact .inr h
  ·rintro (h | h)
   ·exact .inl h.1
   ·exact .inr h
theorem Zp2 (l : List Int) (n : Int) (h : Asc l) : Asc (Zad l n) := by
 induction l with
 | nil => simp [Zad, Asc]
 | cons x l ih =>
  have hx := List.pairwise_cons.1 h;unfold Zad;split
  ·refine List.pairwise_cons.2 ⟨fun y hy => ?_, ih hx.2⟩
   rcases (Zhs _ _ _).1 hy with h1 | h1
   ·omega
   ·exact hx.1 y h1
  ·split
   ·exact h
   ·refine List.pairwise_cons.2 ⟨fun y hy => ?_, h⟩
    rcases List.mem_cons.1 hy with h1 | h1
    ·omega
    ·have := hx.1 y h1; omega
theorem Zp3 (l : List Int) (n : Int) (h : Asc l) : Asc (Xg l n) := by
 unfold Xg; split
 ·exact h
 ·exact Zp2 l n h
theorem Gg (l : List Int) (a : List Int) (m : Int) : m ∈ l.foldl Xg a ↔ (m ∈ l ∧ 0 ≤ m) ∨ m ∈ a := by
 induction l generalizing a with
 | nil => simp
 | cons x l ih =>
  rw [List.foldl_cons, ih, Zo1, List.mem_cons];constructor
  ·rintro (h | h | h)
   ·exact .inl ⟨.inr h.1, h.2⟩
   ·exact .inl ⟨.inl h.1, aa⟩
   ·exact .inr h
  ·rintro (⟨h | h, h2⟩ | h)
   ·exact .inr (.inl ⟨h, aa⟩)
   ·exact .inl ⟨h, h2⟩
   ·exact .inr (.inr h)
theorem Mb (l : List Int) (a : List Int) (h : Asc a) : Asc (l.foldl Xg a) := by
 induction l generalizing a with
 | nil => exact h
 | cons x l ih => exact ih _ (Zp3 a x h)
theorem Zdo : ∀ (b a : List Int), Asc a → Asc b → (∀ x ∈ a, x ∈ b) → a.length ≤ b.length ∧ (a.length = b.length → a = b) := by
 intro b
 induction b with
 | nil =>
  intro a _ _ hs;cases a with
  | nil => simp
  | cons x a => exact absurd (hs x List.mem_cons_self) ae
 | cons y b ih =>
  intro a ha hb hs;cases a with
  | nil => simp
  | cons x a =>
   have h1 := List.pairwise_cons.1 ha;have h2 := List.pairwise_cons.1 hb;by_cases hxy : x = y
   ·subst hxy
    have := ih a h1.2 h2.2 (fun z hz => by
     rcases List.mem_cons.1 (hs z (List.mem_cons_of_mem _ hz)) with h | h
     ·have := h1.1 z hz; omega
     ·exact h)
    refine ⟨by simp only [List.length_cons]; omega, fun h => ?_⟩;rw [this.2 aq]
   ·have hx : x ∈ b := by
     rcases List.mem_cons.1 (hs x List.mem_cons_self) with h | h
     ·exact absurd h hxy
     ·exact h
    have hyx := h2.1 x hx
    have := ih (x :: a) ha h2.2 (fun z hz => by
     rcases List.mem_cons.1 (hs z hz) with h | h
     ·rcases List.mem_cons.1 hz with h3 | h3
      ·omega
      ·have := h1.1 z h3; omega
     ·exact h)
    exact ⟨by simp only [List.length_cons] at this ⊢; omega, fun h => by simp only [List.length_cons] at this h; omega⟩
theorem Zdp {a b : List Int} (ha : Asc a) (hb : Asc b) (h : ∀ x, x ∈ a ↔ x ∈ b) : a = b :=
 (Zdo b a ha hb (fun x hx => (h x).1 hx)).2 (Nat.le_antisymm (Zdo b a ha hb (fun x hx => (h x).1 hx)).1 (Zdo a b hb ha (fun x hx => (h x).2 hx)).1)
theorem Zbr (n : Int) : ∀ (l : List Int) (a : Int), Asc l → (∀ x ∈ l, a ≤ x ∧ x ≤ n) → a ≤ n + 1 → (l.length : Int) ≤ n + 1 - a := by
 intro l
 induction l with
 | nil => intro a _ _ h; simp; omega
 | cons x l ih =>
  intro a hl hx ha;have h1 := List.pairwise_cons.1 hl;have h2 := hx x List.mem_cons_self;have := ih (x + 1) h1.2 (fun y hy => ⟨by have := h1.1 y hy; omega, (hx y (List.mem_cons_of_mem _ hy)).2⟩) aa;simp only [List.length_cons]; omega
theorem Zl6 (l : List Int) (n : Int) (k : Nat) (hk : k ≤ l.length) (hlo : ∀ j, (h : j < l.length) → j < k → l[j] < n) (hhi : (h : k < l.length) → ¬ l[k] < n) :
  Zad l n = if l[k]? = some n then l else l.take k ++ n :: l.drop k := by
 induction l generalizing k with
 | nil => simp [Zad] at hk ⊢
 | cons x l ih =>
  cases k with
  | zero =>
   have h0 := hhi ae;simp only [List.getElem_cons_zero] at h0;unfold Zad;rw [if_neg h0];simp
  | succ k =>
   have h0 := hlo 0 ae aa;simp only [List.getElem_cons_zero] at h0;unfold Zad;rw [if_pos h0, ih k (by simpa using hk) (fun j h hj => by have := hlo (j + 1) aq aa; simpa using this) (fun h => by have := hhi aq; simpa using this)];simp only [List.getElem?_cons_succ, List.take_succ_cons, List.drop_succ_cons];split <;> rfl
/-! ### Sorted and compacted -/
theorem Zet : ∀ (l : List Int), l.Pairwise (· ≤ ·) → Asc (Go.Lib.compact l) ∧ ∀ x, x ∈ Go.Lib.compact l ↔ x ∈ l := by
 have key : ∀ (l : List Int) (hl : l.Pairwise (· ≤ ·)) (m : Nat), m ≤ l.length → Asc (Go.Lib.compactUpTo l.toArray m) ∧ (∀ x, x ∈ Go.Lib.compactUpTo l.toArray m ↔ x ∈ l.take m) := by
  intro l hl m
  induction m with
  | zero => intro _; simp [Go.Lib.compactUpTo, Asc]
  | succ m ih =>
   intro hm;obtain ⟨h1, h2⟩ := ih aa;have hlm : m < l.length := aa
   have hget : l.toArray[m]! = l[m] := by rw [getElem!_pos l.toArray m (by simpa using hlm)]; simp
   have htk : l.take (m + 1) = l.take m ++ [l[m]] := by rw [List.take_succ_eq_append_getElem hlm]
   have hle : ∀ x ∈ l.take m, x ≤ l[m] := by
    intro x hx;obtain ⟨j, hj, rfl⟩ := List.mem_iff_getElem.1 hx;rw [List.getElem_take];have hj' : j < m := by simp at hj; omega
    exact List.pairwise_iff_getElem.1 hl j m aa hlm hj'
   rw [Go.Lib.compactUpTo_succ, hget, htk];by_cases hk : Go.Lib.keeps l.toArray m = true
   ·rw [if_pos hk]
    have hne : m = 0 ∨ l[m] ≠ l[m - 1]! := by
     unfold Go.Lib.keeps at hk;rw [decide_eq_true_eq, hget] at hk;rcases hk with hk | hk
     ·exact .inl hk
     ·right
      by_cases h0 : m = 0
      ·subst h0; exact absurd hget.symm hk
      ·rwa [getElem!_pos l.toArray (m - 1) af, ← List.getElem_toArray, show l.toArray[m - 1]' af = l[m - 1]! from by rw [getElem!_pos l (m - 1) aa]; simp] at hk
    refine ⟨List.pairwise_append.2 ⟨h1, ae, fun x hx y hy => ?_⟩, fun x => ?_⟩
    ·rw [List.mem_singleton] at hy
     subst hy;have hx' := (h2 x).1 hx;rcases hne with h0 | h0
     ·subst h0; simp at hx'
     ·obtain ⟨j, hj, rfl⟩ := List.mem_iff_getElem.1 hx'
      rw [List.getElem_take];have hj' : j < m := by simp at hj; omega
      rw [getElem!_pos l (m - 1) aa] at h0
      have e1 : l[j] ≤ l[m - 1] := by
       by_cases hjm : j = m - 1
       ·subst hjm; exact Int.le_refl _
       ·exact List.pairwise_iff_getElem.1 hl j (m - 1) aa aa aa
      have e2 := List.pairwise_iff_getElem.1 hl (m - 1) m aa hlm aa;omega
    ·simp only [List.mem_append, h2]
   ·rw [if_neg hk, List.append_nil]
    refine ⟨h1, fun x => ?_⟩;rw [h2, List.mem_append, List.mem_singleton];constructor
    ·exact .inl
    ·rintro (h | rfl)
     ·exact h
     ·have hk' : ¬ (m = 0 ∨ l.toArray[m]! ≠ l.toArray[m - 1]!) := by
       intro h; exact hk (by unfold Go.Lib.keeps; exact decide_eq_true h)
      have h0 : m ≠ 0 := fun h => hk' (.inl h)
      have h3 : l.toArray[m]! = l.toArray[m - 1]! := by
       refine Classical.byContradiction fun h => hk' (.inr h)
      rw [hget, getElem!_pos l.toArray (m - 1) af] at h3;rw [h3, List.getElem_toArray];exact List.mem_iff_getElem.2 ⟨m - 1, af, by rw [List.getElem_take]⟩
 intro l hl;have := key l hl l.length (Nat.le_refl _);rw [List.take_length] at this;exact this
theorem Zgw (l : List Int) : Go.Lib.compact ((l.filter fun x => !decide (x < 0)).mergeSort fun x y => decide (x ≤ y)) = l.foldl Xg [] := by
 have hs : ((l.filter fun x => !decide (x < 0)).mergeSort fun x y => decide (x ≤ y)).Pairwise (· ≤ ·) := by
  have := List.pairwise_mergeSort (le := fun x y : Int => decide (x ≤ y)) (fun a b c h1 h2 => by simp at *; omega) (fun a b => af) (l.filter fun x => !decide (x < 0));exact this.imp (fun h => aq)
 obtain ⟨h1, h2⟩ := Zet _ hs;refine Zdp h1 (Mb l [] dz) fun x => ?_;rw [h2, Gg, List.mem_mergeSort, List.mem_filter];simp
/-! ### Where an op may go -/
def Zb5 (ops : List OpV) (a : Int) : List Int :=
 if a < 0 then [] else match ops[a.toNat]? with
 | none => []
 | some o => if o.kind = 1 ∨ o.kind = 4 then [a + 1] else if o.kind = 3 then [o.tt] else if o.kind = 2 then o.arms.map Xu.tt ++ [o.onT, o.onE] else []
def nxM (ops : List OpV) (a : Int) : List Int := (Zb5 ops a).foldl Xg []
def Zf2 (a : Int) (o : OpV) : List Int := (if o.kind = 1 ∨ o.kind = 4 then [a + 1] else []) ++ (if o.kind = 3 then [o.tt] else []) ++ (if o.kind = 2 then [o.onT, o.onE] else []) ++ o.arms.map Xu.tt
theorem Zmz (n : Nat) (l : List OpV) : ∀ i, (Vr n l i).2 = 0 → ∀ o ∈ l, opE n o = 0 := by
 exact J46
def Kc (p : Zv) : Prop := (Wd p).2 = 0
theorem Wc {p : Zv} (h : Kc p) : (0 ≤ p.jumps ∧ p.jumps ≤ 1000) ∧ p.ops.length ≤ 200 ∧ ∀ o ∈ p.ops, opE p.ops.length o = 0 := by
 unfold Kc Wd at h;split at h
 ·cases h
 split at h
 ·cases h
 split at h
 ·cases h
 rename_i _ h2 h3
 exact ⟨Classical.byContradiction fun hc => h2 (.inr hc), aa, Zmz _ _ 0 h⟩
theorem Zp4 (n : Nat) : ∀ l : List Xu, Xo n l = 0 → ∀ m ∈ l, Ya n m.tt = true := by
 intro l
 induction l with
 | nil => intro _ m hm; simp at hm
 | cons x l ih =>
  intro h m hm;unfold Xo at h;split at h
  ·omega
  ·rename_i hx
   rcases List.mem_cons.1 hm with rfl | hm
   ·unfold Nl at hx
    repeat' split at hx
    all_goals try omega
    rename_i hc
    simpa using hc
   ·exact ih h m hm
theorem Kf {n : Nat} {o : OpV} (h : opE n o = 0) : Kb o = true ∧ 1 ≤ o.kind ∧ o.kind ≤ 6 := by
 unfold opE at h;split at h
 ·omega
 split at h
 ·omega
 ·rename_i h1 h2
  exact ⟨by simpa using h2, aa, aa⟩
theorem Zhr {n : Nat} {o : OpV} (h : opE n o = 0) (hk : o.kind ≠ 2) : o.arms = [] := by
 have := (Kf h).1;unfold Kb at this;simp only [Bool.and_eq_true, Bool.or_eq_true, decide_eq_true_eq] at this;rcases this.2 with h1 | h1
 ·exact absurd h1 hk
 ·exact List.eq_nil_of_length_eq_zero h1.1.1
theorem Zfo {n : Nat} {o : OpV} (h : opE n o = 0) (hk : o.kind ≠ 1) : o.text.size = 0 := by
 have := (Kf h).1;unfold Kb at this;simp only [Bool.and_eq_true, Bool.or_eq_true, decide_eq_true_eq] at this;rcases this.1.1.1 with h1 | h1
 ·exact absurd h1 hk
 ·exact h1
theorem Za5 {n : Nat} {t : Int} : Ya n t = true ↔ 0 ≤ t ∧ t ≤ n := by
 unfold Ya; rw [Bool.and_eq_true, decide_eq_true_eq, decide_eq_true_eq]
theorem Zl4 {n : Nat} {t : Int} (h : ¬ Vp n t = true) : t = -1 ∨ (0 ≤ t ∧ t ≤ n) := by
 unfold Vp at h;simp only [Bool.and_eq_true, decide_eq_true_eq, Bool.not_eq_true', not_and] at h;by_cases h1 : t = -1
 ·exact .inl h1
 ·right
  have := h h1;rw [← Za5]; simpa using this
theorem Zre {p : Zv} (h : Kc p) (a x : Int) (hx : x ∈ Zb5 p.ops a) (h0 : 0 ≤ x) : x ≤ p.ops.length := by
 obtain ⟨_, _, hg⟩ := Wc h;unfold Zb5 at hx;split at hx
 ·simp at hx
 split at hx
 ·simp at hx
 rename_i ha _ o ho
 have hlt : a.toNat < p.ops.length := (List.getElem?_eq_some_iff.1 ho).1;have hE := hg o (List.mem_of_getElem? ho);have hb := Kf hE;unfold opE at hE;rw [if_neg aa, if_neg ft] at hE;split at hx
 ·rw [List.mem_singleton] at hx; omega
 split at hx
 ·rename_i _ h3
  rw [if_neg aa, if_neg aa, if_pos h3] at hE;split at hE
  ·rename_i hc
   rw [List.mem_singleton] at hx; subst hx;exact (Za5.1 hc).2
  ·omega
 split at hx
 ·rename_i _ _ h2
  rw [if_neg aa, if_pos h2] at hE;unfold Ws at hE;split at hE
  ·omega
  split at hE
  ·omega
  split at hE
  ·omega
  split at hE
  ·omega
  rename_i ha0 hlab
  rcases List.mem_append.1 hx with hx | hx
  ·obtain ⟨m, hm, rfl⟩ := List.mem_map.1 hx
   exact (Za5.1 (Zp4 _ _ aa m hm)).2
  ·simp only [List.mem_cons, List.not_mem_nil, or_false] at hx
   have h1 := Zl4 (fun h => hlab (.inl h));have h2 := Zl4 (fun h => hlab (.inr h));rcases hx with rfl | rfl <;> omega
 ·simp at hx
theorem Ze8 {p : Zv} (h : Kc p) (a x : Int) (hx : x ∈ nxM p.ops a) : 0 ≤ x ∧ x ≤ p.ops.length := by
 rcases (Gg _ _ _).1 hx with h1 | h1
 ·exact ⟨h1.2, Zre h a x h1.1 h1.2⟩
 ·simp at h1
theorem Zje (ops : List OpV) (a : Int) : Asc (nxM ops a) := Mb _ _ dz
theorem Zn4 (ops : List OpV) (a : Int) (h : a < 0 ∨ (ops.length : Int) ≤ a) : nxM ops a = [] := by
 unfold nxM Zb5;split
 ·rfl
 ·rw [List.getElem?_eq_none aa]; rfl
theorem Zri {p : Zv} (h : Kc p) (a : Int) (ha : 0 ≤ a) (hl : a.toNat < p.ops.length) : (Zf2 a (p.ops[a.toNat]'hl)).foldl Xg [] = nxM p.ops a := by
 obtain ⟨_, _, hg⟩ := Wc h;have hE := hg _ (List.getElem_mem hl);refine Zdp (Mb _ _ dz) (Zje _ _) fun x => ?_;unfold nxM Zb5;rw [if_neg aa, List.getElem?_eq_getElem hl];simp only [Gg];unfold Zf2;obtain ⟨o, ho⟩ := nE (p.ops[a.toNat]'hl);rw [ho] at hE ⊢;by_cases k2 : o.kind = 2
 ·simp only [k2]
  simp;intro _;constructor
  ·rintro (h1 | h1 | h1)
   ·exact .inr (.inl h1)
   ·exact .inr (.inr h1)
   ·exact .inl h1
  ·rintro (h1 | h1 | h1)
   ·exact .inr (.inr h1)
   ·exact .inl h1
   ·exact .inr (.inl h1)
 ·rw [Zhr hE k2]
  by_cases k14 : o.kind = 1 ∨ o.kind = 4
  ·have : o.kind ≠ 3 := by omega
   simp [k14, this, k2]
  ·simp [k14, k2]
/-! ### What is reached -/
inductive Uf (nx : Int → List Int) (S : List Int) : Int → Prop
 | base {x : Int} : x ∈ S → Uf nx S x
 | step {x y : Int} : Uf nx S x → y ∈ nx x → Uf nx S y
def Ns (nx : Int → List Int) (l : List Int) : List Int := l.foldl (fun m x => (nx x).foldl Xg m) l
def Qe (nx : Int → List Int) : Nat → List Int → List Int
 | 0, l => l
 | k + 1, l => Qe nx k (Ns nx l)
section
variable {nx : Int → List Int} {n : Nat} {S : List Int}
theorem Zkc (l a : List Int) (m : Int) (h0 : ∀ x, ∀ y ∈ nx x, 0 ≤ y) : m ∈ l.foldl (fun m x => (nx x).foldl Xg m) a ↔ m ∈ a ∨ ∃ x ∈ l, m ∈ nx x := by
 induction l generalizing a with
 | nil => simp
 | cons x l ih =>
  rw [List.foldl_cons, ih, Gg];constructor
  ·rintro ((h | h) | ⟨y, hy, h⟩)
   ·exact .inr ⟨x, List.mem_cons_self, h.1⟩
   ·exact .inl h
   ·exact .inr ⟨y, List.mem_cons_of_mem _ hy, h⟩
  ·rintro (h | ⟨y, hy, h⟩)
   ·exact .inl (.inr h)
   ·rcases List.mem_cons.1 hy with rfl | hy
    ·exact .inl (.inl ⟨h, h0 _ _ h⟩)
    ·exact .inr ⟨y, hy, h⟩
theorem Zli (l a : List Int) (h : Asc a) : Asc (l.foldl (fun m x => (nx x).foldl Xg m) a) := by
 induction l generalizing a with
 | nil => exact h
 | cons x l ih => exact ih _ (Mb _ _ h)
theorem Zby (hn : ∀ x, ∀ y ∈ nx x, 0 ≤ y ∧ y ≤ n) : ∀ (k : Nat) (l : List Int), Asc l → (∀ x ∈ l, 0 ≤ x ∧ x ≤ n) →
  Asc (Qe nx k l) ∧ (∀ x ∈ Qe nx k l, 0 ≤ x ∧ x ≤ n) ∧ (∀ x ∈ l, x ∈ Qe nx k l) ∧ (∀ x ∈ Qe nx k l, Uf nx l x) ∧ ((∀ x ∈ Qe nx k l, ∀ y ∈ nx x, y ∈ Qe nx k l) ∨ l.length + k ≤ (Qe nx k l).length) := by
 have h0 : ∀ x, ∀ y ∈ nx x, 0 ≤ y := fun x y h => (hn x y h).1;intro k
 induction k with
 | zero => intro l hl hi; exact ⟨hl, hi, fun x h => h, fun x h => .base h, .inr (Nat.le_refl _)⟩
 | succ k ih =>
  intro l hl hi;have hr := Zli (nx := nx) l l hl;have hm := fun m => Zkc (nx := nx) l l m h0;have hsub := Zdo (Ns nx l) l hl hr (fun x hx => (hm x).2 (.inl hx))
  obtain ⟨a1, a2, a3, a4, a5⟩ := ih (Ns nx l) hr (fun x hx => by
   rcases (hm x).1 hx with h | ⟨z, _, h⟩
   ·exact hi x h
   ·exact hn z x h)
  refine ⟨a1, a2, fun x hx => a3 x ((hm x).2 (.inl hx)), fun x hx => ?_, ?_⟩
  ·have := a4 x hx
   clear hx
   induction this with
   | base h =>
    rcases (hm _).1 h with h | ⟨z, hz, h⟩
    ·exact .base h
    ·exact .step (.base hz) h
   | step _ h ih => exact .step ih h
  ·by_cases he : l.length = (Ns nx l).length
   ·have he := hsub.2 he
    left;have hc : ∀ x ∈ l, ∀ y ∈ nx x, y ∈ l := fun x hx y hy => by rw [he]; exact (hm y).2 (.inr ⟨x, hx, hy⟩)
    have hfix : ∀ j, Qe nx j l = l := by
     intro j
     induction j with
     | zero => rfl
     | succ j ih => rw [Qe, ← he]; exact ih
    rw [hfix (k + 1)]; exact hc
   ·rcases a5 with h | h
    ·exact .inl h
    ·right
     show l.length + (k + 1) ≤ (Qe nx k (Ns nx l)).length;omega
theorem Znl (hn : ∀ x, ∀ y ∈ nx x, 0 ≤ y ∧ y ≤ n) (l : List Int) (hl : Asc l) (hi : ∀ x ∈ l, 0 ≤ x ∧ x ≤ n) : Asc (Qe nx (n + 1) l) ∧ ∀ x, x ∈ Qe nx (n + 1) l ↔ Uf nx l x := by
 obtain ⟨a1, a2, a3, a4, a5⟩ := Zby hn (n + 1) l hl hi
 have hc : ∀ x ∈ Qe nx (n + 1) l, ∀ y ∈ nx x, y ∈ Qe nx (n + 1) l := by
  rcases a5 with h | h
  ·exact h
  ·have := Zbr n _ 0 a1 a2 aa
   have hl0 : l = [] := List.eq_nil_of_length_eq_zero aa;subst hl0;intro x hx;have := a4 x hx;exfalso;clear hx
   induction this with
   | base h => simp at h
   | step _ _ ih => exact ih
 refine ⟨a1, fun x => ⟨a4 x, fun h => ?_⟩⟩
 induction h with
 | base h => exact a3 _ h
 | step _ h ih => exact hc _ ih _ h
def at_ (s : List Bool) (x : Int) : Prop := 0 ≤ x ∧ s[x.toNat]? = some true
structure Zp (nx : Int → List Int) (n : Nat) (S : List Int) (s : List Bool) (l : List Int) : Prop where
 len : s.length = n + 1
 todo : ∀ x ∈ l, (0 ≤ x ∧ x ≤ n) ∧ Uf nx S x
 start : ∀ x ∈ S, at_ s x ∨ x ∈ l
 seen : ∀ x, at_ s x → Uf nx S x ∧ ∀ y ∈ nx x, at_ s y ∨ y ∈ l
theorem Zp.begin (hS : ∀ x ∈ S, 0 ≤ x ∧ x ≤ n) : Zp nx n S (List.replicate (n + 1) false) S :=
 ⟨ae, fun x h => ⟨hS x h, .base h⟩, fun x h => .inr h, fun x h => by
  have := h.2;rw [List.getElem?_replicate] at this;split at this <;> simp at this⟩
theorem Zp.skip {s : List Bool} {l : List Int} {x : Int} (h : Zp nx n S s (l ++ [x])) (hx : at_ s x) : Zp nx n S s l := by
 have hm : ∀ y, at_ s y ∨ y ∈ l ++ [x] → at_ s y ∨ y ∈ l := by
  rintro y (h1 | h1)
  ·exact .inl h1
  ·rcases List.mem_append.1 h1 with h2 | h2
   ·exact .inr h2
   ·rw [List.mem_singleton] at h2; exact .inl (h2 ▸ hx)
 exact ⟨h.len, fun y hy => h.todo y (List.mem_append_left _ hy), fun y hy => hm y (h.start y hy), fun y hy => ⟨(h.seen y hy).1, fun z hz => hm z ((h.seen y hy).2 z hz)⟩⟩
theorem Zji {s : List Bool} {x y : Int} (hx : 0 ≤ x) (hl : x.toNat < s.length) : at_ (s.set x.toNat true) y ↔ y = x ∨ at_ s y := by
 unfold at_;by_cases he : y = x
 ·subst he; simp [hx, hl]
 ·constructor
  ·rintro ⟨h0, h1⟩
   rw [List.getElem?_set_ne aa] at h1;exact .inr ⟨h0, h1⟩
  ·rintro (h | ⟨h0, h1⟩)
   ·exact absurd h he
   ·exact ⟨h0, by rw [List.getElem?_set_ne aa]; exact h1⟩
theorem Zp.more {s : List Bool} {l : List Int} {x : Int} (h : Zp nx n S s (l ++ [x])) (hn : ∀ x, ∀ y ∈ nx x, 0 ≤ y ∧ y ≤ n) : Zp nx n S (s.set x.toNat true) (l ++ nx x) := by
 have hx := h.todo x ae;have hlt : x.toNat < s.length := by rw [h.len]; omega
 have hm : ∀ y, at_ s y ∨ y ∈ l ++ [x] → at_ (s.set x.toNat true) y ∨ y ∈ l ++ nx x := by
  rintro y (h1 | h1)
  ·exact .inl ((Zji hx.1.1 hlt).2 (.inr h1))
  ·rcases List.mem_append.1 h1 with h2 | h2
   ·exact .inr (List.mem_append_left _ h2)
   ·rw [List.mem_singleton] at h2
    exact .inl ((Zji hx.1.1 hlt).2 (.inl h2))
 refine ⟨by simp [h.len], fun y hy => ?_, fun y hy => hm y (h.start y hy), fun y hy => ?_⟩
 ·rcases List.mem_append.1 hy with h1 | h1
  ·exact h.todo y (List.mem_append_left _ h1)
  ·exact ⟨hn x y h1, .step hx.2 h1⟩
 ·rcases (Zji hx.1.1 hlt).1 hy with rfl | h1
  ·exact ⟨hx.2, fun z hz => .inr (List.mem_append_right _ hz)⟩
  ·exact ⟨(h.seen y h1).1, fun z hz => hm z ((h.seen y h1).2 z hz)⟩
theorem Zp.over {s : List Bool} (h : Zp nx n S s []) (x : Int) : at_ s x ↔ Uf nx S x := by
 refine ⟨fun hx => (h.seen x hx).1, fun hx => ?_⟩
 induction hx with
 | base hb => rcases h.start _ hb with h1 | h1; exact h1; simp at h1
 | step _ hy ih => rcases (h.seen _ ih).2 _ hy with h1 | h1; exact h1; simp at h1
def Jk (n : Nat) (s : List Bool) (l : List Int) : Nat := (s.count false) * (n + 2) + l.length
theorem Zfa (s : List Bool) (l : List Int) (x : Int) : Jk n s l < Jk n s (l ++ [x]) := by unfold Jk; simp
theorem Zmb {s : List Bool} {l : List Int} {x : Int} (hx : x.toNat < s.length) (hs : s[x.toNat] = false) (hn : (nx x).length ≤ n + 1) : Jk n (s.set x.toNat true) (l ++ nx x) < Jk n s (l ++ [x]) := by
 unfold Jk
 have h1 : s.count false = (s.set x.toNat true).count false + 1 := by
  rw [List.count_set hx, hs];have : 0 < s.count false := List.count_pos_iff.2 (hs ▸ List.getElem_mem hx);simp; omega
 rw [h1, Nat.add_mul];simp; omega
def Ze7 (s : List Bool) : List Int := ((List.range s.length).filter fun k => s.getD k false).map fun (k : Nat) => (k : Int)
theorem Zfp (s : List Bool) (x : Int) : x ∈ Ze7 s ↔ at_ s x := by
 unfold Ze7 at_;simp only [List.mem_map, List.mem_filter, List.mem_range];constructor
 ·rintro ⟨k, ⟨hk, h⟩, rfl⟩
  refine ⟨aa, ?_⟩;rw [Int.toNat_natCast, List.getElem?_eq_getElem hk];rw [List.getD_eq_getElem?_getD, List.getElem?_eq_getElem hk] at h;simpa using h
 ·rintro ⟨h0, h⟩
  exact ⟨x.toNat, ⟨(List.getElem?_eq_some_iff.1 h).1, by rw [List.getD_eq_getElem?_getD, h]; rfl⟩, aa⟩
theorem Zf1 (s : List Bool) : Asc (Ze7 s) := by
 unfold Ze7;refine List.pairwise_map.2 ?_;exact ((List.pairwise_lt_range).filter _).imp (fun h => aa)
end
open Go.Shelf
def Zdg : Go.Shelf.Ren := ⟨fun | 10 => 123 | 6 => 160 | n => n, fun | 22 => 68 | 23 => 3 | 25 => 154 | 3 => 3 | 4 => 4 | 0 => 0 | n => n, fun | n => n⟩
theorem Zi9 : Go.Proofs.SlLaysH.n10 Tryz.prog Zdg := {
 mixed := ab
 f6 := ⟨Tryz.f160.name, ac, Tryz.func160.trans (congrArg some ab)⟩
 f10 := ⟨Tryz.f123.name, ac, Tryz.func123.trans (congrArg some ab)⟩
 t0 := Tryz.underlying0
 a0 := Tryz.isAgg0
 z0 := Tryz.sizeOf0
 v0 := Tryz.zeroValue0
 t3 := Tryz.underlying3
 a3 := Tryz.isAgg3
 z3 := Tryz.sizeOf3
 v3 := Tryz.zeroValue3
 t4 := Tryz.underlying4
 a4 := Tryz.isAgg4
 z4 := Tryz.sizeOf4
 v4 := Tryz.zeroValue4
 t22 := Tryz.underlying68
 a22 := Tryz.isAgg68
 z22 := Tryz.sizeOf68
 v22 := Tryz.zeroValue68
 a23 := Tryz.isAgg3
 z23 := Tryz.sizeOf3
 t25 := Tryz.underlying154
 a25 := Tryz.isAgg154
 z25 := Tryz.sizeOf154
 v25 := Tryz.zeroValue154 }
def Zcm : Go.Shelf.Ren := ⟨fun | 189 => 125 | 125 => 162 | 257 => 161 | 128 => 189 | 129 => 190 | 294 => 180 | 295 => 181 | 296 => 182 | 297 => 183 | 298 => 184 | 299 => 185 | 216 => 186 | 300 => 187 | 301 => 188 | 328 => 201 | 329 => 202 | 330 => 203 | 331 => 204 | 332 => 205 | 215 => 206 | 343 => 217 | n => n, fun | 28 => 68 | 3 => 3 | 46 => 189 | 0 => 0 | 51 => 210 | 53 => 212 | 4 => 4 | 183 => 204 | 182 => 203 | 131 => 142 | 5 => 5 | 9 => 9 | 218 => 230 | 222 => 233 | 228 => 244 | 229 => 245 | n => n, fun | n => n⟩
theorem Zg2 : Go.Proofs.Lays.n189 Tryz.prog Zcm := {
 mixed := ab
 f125 := Tryz.func162.trans (congrArg some ab)
 f128 := Tryz.func189.trans (congrArg some ab)
 f129 := Tryz.func190.trans (congrArg some ab)
 f189 := Tryz.func125.trans (congrArg some ab)
 f215 := Tryz.func206.trans (congrArg some ab)
 f216 := Tryz.func186.trans (congrArg some ab)
 f257 := Tryz.func161.trans (congrArg some ab)
 f294 := Tryz.func180.trans (congrArg some ab)
 f295 := Tryz.func181.trans (congrArg some ab)
 f296 := Tryz.func182.trans (congrArg some ab)
 f297 := Tryz.func183.trans (congrArg some ab)
 f298 := Tryz.func184.trans (congrArg some ab)
 f299 := Tryz.func185.trans (congrArg some ab)
 f300 := Tryz.func187.trans (congrArg some ab)
 f301 := Tryz.func188.trans (congrArg some ab)
 f328 := Tryz.func201.trans (congrArg some ab)
 f329 := Tryz.func202.trans (congrArg some ab)
 f330 := Tryz.func203.trans (congrArg some ab)
 f331 := Tryz.func204.trans (congrArg some ab)
 f332 := Tryz.func205.trans (congrArg some ab)
 f343 := Tryz.func217.trans (congrArg some ab)
 t0 := Tryz.underlying0
 a0 := Tryz.isAgg0
 z0 := Tryz.sizeOf0
 v0 := Tryz.zeroValue0
 t3 := Tryz.underlying3
 a3 := Tryz.isAgg3
 z3 := Tryz.sizeOf3
 v3 := Tryz.zeroValue3
 t4 := Tryz.underlying4
 a4 := Tryz.isAgg4
 z4 := Tryz.sizeOf4
 v4 := Tryz.zeroValue4
 t5 := Tryz.underlying5
 a5 := Tryz.isAgg5
 z5 := Tryz.sizeOf5
 v5 := Tryz.zeroValue5
 t9 := Tryz.underlying9
 a9 := Tryz.isAgg9
 z9 := Tryz.sizeOf9
 v9 := Tryz.zeroValue9
 t28 := Tryz.underlying68
 a28 := Tryz.isAgg68
 z28 := Tryz.sizeOf68
 v28 := Tryz.zeroValue68
 t46 := Tryz.underlying189
 a46 := Tryz.isAgg189
 z46 := Tryz.sizeOf189
 v46 := Tryz.zeroValue189
 t51 := Tryz.underlying210
 a51 := Tryz.isAgg210
 z51 := Tryz.sizeOf210
 v51 := Tryz.zeroValue210
 t53 := Tryz.underlying212
 a53 := Tryz.isAgg212
 z53 := Tryz.sizeOf212
 v53 := Tryz.zeroValue212
 t131 := Tryz.underlying142
 a131 := Tryz.isAgg142
 z131 := Tryz.sizeOf142
 v131 := Tryz.zeroValue142
 t182 := Tryz.underlying203
 a182 := Tryz.isAgg203
 z182 := Tryz.sizeOf203
 v182 := Tryz.zeroValue203
 t183 := Tryz.underlying204
 a183 := Tryz.isAgg204
 z183 := Tryz.sizeOf204
 v183 := Tryz.zeroValue204
 t218 := Tryz.underlying230
 a218 := Tryz.isAgg230
 z218 := Tryz.sizeOf230
 v218 := Tryz.zeroValue230
 t222 := Tryz.underlying233
 a222 := Tryz.isAgg233
 z222 := Tryz.sizeOf233
 v222 := Tryz.zeroValue233
 t228 := Tryz.underlying244
 a228 := Tryz.isAgg244
 z228 := Tryz.sizeOf244
 v228 := Tryz.zeroValue244
 t229 := Tryz.underlying245
 a229 := Tryz.isAgg245
 z229 := Tryz.sizeOf245
 v229 := Tryz.zeroValue245 }
def Zae : Go.Shelf.Ren := ⟨fun | 20 => 126 | n => n, fun | 22 => 68 | 3 => 3 | 4 => 4 | 0 => 0 | n => n, fun | n => n⟩
theorem Nh : Go.Proofs.Lays2.n20 Tryz.prog Zae := {
 mixed := ab
 f20 := Tryz.func126.trans (congrArg some ab)
 t0 := Tryz.underlying0
 a0 := Tryz.isAgg0
 z0 := Tryz.sizeOf0
 v0 := Tryz.zeroValue0
 t3 := Tryz.underlying3
 a3 := Tryz.isAgg3
 z3 := Tryz.sizeOf3
 v3 := Tryz.zeroValue3
 t4 := Tryz.underlying4
 a4 := Tryz.isAgg4
 z4 := Tryz.sizeOf4
 v4 := Tryz.zeroValue4
 t22 := Tryz.underlying68
 a22 := Tryz.isAgg68
 z22 := Tryz.sizeOf68
 v22 := Tryz.zeroValue68
 i3 := by kernel_rfl }
def Zde : Go.Shelf.Ren := ⟨fun | 125 => 162 | 128 => 189 | 129 => 190 | n => n, fun | 46 => 189 | 3 => 3 | 51 => 210 | 53 => 212 | 4 => 4 | 5 => 5 | 9 => 9 | n => n, fun | n => n⟩
theorem Zi7 : Go.Proofs.Lays.n125 Tryz.prog Zde := {
 mixed := ab
 f125 := Tryz.func162.trans (congrArg some ab)
 f128 := Tryz.func189.trans (congrArg some ab)
 f129 := Tryz.func190.trans (congrArg some ab)
 t3 := Tryz.underlying3
 a3 := Tryz.isAgg3
 z3 := Tryz.sizeOf3
 v3 := Tryz.zeroValue3
 t4 := Tryz.underlying4
 a4 := Tryz.isAgg4
 z4 := Tryz.sizeOf4
 v4 := Tryz.zeroValue4
 t5 := Tryz.underlying5
 a5 := Tryz.isAgg5
 z5 := Tryz.sizeOf5
 v5 := Tryz.zeroValue5
 t9 := Tryz.underlying9
 a9 := Tryz.isAgg9
 z9 := Tryz.sizeOf9
 v9 := Tryz.zeroValue9
 t46 := Tryz.underlying189
 a46 := Tryz.isAgg189
 z46 := Tryz.sizeOf189
 v46 := Tryz.zeroValue189
 t51 := Tryz.underlying210
 a51 := Tryz.isAgg210
 z51 := Tryz.sizeOf210
 v51 := Tryz.zeroValue210
 t53 := Tryz.underlying212
 a53 := Tryz.isAgg212
 z53 := Tryz.sizeOf212
 v53 := Tryz.zeroValue212 }
end Go.Proofs.YtpkkfdmhbbipoaaGreat
