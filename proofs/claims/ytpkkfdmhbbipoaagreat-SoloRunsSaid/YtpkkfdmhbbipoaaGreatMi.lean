/- From a contract 'the law answers true, and what was there stays' to the given row; the arguments opened. The arguments of a law, opened: a slice of items, a text. The arguments of a law, opened: a slice of int64, of int, of bytes. The arguments of a law, opened: a row of elements of several cells. -/
import Derived.Test.YtpkkfdmhbbipoaaGreatMa
import Derived.Test.YtpkkfdmhbbipoaaGreatRows
import Derived.ProofKit
import Derived.SizedLaws
import Derived.Deep.Slices
import Derived.Laws.IdiomArrays
namespace Go.Proofs.YtpkkfdmhbbipoaaGreat
set_option maxRecDepth 100000
open Go.ChangeShapes Go.WideShapes Go.ChangeAt Go.RowKit Go.WideElems Go.Deep
open Go.ChangeMaps (open_string shut_string)
theorem Zqg : ownKnob Tryz.prog.godebug = none := by kernel_rfl
theorem Zh4 : laidOutB Tryz.prog = true := by kernel_rfl
section
variable {H : Type} {enc : TypeId × Value → H} {P : Program}
theorem Zcq (hl : laidOutB P = true) {W W' : World} {sp : Nat → Bool} : ∀ {ts : List TypeId} {vs : List Value} {ds : List (DataW H)} {ps : List MemPlace}, (ts.all fun t => P.readableRec t && decide (t < P.types.size)) = true →
  DataW.TrodAll enc P W 0 (fun _ => true) true ts vs ds ps → (∀ p ∈ ps, W.sameAt W' p) → (∀ p ∈ ps, sp p.block = true) → DataW.TrodAll enc P W' 0 sp true ts vs ds ps
 | [], [], [], _, _, h, _, _ => h
 | t :: ts, v :: vs, d :: ds, ps, hr, ⟨p, q, h1, h2, e⟩, hs, hsp => by
  simp only [List.all_cons, Bool.and_eq_true, decide_eq_true_eq] at hr
  exact ⟨p, q, Trod_stays hl hr.1.1 hr.1.2 h1 (fun x hx => hs x (by rw [e]; exact List.mem_append_left _ hx)) (fun x hx => hsp x (by rw [e]; exact List.mem_append_left _ hx)),
   Zcq hl (by simpa using hr.2) h2 (fun x hx => hs x (by rw [e]; exact List.mem_append_right _ hx)) (fun x hx => hsp x (by rw [e]; exact List.mem_append_right _ hx)), e⟩
theorem Zqe {W : World} {t : TypeId} {ts : List TypeId} {vs : List Value} {ds : List (DataW H)} {ps : List MemPlace} (h : DataW.TrodAll enc P W 0 (fun _ => true) true (t :: ts) vs ds ps) :
  ∃ v vs' d ds' p q, vs = v :: vs' ∧ ds = d :: ds' ∧ ps = p ++ q ∧ DataW.Trod enc P W 0 (fun _ => true) true t v d p ∧ DataW.TrodAll enc P W 0 (fun _ => true) true ts vs' ds' q := by
 cases vs with
 | nil => exact h.elim
 | cons v vs => cases ds with
  | nil => exact h.elim
  | cons d ds => obtain ⟨p, q, h1, h2, e⟩ := h; exact ⟨v, vs, d, ds, p, q, rfl, rfl, e, h1, h2⟩
theorem Zrd {W : World} {vs : List Value} {ds : List (DataW H)} {ps : List MemPlace} (h : DataW.TrodAll enc P W 0 (fun _ => true) true [] vs ds ps) : vs = [] := by
 cases vs with
 | nil => rfl
 | cons v vs => cases ds <;> exact h.elim
theorem N118{P:Prop}(h:P:=by
 cases gs with
 | nil => exact ⟨rfl, hV⟩
 | cons g gs => exact absurd hV (by simp [DataW.TrodVars])):P:=h
theorem Zpf (hl : laidOutB P = true) {f : Func} {s : ChangeSpec} {W W' : World} {args : Array Value} {ds gs : List (DataW H)} {before : List MemPlace}
  (hb4 : P.underlying 4 = some .bool) (hr : (f.params.toList.all fun t => P.readableRec t && decide (t < P.types.size)) = true) (hres : f.resultTypes = #[4]) (hv : s.vars = [])
  (hs : s.fn H (ds ++ gs) = { results := [.lit (.bool true)], args := ds })
  (hW : DataW.Whole enc P f.params.toList s.vars false W args.toList ds gs before) (hb : Below W.heap.size W W') :
  s.post enc P f false true false false W args (.bool true) W' := by
 have hlt : ∀ p ∈ before, p.block < W.heap.size := fun p hp => hW.lt p hp;have hold : ∀ p ∈ before, (fun b => decide (b < W.heap.size)) p.block = true := fun p hp => by simpa using hlt p hp
 have hW' := hW;obtain ⟨p, q, hA, hV, hpq, hz, hn⟩ := hW;rw [hv] at hV
 have hgs : gs = [] ∧ q = [] := by
  exact N118
 obtain ⟨rfl, rfl⟩ := hgs;have hp : before = p := by rw [hpq]; simp
 refine ⟨ds, [], before, [], p, [], hW', ?_, ?_, ?_, World.keptBut_mono (fun x hx => ⟨hx, ?_⟩) (hb.frame (· ∈ before)), fun h => kx⟩
 ·rw [hs, hres]
  exact trodAll_mk1 (shut_bool hb4 _)
 ·rw [hs]
  exact Zcq hl hr hA (fun x hx => hb.same (hlt x (by rw [hp]; exact hx))) (fun x hx => hold x (by rw [hp]; exact hx))
 ·rw [hs, hv]; rfl
 ·rw [hp] at hx
  exact Or.inr (by simpa using hx)
end
theorem law_lifted (F : Nat) (f : Func) (s : ChangeSpec) (os : Os) (started : os.Started) (H : Type) (enc : TypeId × Value → H) (hf : Tryz.prog.funcs[F]? = some f)
  (hno : Tryz.prog.inits.idxOf? F = none)
  (hr : (f.params.toList.all fun t => Tryz.prog.readableRec t && decide (t < Tryz.prog.types.size)) = true) (hres : f.resultTypes = #[4]) (hv : s.vars = [])
  (hs : ∀ ds : List (DataW H), ds.length = f.params.size → s.fn H (ds ++ []) = { results := [.lit (.bool true)], args := ds })
  (hwit : ∃ (w : World) (tape : Tape) (i : Input), w.os = os ∧ (w.forCall tape i).Shaped Tryz.checked.prog ∧ i.vars = [] ∧ Input.okWide Tryz.checked.prog (w.forCall tape i) .any w.heap.size F i ∧
   s.pre6 enc Tryz.checked.prog f [] false (w.forCall tape i).memory i.args ∧ ({} : Assume).holds Tryz.checked.prog (lone (Frame.enter Tryz.checked.prog F i.args .normal) [] (w.forCall tape i)))
  (C : ∀ (W : World) (args : List Value) (ds : List (DataW H)) (p : List MemPlace) (base : Nat), (∀ (j : Nat) t v, f.params.toList[j]? = some t → args[j]? = some v → Value.okWide Tryz.prog W .any base t v) →
   DataW.TrodAll enc Tryz.prog W 0 (fun _ => true) true f.params.toList args ds p → (∀ x ∈ p, x.block < W.heap.size) → (DataW.weightsEach Tryz.prog f.params.toList ds).all (· ≤ reachBytes) = true →
   Calls Tryz.prog F args.toArray W fun e W' => e = .returned (.bool true) ∧ Below W.heap.size W W') :
  ReturnsInHanded {} Tryz.checked os F .any (s.pre6 enc Tryz.prog f [] false) (s.post enc Tryz.prog f false true false false) := by
 refine returnsInHanded_of_change_sized (C := Tryz.checked) Zqg started hno hf hwit ?_;intro W base args ds gs before hval hW _ hsz _;have hW0 := hW;obtain ⟨p, q, hA, hV, hpq, hz, hn⟩ := hW;rw [hv] at hV
 have hgs : gs = [] ∧ q = [] := by
  exact N118
 obtain ⟨rfl, rfl⟩ := hgs
 have hlen : ∀ {ts : List TypeId} {vs : List Value} {ds : List (DataW H)} {ps : List MemPlace}, DataW.TrodAll enc Tryz.prog W 0 (fun _ => true) true ts vs ds ps → ds.length = ts.length := by
  intro ts
  induction ts with
  | nil => intro vs ds ps h; cases vs <;> cases ds <;> first | rfl | exact h.elim
  | cons t ts ih =>
   intro vs ds ps h;cases vs with
   | nil => exact h.elim
   | cons v vs => cases ds with
    | nil => exact h.elim
    | cons d ds => obtain ⟨_, _, _, h2, _⟩ := h; simp [ih h2]
 have hl := hlen hA;have hvt : s.plain.varTypes Tryz.prog = [] := by simp [DataSpec.varTypes, ChangeSpec.plain, hv]
 have hsz2 : (DataW.weightsEach Tryz.prog (f.params.toList ++ s.plain.varTypes Tryz.prog) (ds ++ [])).all (· ≤ reachBytes) = true := hsz;rw [hvt, List.append_nil, List.append_nil] at hsz2;refine Calls.mono (C W args.toList ds p base (fun j t v h1 h2 => hval j t v (by simpa using h1) (by simpa using h2)) hA (fun x hx => hW0.lt x (by rw [hpq]; simpa using hx)) hsz2) ?_;rintro e W' ⟨rfl, hb⟩;exact ⟨_, rfl, Zpf Zh4 Tryz.underlying4 hr hres hv (hs ds fg) hW0 hb⟩
open Go.ChangeMaps (open_string shut_string)
section
variable {H : Type} {enc : TypeId × Value → H}
end
section
variable {H : Type} {enc : TypeId × Value → H}
end
section
variable {H : Type} {enc : TypeId × Value → H}
theorem Zjq (s : Nat) (l : List (List Value)) (hf : ∀ x ∈ l, x.length = s) (k : Nat) (h : k < l.length) (j : Nat) (hj : j < s) : l.flatten[k * s + j]? = (l[k])[j]? := by
 have := Gw (fun x : List Value => x) s l hf k h j hj;rw [List.flatMap_def] at this;simpa using this
theorem Zfs (s : Nat) (l : List (List Value)) (hf : ∀ x ∈ l, x.length = s) : l.flatten.length = l.length * s := by
 induction l with
 | nil => simp
 | cons x l ih => rw [List.flatten_cons, List.length_append, hf x List.mem_cons_self, ih (fun y hy => hf y (List.mem_cons_of_mem _ hy)), List.length_cons, Nat.add_mul]; omega
theorem Zc8 {t e : TypeId} {s : Nat} (ht : Tryz.prog.underlying t = some (.slice e)) (hs : Tryz.prog.cellsOf e = s) (h0 : 0 < s) {W : World} {fuel : Nat} {cs : List Value} {x : DataW H × List MemPlace}
  (h : DataW.trod enc Tryz.prog W 0 (fun _ => true) true fuel t cs = some x) :
  ∃ A n c, ∃ css : List (List Value), cs = [.slice A n c] ∧ css.length = n ∧ n ≤ 9223372036854775807 ∧ (∀ q ∈ css, q.length = s ∧ ∃ m y, DataW.trod enc Tryz.prog W 0 (fun _ => true) true m e q = some y) ∧ Rd W A css.flatten := by
 rcases open_slice ht h with ⟨hcs, hx⟩ | ⟨a, len, cap, m, n', D, Pl, hcs, _, hl, hm, hmm, hx, hi⟩
 ·exact ⟨none, 0, 0, [], hcs, rfl, aa, ah, .inl rfl⟩
 ·simp only [if_true] at hmm
  subst hmm
  have hex : ∀ i, i < m → ∃ cs' : List Value, cs'.length = s ∧ (∃ m y, DataW.trod enc Tryz.prog W 0 (fun _ => true) true m e cs' = some y) ∧ ∀ j, j < s → W.cell? ((a.add (i * s)).add j) = cs'[j]? := by
   intro i him;obtain ⟨cs', hc, ht'⟩ := hi i him;rw [hs] at hc;obtain ⟨_, hlen, hat⟩ := World.cells?_some hc;exact ⟨cs', hlen, ⟨_, _, ht'⟩, hat⟩
  obtain ⟨f, hf⟩ := choose_lt hex
  have hmem : ∀ q ∈ (List.range len).map f, q.length = s ∧ ∃ m y, DataW.trod enc Tryz.prog W 0 (fun _ => true) true m e q = some y := by
   intro q hq;obtain ⟨i, hi, rfl⟩ := List.mem_map.1 hq;have hi := List.mem_range.1 hi;obtain ⟨h1, h2, _⟩ := hf i aa;exact ⟨h1, h2⟩
  refine ⟨some a, len, m, (List.range len).map f, hcs, ah, by unfold maxLen at hm; omega, hmem, ?_⟩;rcases Nat.eq_zero_or_pos len with h00 | h00
  ·subst h00; exact .inl rfl
  ·obtain ⟨h1, _, h3⟩ := hf 0 aa
   have hc0 := h3 0 h0;rw [List.getElem?_eq_getElem aa] at hc0;obtain ⟨b, off, spot⟩ := a
   have hspot : spot = none := by
    have := World.cell?_spot hc0;simpa [Addr.add] using this
   subst hspot
   have hadd : ∀ i j, ((⟨b, off, none⟩ : Addr).add i).add j = ⟨b, off + (i + j), none⟩ := by
    intro i j;unfold Addr.add;split <;> split <;> simp_all <;> omega
   refine .inr ⟨b, off, rfl, ?_, fun j u hu => ?_⟩
   ·rw [hadd] at hc0
    exact World.block_lt_of_cell? W _ hc0
   ·have hj : j < len * s := by
     have := (List.getElem?_eq_some_iff.1 hu).1;rwa [Zfs s _ (fun q hq => (hmem q hq).1), List.length_map, List.length_range] at this
    have hk : j / s < len := Nat.div_lt_of_lt_mul (by rw [Nat.mul_comm]; exact hj);have hjs : j % s < s := Nat.mod_lt _ h0;have e : j / s * s + j % s = j := by rw [Nat.mul_comm]; exact Nat.div_add_mod j s
    have hg := Zjq s ((List.range len).map f) (fun q hq => (hmem q hq).1) (j / s) (by simpa using hk) (j % s) hjs;rw [e, hu] at hg;have := (hf (j / s) aa).2.2 (j % s) hjs;rw [hadd, e] at this;rw [this];simpa using hg.symm
theorem Zam {α β : Type} (f : β → α) (P : β → Prop) (l : List α) (h : ∀ a ∈ l, ∃ b, f b = a ∧ P b) : ∃ bs : List β, bs.map f = l ∧ ∀ b ∈ bs, P b := by
 induction l with
 | nil => exact ⟨[], rfl, ah⟩
 | cons a l ih =>
  obtain ⟨b, hb, hp⟩ := h a List.mem_cons_self;obtain ⟨bs, h1, h2⟩ := ih (fun x hx => h x (List.mem_cons_of_mem _ hx));exact ⟨b :: bs, by rw [List.map_cons, hb, h1], fun x hx => by rcases List.mem_cons.1 hx with rfl | hx; exact hp; exact h2 x hx⟩
end
theorem Jl : Tryz.prog.cellsOf 9 = 1 := by kernel_rfl
theorem Qg : Tryz.prog.cellsOf 3 = 1 := by kernel_rfl
theorem Jm : Tryz.prog.cellsOf 2 = 1 := by kernel_rfl
def I64 (x : Int) : Prop := -9223372036854775808 ≤ x ∧ x ≤ 9223372036854775807
theorem Kl {n : Int} (h : (Lit.int .i64 n).wf = true) : I64 n := by
 simp [Lit.wf, IntKind.min, IntKind.max, IntKind.signed, IntKind.bits] at h;unfold I64; omega
end Go.Proofs.YtpkkfdmhbbipoaaGreat
