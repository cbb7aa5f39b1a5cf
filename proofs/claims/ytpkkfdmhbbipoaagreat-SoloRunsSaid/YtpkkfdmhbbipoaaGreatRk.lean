/- The end of a function that answers two structs: both are loaded whole, perhaps changed by a call, and stored into the results, in whatever order. No program in sight. The reference's dialogue looks. -/
import Derived.Test.YtpkkfdmhbbipoaaGreatRj
namespace Go.Proofs.YtpkkfdmhbbipoaaGreat
set_option maxRecDepth 20000
set_option maxHeartbeats 4000000
open Go.RowKit PopT
def Zes (P : Program) (t : TypeId) (n : Nat) : Prop := ∃ d, P.underlying t = some d ∧ d.isRow = true ∧ (P.info? t).map (·.size) = some n
section
variable {P : Program} {l : List Oper} {Q : Exit → Act → World → Prop} {S : World → Prop} {late : List Nat} {E r : Ord} {act : Act} {w : World} {o : Oper} {i : Nat}
theorem Zn {a : Act} {c p : Nat} {v : Value} (h : p ≠ c) : (a.put (some c) v).eval (.tmp p) = a.eval (.tmp p) := by
 simp only [Act.put, Act.eval, Array.getD_eq_getD_getElem?];rw [Array.getElem?_setIfInBounds_ne (fun e => h e.symm)]
theorem Wv {a : Act} {c : Nat} {v : Value} (h : c < a.tmps.size) : (a.put (some c) v).eval (.tmp c) = v := by
 simp only [Act.put, Act.eval, Array.getD_eq_getD_getElem?];rw [Array.getElem?_setIfInBounds_self_of_lt h]; rfl
theorem Zcg {a : Act} {c d : Nat} {v u : Value} (h : c ≠ d) : (a.put (some c) v).put (some d) u = (a.put (some d) u).put (some c) v := by
 simp only [Act.put];rw [Array.setIfInBounds_comm _ _ h]
theorem Ul {a : Act} {c : Nat} {v : Value} : (a.put (some c) v).tmps.size = a.tmps.size := by simp [Act.put]
theorem Zg4 {ops : Array Oper} {K : Exit → Act → World → Prop} {a : Act} {W : World} (h : K .normal a W) : wpList P ops K [] a W := h
def Gq (P : Program) (l : List Oper) (Q : Exit → Act → World → Prop) (S : World → Prop) (late : List Nat) (i : Nat) (r : Ord) (act : Act) (w : World) : Prop :=
 ∃ o, l.toArray[i]? = some o ∧ wpList P l.toArray (Exit.then (fun a' w' => KT (late.contains i) S w w' (Xb P l.toArray Q S late r a' w')) Q) [o] act w
theorem Zj9 (h : nth l i = some o) : l.toArray[i]? = some o := by rw [← h, Us]; simp
theorem Xv {c p g : Nat} {t : TypeId} {xs : List Value} (hn : nth l i = some o) (hg : o.guard = none) (hd : o.dst = some c) (ho : o.op = .load t (.tmp p)) (hx : act.eval (.tmp p) = .pointer (some ⟨g, 0, none⟩)) (hb : Blk w g t xs.toArray) (ht : Zes P t xs.length)
  (K : Xb P l.toArray Q S late r (act.put (some c) (.agg xs.toArray)) w) : Gq P l Q S late i r act w := by
 obtain ⟨d, h1, h2, h3⟩ := ht;refine ⟨o, Zj9 hn, wpList_load_mid hg t (.tmp p) ho g 0 hx xs d (Blk.range hb) h1 h2 h3 ?_⟩;rw [hd];exact Zg4 (KT.same K)
theorem Vh {p q g : Nat} {t : TypeId} {xs : List Value} {z : Array Value} (hn : nth l i = some o) (hg : o.guard = none) (hd : o.dst = none) (ho : o.op = .store t (.tmp p) (.tmp q)) (hx : act.eval (.tmp p) = .pointer (some ⟨g, 0, none⟩)) (hy : act.eval (.tmp q) = .agg xs.toArray) (hl : late.contains i = true)
  (hb : Blk w g t z) (hz : z.size = xs.length) (ht : Zes P t xs.length) (h1 : xs.toArray.all (·.oneCell') = true) (K : Xb P l.toArray Q S late r act (w.setRow g xs.toArray)) : Gq P l Q S late i r act w := by
 obtain ⟨d, _, _, h3⟩ := ht;refine ⟨o, Zj9 hn, wpList_store_row hg t (.tmp p) (.tmp q) ho g xs.toArray hx hy t z hb (by rw [h3, List.size_toArray]) (by rw [hz, List.size_toArray]) h1 ?_⟩;rw [hd];exact Zg4 (KT.past hl K)
theorem Zmq {c f : Nat} {fn : Func} {ag : Array Operand} {ats : Array TypeId} {vs : Array Value} {R : Ending → World → Prop} (hn : nth l i = some o) (hg : o.guard = none) (hd : o.dst = some c) (ho : o.op = .call { callee := .value (.func f), args := ag, argTypes := ats })
  (hf : P.funcs[f]? = some fn) (hname : (fn.name == "runtime.NumGoroutine") = false) (hbody : fn.body.isNone = false) (ha : ag.map act.eval = vs) (C : Calls P f vs w R)
  (K : ∀ e w', R e w' → ∃ v, e = .returned v ∧ KT (late.contains i) S w w' (Xb P l.toArray Q S late r (act.put (some c) v) w')) : Gq P l Q S late i r act w := by
 refine ⟨o, Zj9 hn, wpList_plain hg fun K' hK' => ?_⟩
 have hrun : (execOp act.eval o).run P w = .ok (.enter f (ag.map act.eval)) w := by
  have h1 : ¬ fn.name = "runtime.NumGoroutine" := by simpa using hname
  have h2 : ¬ fn.body = none := by cases hx : fn.body <;> simp_all
  unfold execOp;simp [ho, resolve, Deferred.ofValue, invoke, callFunc, hf, h1, h2, Act.eval]
 unfold Oper.wp;rw [hrun, Oper.upon_enter, ha];refine C.mono fun e w' hR => ?_;obtain ⟨v, rfl, hk⟩ := K e w' hR;rw [hd];exact hK' _ _ (Zg4 hk)
structure Zob (P : Program) (t1 t2 : TypeId) (gd gx gr gs : Nat) (xs ys : List Value) (w : World) : Prop where
 bd : Blk w gd t1 xs.toArray
 bx : Blk w gx t2 ys.toArray
 br : ∃ z, Blk w gr t1 z ∧ z.size = xs.length
 bs : ∃ z, Blk w gs t2 z ∧ z.size = ys.length
 ne : gx ≠ gr ∧ gs ≠ gr
 r1 : Zes P t1 xs.length
 r2 : Zes P t2 ys.length
 o1 : xs.toArray.all (·.oneCell') = true
 o2 : ys.toArray.all (·.oneCell') = true
theorem Zv {w : World} {g : Nat} {cs : Array Value} : Za (fun k => k = g) w (w.setRow g cs) := Za.setRow (fun k => k = g) w g cs rfl
theorem N112{P:Prop}(h:P:=by
 exact D1 _ (by rw [Zn m4, Zn n4]; exact v4) (by rw [Wv (by rw [Ul]; exact hsz.2)]) K):P:=h
theorem Zax {j k m a b p1 p2 p3 p4 gd gx gr gs : Nat} {o2 o3 o4 : Oper} {t1 t2 : TypeId} {xs ys : List Value} (H : Zob P t1 t2 gd gx gr gs xs ys w)
  (h1 : nth l i = some o) (h2 : nth l j = some o2) (h3 : nth l k = some o3) (h4 : nth l m = some o4)
  (q1 : o.guard = none ∧ o.dst = some a ∧ o.op = .load t1 (.tmp p1)) (q2 : o2.guard = none ∧ o2.dst = some b ∧ o2.op = .load t2 (.tmp p2))
  (q3 : o3.guard = none ∧ o3.dst = none ∧ o3.op = .store t1 (.tmp p3) (.tmp a)) (q4 : o4.guard = none ∧ o4.dst = none ∧ o4.op = .store t2 (.tmp p4) (.tmp b))
  (v1 : act.eval (.tmp p1) = .pointer (some ⟨gd, 0, none⟩)) (v2 : act.eval (.tmp p2) = .pointer (some ⟨gx, 0, none⟩)) (v3 : act.eval (.tmp p3) = .pointer (some ⟨gr, 0, none⟩)) (v4 : act.eval (.tmp p4) = .pointer (some ⟨gs, 0, none⟩))
  (hl : late.contains k = true ∧ late.contains m = true) (hsz : a < act.tmps.size ∧ b < act.tmps.size) (hne : (p1 ≠ a ∧ p2 ≠ a ∧ p3 ≠ a ∧ p4 ≠ a) ∧ (p1 ≠ b ∧ p2 ≠ b ∧ p3 ≠ b ∧ p4 ≠ b) ∧ a ≠ b)
  (K : Xb P l.toArray Q S late E ((act.put (some a) (.agg xs.toArray)).put (some b) (.agg ys.toArray)) ((w.setRow gr xs.toArray).setRow gs ys.toArray)) :
  Xb P l.toArray Q S late (.two i (.two j (.op k (.op m E)) k (.op j (.op m E))) j (.op i (.op k (.op m E)))) act w := by
 obtain ⟨⟨n1, n2, n3, n4⟩, ⟨m1, m2, m3, m4⟩, hab⟩ := hne;obtain ⟨z, hz, hzl⟩ := H.br;obtain ⟨y, hy, hyl⟩ := H.bs;have hk1 : Za (fun k => k = gr) w (w.setRow gr xs.toArray) := Zv;have hy' := hk1.blk hy (fun e => H.ne.2 e);have hx' := hk1.blk H.bx (fun e => H.ne.1 e);have hba : b ≠ a := fun e => hab e.symm
 have D1 : ∀ act' : Act, act'.eval (.tmp p4) = .pointer (some ⟨gs, 0, none⟩) → act'.eval (.tmp b) = .agg ys.toArray → Xb P l.toArray Q S late E act' ((w.setRow gr xs.toArray).setRow gs ys.toArray) → Gq P l Q S late m E act' (w.setRow gr xs.toArray) := fun act' u1 u2 K' =>
  Vh h4 q4.1 q4.2.1 q4.2.2 u1 u2 hl.2 hy' hyl H.r2 H.o2 K'
 have D2 : ∀ (r : Ord) (act' : Act), act'.eval (.tmp p3) = .pointer (some ⟨gr, 0, none⟩) → act'.eval (.tmp a) = .agg xs.toArray → Xb P l.toArray Q S late r act' (w.setRow gr xs.toArray) → Gq P l Q S late k r act' w := fun r act' u1 u2 K' =>
  Vh h3 q3.1 q3.2.1 q3.2.2 u1 u2 hl.1 hz hzl H.r1 H.o1 K'
 refine ⟨?_, ?_⟩
 ·refine Xv h1 q1.1 q1.2.1 q1.2.2 v1 H.bd H.r1 ⟨?_, ?_⟩
  ·refine Xv h2 q2.1 q2.2.1 q2.2.2 (by rw [Zn n2]; exact v2) H.bx H.r2 ?_
   refine D2 _ _ (by rw [Zn m3, Zn n3]; exact v3) (by rw [Zn hab, Wv hsz.1]) ?_;exact N112
  ·refine D2 _ _ (by rw [Zn n3]; exact v3) (by rw [Wv hsz.1]) ?_
   refine Xv h2 q2.1 q2.2.1 q2.2.2 (by rw [Zn n2]; exact v2) hx' H.r2 ?_;exact N112
 ·refine Xv h2 q2.1 q2.2.1 q2.2.2 v2 H.bx H.r2 ?_
  refine Xv h1 q1.1 q1.2.1 q1.2.2 (by rw [Zn m1]; exact v1) H.bd H.r1 ?_;refine D2 _ _ (by rw [Zn n3, Zn m3]; exact v3) (by rw [Wv (by rw [Ul]; exact hsz.1)]) ?_;refine D1 _ (by rw [Zn n4, Zn m4]; exact v4) (by rw [Zn hba, Wv hsz.2]) ?_;rw [Zcg hba]; exact K
theorem N88{P:Prop}(h:P:=by
 exact D1 W cs _ hB (by rw [Zn m4, Zn e4, Zn n4]; exact v4) (by rw [Wv (by rw [Ul, Ul]; exact hsz.2.1)]) (K cs W hcs hZ hB)):P:=h
theorem Gh {j k m cc a b c f p1 p2 p3 p4 gd gx gr gs : Nat} {fn : Func} {oc o2 o3 o4 : Oper} {ag : Array Operand} {ats : Array TypeId} {vs : Array Value} {t1 t2 : TypeId} {xs ys : List Value} {Z : List Value → World → Prop} (H : Zob P t1 t2 gd gx gr gs xs ys w)
  (h1 : nth l i = some o) (hc : nth l cc = some oc) (h2 : nth l j = some o2) (h3 : nth l k = some o3) (h4 : nth l m = some o4)
  (q1 : o.guard = none ∧ o.dst = some a ∧ o.op = .load t1 (.tmp p1)) (qc : oc.guard = none ∧ oc.dst = some c ∧ oc.op = .call { callee := .value (.func f), args := ag, argTypes := ats }) (q2 : o2.guard = none ∧ o2.dst = some b ∧ o2.op = .load t2 (.tmp p2))
  (q3 : o3.guard = none ∧ o3.dst = none ∧ o3.op = .store t1 (.tmp p3) (.tmp c)) (q4 : o4.guard = none ∧ o4.dst = none ∧ o4.op = .store t2 (.tmp p4) (.tmp b))
  (hf : P.funcs[f]? = some fn ∧ (fn.name == "runtime.NumGoroutine") = false ∧ fn.body.isNone = false)
  (v1 : act.eval (.tmp p1) = .pointer (some ⟨gd, 0, none⟩)) (v2 : act.eval (.tmp p2) = .pointer (some ⟨gx, 0, none⟩)) (v3 : act.eval (.tmp p3) = .pointer (some ⟨gr, 0, none⟩)) (v4 : act.eval (.tmp p4) = .pointer (some ⟨gs, 0, none⟩))
  (hargs : ∀ act' : Act, act'.eval (.tmp a) = .agg xs.toArray → (∀ p, p ≠ a → p ≠ b → act'.eval (.tmp p) = act.eval (.tmp p)) → ag.map act'.eval = vs)
  (C : Calls P f vs w fun e w' => ∃ cs : List Value, e = .returned (.agg cs.toArray) ∧ cs.length = xs.length ∧ cs.toArray.all (·.oneCell') = true ∧ Z cs w' ∧ Below w.heap.size w w')
  (hS : ∀ W W', Below W.heap.size W W' → S W → S W')
  (hl : late.contains k = true ∧ late.contains m = true) (hsz : a < act.tmps.size ∧ b < act.tmps.size ∧ c < act.tmps.size)
  (hne : (p1 ≠ a ∧ p2 ≠ a ∧ p3 ≠ a ∧ p4 ≠ a) ∧ (p1 ≠ b ∧ p2 ≠ b ∧ p3 ≠ b ∧ p4 ≠ b) ∧ (p1 ≠ c ∧ p2 ≠ c ∧ p3 ≠ c ∧ p4 ≠ c) ∧ a ≠ b ∧ a ≠ c ∧ b ≠ c)
  (K : ∀ (cs : List Value) (W : World), cs.length = xs.length → Z cs W → Below w.heap.size w W → Xb P l.toArray Q S late E (((act.put (some a) (.agg xs.toArray)).put (some c) (.agg cs.toArray)).put (some b) (.agg ys.toArray)) ((W.setRow gr cs.toArray).setRow gs ys.toArray)) :
  Xb P l.toArray Q S late (.two i (.two cc (.two j (.op k (.op m E)) k (.op j (.op m E))) j (.op cc (.op k (.op m E)))) j (.op i (.op cc (.op k (.op m E))))) act w := by
 obtain ⟨⟨n1, n2, n3, n4⟩, ⟨m1, m2, m3, m4⟩, ⟨e1, e2, e3, e4⟩, hab, hac, hbc⟩ := hne;obtain ⟨z, hz, hzl⟩ := H.br;obtain ⟨y, hy, hyl⟩ := H.bs;have hba : b ≠ a := fun e => hab e.symm;have hcb : c ≠ b := fun e => hbc e.symm;have hca : c ≠ a := fun e => hac e.symm;have hxl := H.r1
 -- behind the call: both stores
 have D1 : ∀ (W : World) (cs : List Value) (act' : Act), Below w.heap.size w W → act'.eval (.tmp p4) = .pointer (some ⟨gs, 0, none⟩) → act'.eval (.tmp b) = .agg ys.toArray → Xb P l.toArray Q S late E act' ((W.setRow gr cs.toArray).setRow gs ys.toArray) → Gq P l Q S late m E act' (W.setRow gr cs.toArray) := fun W cs act' hB u1 u2 K' =>
  Vh h4 q4.1 q4.2.1 q4.2.2 u1 u2 hl.2 (Zv.blk (hy.below hB hy.lt) (fun e => H.ne.2 e)) hyl H.r2 H.o2 K'
 have D2 : ∀ (W : World) (cs : List Value) (r : Ord) (act' : Act), Below w.heap.size w W → cs.length = xs.length → cs.toArray.all (·.oneCell') = true → act'.eval (.tmp p3) = .pointer (some ⟨gr, 0, none⟩) → act'.eval (.tmp c) = .agg cs.toArray → Xb P l.toArray Q S late r act' (W.setRow gr cs.toArray) → Gq P l Q S late k r act' W := fun W cs r act' hB hcs ho u1 u2 K' =>
  Vh h3 q3.1 q3.2.1 q3.2.2 u1 u2 hl.1 (hz.below hB hz.lt) (by rw [hcs]; exact hzl) (by rw [hcs]; exact hxl) ho K'
 have D3 : ∀ (r : Ord) (act' : Act), act'.eval (.tmp a) = .agg xs.toArray → (∀ p, p ≠ a → p ≠ b → act'.eval (.tmp p) = act.eval (.tmp p)) →
   (∀ (cs : List Value) (W : World), cs.length = xs.length → cs.toArray.all (·.oneCell') = true → Z cs W → Below w.heap.size w W → Xb P l.toArray Q S late r (act'.put (some c) (.agg cs.toArray)) W) → Gq P l Q S late cc r act' w := fun r act' u1 u2 K' => by
  refine Zmq hc qc.1 qc.2.1 qc.2.2 hf.1 hf.2.1 hf.2.2 (hargs act' u1 u2) C ?_;rintro e w' ⟨cs, rfl, hcs, ho, hZ, hB⟩;exact ⟨_, rfl, fun _ hs => hS w w' hB hs, K' cs w' hcs ho hZ hB⟩
 refine ⟨?_, ?_⟩
 ·refine Xv h1 q1.1 q1.2.1 q1.2.2 v1 H.bd H.r1 ⟨?_, ?_⟩
  ·refine D3 _ _ (Wv hsz.1) (fun p u _ => Zn u) fun cs W hcs ho hZ hB => ⟨?_, ?_⟩
   ·refine Xv h2 q2.1 q2.2.1 q2.2.2 (by rw [Zn e2, Zn n2]; exact v2) (H.bx.below hB H.bx.lt) H.r2 ?_
    refine D2 W cs _ _ hB hcs ho (by rw [Zn m3, Zn e3, Zn n3]; exact v3) (by rw [Zn hcb, Wv (by rw [Ul]; exact hsz.2.2)]) ?_;exact N88
   ·refine D2 W cs _ _ hB hcs ho (by rw [Zn e3, Zn n3]; exact v3) (by rw [Wv (by rw [Ul]; exact hsz.2.2)]) ?_
    refine Xv h2 q2.1 q2.2.1 q2.2.2 (by rw [Zn e2, Zn n2]; exact v2) (Zv.blk (H.bx.below hB H.bx.lt) (fun e => H.ne.1 e)) H.r2 ?_;exact N88
  ·refine Xv h2 q2.1 q2.2.1 q2.2.2 (by rw [Zn n2]; exact v2) H.bx H.r2 ?_
   refine D3 _ _ (by rw [Zn hab, Wv hsz.1]) (fun p u1 u2 => by rw [Zn u2, Zn u1]) fun cs W hcs ho hZ hB => ?_;refine D2 W cs _ _ hB hcs ho (by rw [Zn e3, Zn m3, Zn n3]; exact v3) (by rw [Wv (by rw [Ul, Ul]; exact hsz.2.2)]) ?_;refine D1 W cs _ hB (by rw [Zn e4, Zn m4, Zn n4]; exact v4) (by rw [Zn hbc, Wv (by rw [Ul]; exact hsz.2.1)]) ?_;rw [Zcg hbc]; exact K cs W hcs hZ hB
 ·refine Xv h2 q2.1 q2.2.1 q2.2.2 v2 H.bx H.r2 ?_
  refine Xv h1 q1.1 q1.2.1 q1.2.2 (by rw [Zn m1]; exact v1) H.bd H.r1 ?_;refine D3 _ _ (Wv (by rw [Ul]; exact hsz.1)) (fun p u1 u2 => by rw [Zn u1, Zn u2]) fun cs W hcs ho hZ hB => ?_;refine D2 W cs _ _ hB hcs ho (by rw [Zn e3, Zn n3, Zn m3]; exact v3) (by rw [Wv (by rw [Ul, Ul]; exact hsz.2.2)]) ?_;refine D1 W cs _ hB (by rw [Zn e4, Zn n4, Zn m4]; exact v4) (by rw [Zn hbc, Zn hba, Wv hsz.2.1]) ?_;rw [Zcg hba, Zcg hbc]; exact K cs W hcs hZ hB
end
structure Own (w W : World) (l : List (Nat × TypeId × List Value)) : Prop where
 blk : ∀ e ∈ l, Blk W e.1 e.2.1 e.2.2.toArray
 nd : (l.map (·.1)).Nodup
 ge : ∀ e ∈ l, w.heap.size ≤ e.1
 bel : Below w.heap.size w W
section
variable {w W W' : World} {l : List (Nat × TypeId × List Value)} {i j g g' : Nat} {t t' : TypeId} {cs cs' : List Value}
theorem Own.start (w : World) : Own w w [] := ⟨fun _ h => kx, List.nodup_nil, fun _ h => kx, Below.refl _ _⟩
theorem Own.get (h : Own w W l) (i : Nat) (hi : l[i]? = some (g, t, cs)) : Blk W g t cs.toArray := h.blk _ (List.mem_of_getElem? hi)
theorem Own.low (h : Own w W l) (i : Nat) (hi : l[i]? = some (g, t, cs)) : w.heap.size ≤ g ∧ g < W.heap.size := ⟨h.ge _ (List.mem_of_getElem? hi), (h.get i hi).lt⟩
theorem Own.ne (h : Own w W l) (i j : Nat) (hi : l[i]? = some (g, t, cs)) (hj : l[j]? = some (g', t', cs')) (hij : i ≠ j) : g ≠ g' := by
 intro e;have h1 : (l.map (·.1))[i]? = some g := by rw [List.getElem?_map, hi]; rfl
 have h2 : (l.map (·.1))[j]? = some g := by rw [List.getElem?_map, hj, e]; rfl
 have h3 := h.nd;obtain ⟨a1, e1⟩ := List.getElem?_eq_some_iff.1 h1;obtain ⟨a2, e2⟩ := List.getElem?_eq_some_iff.1 h2;exact hij (by have h4 := List.pairwise_iff_getElem.1 h3; rcases Nat.lt_trichotomy i j with q | q | q; exact absurd (e1.trans e2.symm) (h4 i j a1 a2 q); exact q; exact absurd (e2.trans e1.symm) (h4 j i a2 a1 q))
theorem Own.below (h : Own w W l) (hb : Below W.heap.size W W') : Own w W' l :=
 ⟨fun e he => (h.blk e he).below hb (h.blk e he).lt, h.nd, h.ge, h.bel.trans (hb.mono h.bel.size)⟩
theorem Own.alloc (h : Own w W l) (cs : List Value) (t : TypeId) : Own w (W.alloc (.cells cs.toArray t)) (l ++ [(W.heap.size, t, cs)]) := by
 have hb : Below W.heap.size W (W.alloc (.cells cs.toArray t)) := (Below.refl _ _).alloc (Nat.le_refl _) _;refine ⟨fun e he => ?_, ?_, fun e he => ?_, h.bel.trans (hb.mono h.bel.size)⟩
 ·rcases List.mem_append.1 he with he | he
  ·exact (h.blk e he).below hb (h.blk e he).lt
  ·rw [List.mem_singleton] at he; subst he; exact Blk.new W t _
 ·rw [List.map_append, List.nodup_append]
  refine ⟨h.nd, ah, fun a ha b hb => ?_⟩;obtain ⟨e, he, rfl⟩ := List.mem_map.1 ha;have := (h.blk e he).lt;simp at hb; omega
 ·rcases List.mem_append.1 he with he | he
  ·exact h.ge e he
  ·rw [List.mem_singleton] at he; subst he; exact h.bel.size
theorem Own.keep (h : Own w W l) (i : Nat) (hi : l[i]? = some (g, t, cs)) (hk : Za (fun k => k = g) W W') (hb : Blk W' g t cs'.toArray) : Own w W' (l.set i (g, t, cs')) := by
 have hil := (List.getElem?_eq_some_iff.1 hi).1
 have hm : (l.set i (g, t, cs')).map (·.1) = l.map (·.1) := by
  rw [List.map_set];have e : (l.map (·.1))[i]? = some g := by rw [List.getElem?_map, hi]; rfl
  obtain ⟨a1, e1⟩ := List.getElem?_eq_some_iff.1 e;show (l.map (·.1)).set i g = _;rw [← e1, List.set_getElem_self]
 refine ⟨fun e he => ?_, by rw [hm]; exact h.nd, fun e he => ?_, h.bel.trans (hk.below h.bel.size (fun k (e : k = g) => by rw [e]; exact (h.low i hi).1))⟩
 ·obtain ⟨j, hj, e1⟩ := List.getElem_of_mem he
  rw [List.length_set] at hj;by_cases hij : i = j
  ·subst hij
   rw [List.getElem_set_self] at e1;rw [← e1]; exact hb
  ·rw [List.getElem_set_ne hij] at e1
   rw [← e1];have hj2 : l[j]? = some ((l[j]).1, (l[j]).2.1, (l[j]).2.2) := List.getElem?_eq_getElem hj;exact hk.blk (h.get j hj2) (h.ne j i hj2 hi (fun e => hij e.symm))
 ·rcases List.mem_or_eq_of_mem_set he with he | rfl
  ·exact h.ge e he
  ·exact (h.low i hi).1
theorem Own.put (h : Own w W l) (i : Nat) (hi : l[i]? = some (g, t, cs)) (k : Nat) (vs : List Value) (hl : k + vs.length ≤ cs.length) (he : cs.take k ++ vs ++ cs.drop (k + vs.length) = cs') : Own w (Xe W g k vs) (l.set i (g, t, cs')) :=
 h.keep i hi (Xh g vs W k) (Ui (h.get i hi) k vs hl he)
theorem Own.putA (h : Own w W l) (i : Nat) (hi : l[i]? = some (g, t, cs)) (k : Nat) (vs : List Value) (hl : (k + vs.length).ble cs.length = true) : Own w (Xe W g k vs) (l.set i (g, t, cs.take k ++ vs ++ cs.drop (k + vs.length))) := h.put i hi k vs (Nat.le_of_ble_eq_true hl) rfl
theorem Own.rng {w0 : World} {G : Nat → Prop} (h : Own w W l) (h0 : Za G w0 w) (i : Nat) (hi : l[i]? = some (g, t, cs)) : w0.heap.size ≤ g ∧ g < W.heap.size := ⟨Nat.le_trans h0.size (h.low i hi).1, (h.low i hi).2⟩
theorem Own.rows4 {P : Program} (h : Own w W l) (i j k m : Nat) {gd gx gr gs : Nat} {t1 t2 : TypeId} {xs ys z1 z2 : List Value} (hd : l[i]? = some (gd, t1, xs)) (hx : l[j]? = some (gx, t2, ys)) (hr : l[k]? = some (gr, t1, z1)) (hs : l[m]? = some (gs, t2, z2)) (hjk : j ≠ k) (hmk : m ≠ k) (l1 : z1.length = xs.length) (l2 : z2.length = ys.length)
  (r1 : Zes P t1 xs.length) (r2 : Zes P t2 ys.length) (o1 : xs.toArray.all (·.oneCell') = true) (o2 : ys.toArray.all (·.oneCell') = true) : Zob P t1 t2 gd gx gr gs xs ys W :=
 ⟨h.get i hd, h.get j hx, ⟨_, h.get k hr, by rw [List.size_toArray, l1]⟩, ⟨_, h.get m hs, by rw [List.size_toArray, l2]⟩, ⟨h.ne j k hx hr hjk, h.ne m k hs hr hmk⟩, r1, r2, o1, o2⟩
end
theorem Zrk {w wz : World} {c1 c2 c3 c4 : List Value} {t1 t2 t3 t4 : TypeId} (h : (((w.alloc (.cells c1.toArray t1)).alloc (.cells c2.toArray t2)).alloc (.cells c3.toArray t3)).alloc (.cells c4.toArray t4) = wz) : ∃ g1 g2 g3 g4, w.heap.size = g1 ∧ w.heap.size + 1 = g2 ∧ w.heap.size + 2 = g3 ∧ w.heap.size + 3 = g4 ∧ Hid (Own w wz [(g1, t1, c1), (g2, t2, c2), (g3, t3, c3), (g4, t4, c4)]) := by
 subst h;have h := ((((Own.start w).alloc c1 t1).alloc c2 t2).alloc c3 t3).alloc c4 t4;refine ⟨_, _, _, _, rfl, rfl, rfl, rfl, ?_⟩;simpa [Hid] using h
theorem Zsl {w wz : World} {c1 c2 c3 : List Value} {t1 t2 t3 : TypeId} (h : ((w.alloc (.cells c1.toArray t1)).alloc (.cells c2.toArray t2)).alloc (.cells c3.toArray t3) = wz) : ∃ g1 g2 g3, w.heap.size = g1 ∧ w.heap.size + 1 = g2 ∧ w.heap.size + 2 = g3 ∧ Hid (Own w wz [(g1, t1, c1), (g2, t2, c2), (g3, t3, c3)]) := by
 subst h;have h := (((Own.start w).alloc c1 t1).alloc c2 t2).alloc c3 t3;refine ⟨_, _, _, rfl, rfl, rfl, ?_⟩;simpa [Hid] using h
theorem Own.two {w wz wu : World} {l : List (Nat × TypeId × List Value)} {c1 c2 : List Value} {t1 t2 : TypeId} (H : Own w wz l) (h : (wz.alloc (.cells c1.toArray t1)).alloc (.cells c2.toArray t2) = wu) : ∃ g1 g2, wz.heap.size = g1 ∧ wz.heap.size + 1 = g2 ∧ Hid (Own w wu (l ++ [(g1, t1, c1), (g2, t2, c2)])) ∧ Hid (Below wz.heap.size wz wu) := by
 subst h;have h := (H.alloc c1 t1).alloc c2 t2;refine ⟨_, _, rfl, rfl, ?_, Uu _ _ _⟩;simpa [Hid] using h
theorem bwS {wb : World} : ∀ W W' : World, Below W.heap.size W W' → (∃ q : BW wb.heap.size wb, W = q.1) → ∃ q : BW wb.heap.size wb, W' = q.1 := fun _ W' hb ⟨q, e⟩ => ⟨⟨W', q.2.trans (by rw [← e]; exact hb.mono (by rw [e]; exact q.2.size))⟩, rfl⟩
theorem Wj.step {b g : Nat} {G : Nat → Prop} {w0 w w' w2 : World} {x : Zf} {v : Value} (h : Wj b G w0 w w' x v) (hk : Za (fun k => k = g) w' w2) (hg : w0.heap.size ≤ g ∧ g < w.heap.size) : Wj b G w0 w w2 x v :=
 h.use (hk.mono (fun k _ (e : k = g) => by rw [e]; exact .inr hg)) (Nat.le_refl _)
theorem Wj.calm {b : Nat} {G : Nat → Prop} {w0 w w' w2 : World} {x : Zf} {v : Value} (h : Wj b G w0 w w' x v) (hb : Below w'.heap.size w' w2) : Wj b G w0 w w2 x v := h.use (Za.of_below hb) (Nat.le_refl _)
theorem Wj.less {b : Nat} {G : Nat → Prop} {w0 w w1 w2 : World} {x : Zf} {v : Value} (h : Wj b G w0 w1 w2 x v) (hs : w.heap.size ≤ w1.heap.size) : Wj b G w0 w w2 x v := h.use (Za.refl _ _) hs
theorem Ua {P : Program} {W : World} {gr gs : Nat} {t1 t2 : TypeId} {cs ys : List Value} {z1 z2 : Array Value} (hr : Blk W gr t1 z1) (hs : Blk W gs t2 z2) (hne : gs ≠ gr) (h1 : Zes P t1 cs.length) (h2 : Zes P t2 ys.length) :
  (loadVar t1 ⟨gr, 0, none⟩).run P ((W.setRow gr cs.toArray).setRow gs ys.toArray) = .ok (.agg cs.toArray) ((W.setRow gr cs.toArray).setRow gs ys.toArray) ∧ (loadVar t2 ⟨gs, 0, none⟩).run P ((W.setRow gr cs.toArray).setRow gs ys.toArray) = .ok (.agg ys.toArray) ((W.setRow gr cs.toArray).setRow gs ys.toArray) ∧ Za (fun k => k = gr ∨ k = gs) W ((W.setRow gr cs.toArray).setRow gs ys.toArray) := by
 obtain ⟨d1, a1, b1, c1⟩ := h1;obtain ⟨d2, a2, b2, c2⟩ := h2;have k1 : Za (fun k => k = gr) W (W.setRow gr cs.toArray) := Zv;have k2 : Za (fun k => k = gs) (W.setRow gr cs.toArray) ((W.setRow gr cs.toArray).setRow gs ys.toArray) := Zv;have e1 := k2.blk (hr.setRow cs.toArray) (fun e => hne e.symm);have e2 := (k1.blk hs hne).setRow ys.toArray;exact ⟨run_loadVar_mid (P := P) _ gr 0 t1 cs d1 (Blk.range e1) a1 b1 c1, run_loadVar_mid (P := P) _ gs 0 t2 ys d2 (Blk.range e2) a2 b2 c2, ((k1.mono (fun _ _ h => .inl h)).trans k2 (fun k h => .inl (.inr h)))⟩
theorem Ya (xs : List Value) (h : xs.length = 28) : Zes Tryz.prog 41 xs.length := ⟨_, Tryz.underlying41, rfl, by rw [h]; exact Zk⟩
theorem Yd (xs : List Value) (h : xs.length = 6) : Zes Tryz.prog 51 xs.length := ⟨_, Tryz.underlying51, rfl, by rw [h]; kernel_rfl⟩
theorem N83{P:Prop}(h:P:=by
 have h28 : cs.toArray.size = 28 := by rw [List.size_toArray, HCS.out]
 rw [Hid, h28]; rfl):P:=h
theorem N47{P:Prop}(h:P:=by
 rw [← HQ.out, HF.out];refine ⟨_, rfl, ((((HRL.calm HBE.out).step Zv (HC.rng HB0W.out 2 rfl)).step Zv (HC.rng HB0W.out 3 rfl)).less HC.bel.size), HE.bel.trans (hf.2.2.below HE.bel.size (fun k h => ao))⟩):P:=h
theorem N17{P:Prop}(h:P:=by
 refine Zg wl.heap.size [2, 3] (.two 0 (.two 1 (.op 2 (.op 3 (.nil))) 2 (.op 1 (.op 3 (.nil)))) 1 (.op 0 (.op 2 (.op 3 (.nil))))) ab ab ?_;obtain ⟨we, hwc, HBE⟩ := dw wl;rw [hwc];clear hwc;have HE := hid (HL.below HBE.out);refine Zax (HE.rows4 0 1 2 3 rfl rfl rfl rfl ac ac fj rfl (Ya cs HCS.out) (Yd [vt, vl, (J.2 : Int), .int .i64 0, (rd : Int), vs] rfl) HCA.out ab) rfl rfl rfl rfl ⟨rfl, rfl, rfl⟩ ⟨rfl, rfl, rfl⟩ ⟨rfl, rfl, rfl⟩ ⟨rfl, rfl, rfl⟩ rfl rfl rfl rfl ⟨rfl, rfl⟩ ⟨Nat.le_of_ble_eq_true rfl, Nat.le_of_ble_eq_true rfl⟩ ac ?_;refine Zi ?_;go_wp2_with fail;have hf := Ua (cs := cs) (ys := [vt, vl, (J.2 : Int), .int .i64 0, (rd : Int), vs]) (HE.get 2 rfl) (HE.get 3 rfl) (HE.ne 3 2 rfl rfl ac) (Ya cs HCS.out) (Yd _ rfl);refine bodyPost_ret (Vv (Yl.cell rfl hf.1) (Yl.cell rfl hf.2.1) Tryz.results135) rfl ?_;rw [← HQ.out, HF.out];refine ⟨_, rfl, (((HRL.calm HBE.out).step Zv (HX.rng HB0W.out 2 rfl)).step Zv (HX.rng HB0W.out 3 rfl)).less HX.bel.size, HE.bel.trans (hf.2.2.below HE.bel.size (fun k h => ao))⟩):P:=h
theorem N145{P:Prop}(h:P:=by
 rw [← HQ.out, HF.out];refine ⟨_, rfl, (((hru.step Zv (HE.rng HB0W.out 2 rfl)).step Zv (HE.rng HB0W.out 3 rfl)).less HE.bel.size), HG.bel.trans (hf.2.2.below HG.bel.size (fun k h => io))⟩):P:=h
theorem Zrt {b : Nat} {G : Nat → Prop} {w0 w : World} {x : Zf} {v : Value} (h : Qh b G w0 x v) (hw : Za G w0 w) (hbw : b ≤ w.heap.size) (hok : Ys x) (hj : Uw x) (hk : x.op.kind = 2) (hP : x.P.length = x.op.arms.length) (hs : x.seen ≤ x.S.length) (hS : x.S.length ≤ x.s.win.toNat) (hSR : x.S.length + x.R.length ≤ 1000) (hl8 : x.P.length ≤ 8) (hl60 : ∀ l ∈ x.P, l.length ≤ 60) (vt vl vs : Int) :
  Calls Tryz.prog 135 #[v, .agg #[vt, vl, .int .i64 0, .int .i64 0, .int .i64 0, vs]] w fun e w' => ∃ v', e = .returned (.tuple #[v', .agg #[vt, vl, (x.look.2.1 : Int), (x.look.2.2.1 : Int), (x.look.2.2.2 : Int), vs]]) ∧ Wj b G w0 w w' x.look.1 v' ∧ Below w.heap.size w w' := by
 obtain ⟨lv, rg, wn, ou, qu, vi, dl, jp, lo, st, ju, d1, d2, d3, wi, se, mo, tr, nw, nm, inn, sS, dn, ot, rs, A, Av, n, c, nv, cv, ef, rfl, hE⟩ := h.opened;have hbd := Qt hok.good;have hlt : x.loc < x.p.ops.length := Mv x aa;obtain ⟨L, hL⟩ := nE (Vu x.s.win.toNat x.P x.S x.seen x.R)
 have HLK : Hid (x.look = if L.mtch = true then (((x.looked L).jump 2 (x.op.arms.getD L.arm ⟨⟨#[]⟩, 0⟩).tt).1, ((x.looked L).jump 2 (x.op.arms.getD L.arm ⟨⟨#[]⟩, 0⟩).tt).2, L.arm, L.gone)
  else if L.full = true then ((x.looked L).stop 4, 13, 0, L.read)
  else if x.eof = true then (((x.looked L).jump 4 x.op.onE).1, ((x.looked L).jump 4 x.op.onE).2, 0, L.read)
  else if Ww x.due.til x.now = true then (((x.looked L).jump 3 x.op.onT).1, ((x.looked L).jump 3 x.op.onT).2, 0, L.read)
  else (x.looked L, 1, 0, L.read)) := by rw [Hid, ← hL]; rfl
 have HARM : Hid (L.mtch = true → L.arm < x.op.arms.length) := fun hm => by rw [← hL] at hm ⊢; rw [← hP]; exact Zit _ _ _ _ _ hm
 have CLK : Hid (∀ W, Below w.heap.size w W → Calls Tryz.prog 164 #[.agg #[wi, sS, se, .slice Av nv cv], inn] W fun e w' => e = .returned (.tuple #[.agg #[wi, .string (rgT L.S), (L.seen : Int), .slice Av nv cv], .string (rgT L.R), .agg #[L.mtch, L.full, (L.arm : Int), (L.gone : Int), (L.read : Int)]]) ∧ Below W.heap.size W w') := fun W hW => by
  have h1 := Zja b x.s.win.toNat x.seen x.S x.R (.slice Av nv cv) x.P W (hE.pat _ (Uv hw hW)) hs hS aa hSR hl8 hl60;rw [hL] at h1;have h2 : ((x.s.win.toNat : Nat) : Int) = wi := by rw [hE.e16]; omega
  unfold Mr Jp at h1;rw [h2, ← hE.e17, ← hE.e18, ← hE.e15] at h1;exact h1
 obtain ⟨tS, htS⟩ := nE (rgT L.S);obtain ⟨tR, htR⟩ := nE (rgT L.R);obtain ⟨sn, hsn⟩ := nE ((L.seen : Int));have HTS := hid htS; have HTR := hid htR; have HSN := hid hsn;rw [htS, htR, hsn] at CLK;have HREF : Hid (Qh b G w0 (x.looked L) (.agg #[lv, rg, wn, ou, qu, vi, nm, dl, jp, .slice A n c, lo, st, ju, d1, d2, d3, tR, wi, tS, (sn : Int), .slice Av nv cv, dn, ot, rs, mo, tr, ef, nw])) := Qh.make (y := x.looked L) ⟨hE.e0, hE.e1, hE.e2, hE.e3, hE.e4, hE.e5, hE.e6, hE.e7, hE.e8, hE.e9, hE.e10, hE.e11, hE.e12, hE.e13, hE.e14, HTR.symm, hE.e16, HTS.symm, HSN.symm, hE.e19, hE.e20, hE.e21, hE.e22, hE.e23, hE.e24, hE.e25, hE.lt, hE.ops, hE.pat⟩
 have CJ : Hid (∀ W (what : Nat) (tt : Int), Below w.heap.size w W → Calls Tryz.prog 134 #[.agg #[lv, rg, wn, ou, qu, vi, nm, dl, jp, .slice A n c, lo, st, ju, d1, d2, d3, tR, wi, tS, (sn : Int), .slice Av nv cv, dn, ot, rs, mo, tr, ef, nw], tt, (what : Int)] W fun e w' => ∃ v', e = .returned (.tuple #[v', ((((x.looked L).jump what tt).2 : Nat) : Int)]) ∧ Wj b G w0 W w' ((x.looked L).jump what tt).1 v' ∧ Below W.heap.size W w') := fun W what tt hW =>
  Zog HREF.out (Uv hw hW) (Nat.le_trans hbw hW.size) (hok.looked L) hj what tt
 have CEN : Hid (∀ W, Below w.heap.size w W → Calls Tryz.prog 132 #[.agg #[lv, rg, wn, ou, qu, vi, nm, dl, jp, .slice A n c, lo, st, ju, d1, d2, d3, tR, wi, tS, (sn : Int), .slice Av nv cv, dn, ot, rs, mo, tr, ef, nw], .int .i64 4] W fun e w' => ∃ v', e = .returned v' ∧ Wj b G w0 W w' ((x.looked L).stop 4) v' ∧ Below W.heap.size W w') := fun W hW => Zn9 HREF.out (Uv hw hW) (hok.looked L) 4;have CDU : Hid (∀ W, Calls Tryz.prog 131 #[d1, nw] W fun e w' => e = .returned (.bool (Ww x.due.til x.now)) ∧ W = w') := fun W => by rw [← hE.e12, ← hE.e24]; exact Zez _ _ W
 have HEF := hid hE.e23;have HB0W := hid hw;have HLO : Hid (lo = (x.loc : Int) ∧ n = x.p.ops.length) := ⟨hE.e9, hE.e25⟩;have HOPS := hid (hE.ops w hw);have HOP : Hid (∀ h : x.loc < x.p.ops.length, x.op = x.p.ops[x.loc]'h) := fun hlt => by unfold Zf.op; rw [List.getD_eq_getElem?_getD, List.getElem?_eq_getElem hlt]; rfl
 obtain ⟨du, hdu⟩ := nE (Ww x.due.til x.now);rw [hdu] at HLK CDU;obtain ⟨K, hK⟩ := nE (x.look);rw [hK] at HLK ⊢;obtain ⟨Q, hQ⟩ : ∃ Q : Ending → World → Prop, (fun e w' => ∃ v', e = .returned (.tuple #[v', .agg #[vt, vl, (K.2.1 : Int), (K.2.2.1 : Int), (K.2.2.2 : Int), vs]]) ∧ Wj b G w0 w w' K.1 v' ∧ Below w.heap.size w w') = Q := ⟨_, rfl⟩;have HQ := hid hQ;rw [hQ];have HLT := hid hlt;clear hQ hK hdu hlt hE h hw hok hj hk hP hs hS hSR hl8 hl60 hbd hL htS htR hsn hbw;go_enter Tryz.func135, Tryz.ntmps135;go_upto_region 1 with fail;generalize hwz : (((w.alloc (.cells #[lv, rg, wn, ou, qu, vi, nm, dl, jp, .slice A n c, lo, st, ju, d1, d2, d3, inn, wi, sS, se, .slice Av nv cv, dn, ot, rs, mo, tr, ef, nw] 41)).alloc (.cells #[vt, vl, .int .i64 0, .int .i64 0, .int .i64 0, vs] 51)).alloc (.cells zd 41)).alloc (.cells zs 51) = wz;obtain ⟨gd, gx, gr, gs, hgd, hgx, hgr, hgs, HZ⟩ := Zrk hwz;rw [hgs, hgr, hgx, hgd];clear hgs hgr hgx hgd hwz;have HB0Z : Hid (Below w.heap.size w wz) := HZ.bel;obtain ⟨b1, o1, va, hA, hbl, hva, q0, q1, q2, q3, q4, q5, q6⟩ := HOPS.at x.loc HLT.out;rw [← HOP.out HLT.out] at q0 q1 q2 q3 q5 q6 hva;obtain ⟨Aa, ca, rfl, hra⟩ := hva;have HRA : Hid (∀ W, Below w.heap.size w W → Rd W Aa (Zz x.op.arms)) := fun W hW => hra.below hW;have hup : ∀ j u, w.cell? ⟨b1, j, none⟩ = some u → wz.cell? ⟨b1, j, none⟩ = some u := fun j u hu => (World.cell?_of_block (a := ⟨b1, j, none⟩) (HB0Z.block b1 hbl)).trans hu;replace q0 := hup _ _ q0;replace q1 := hup _ _ q1;replace q2 := hup _ _ q2;replace q3 := hup _ _ q3;replace q4 := hup _ _ q4;replace q5 := hup _ _ q5;replace q6 := hup _ _ q6;replace hbl : b1 < wz.heap.size := Nat.lt_of_lt_of_le hbl HB0Z.size;clear hup HB0Z;obtain ⟨op, hope⟩ := nE (x.op);rw [hope] at HLK HARM HRA q0 q1 q2 q3 q4 q5 q6;obtain ⟨ok, ox, on, og, arms, oT, oE⟩ := op;obtain ⟨na, hna⟩ := nE (arms.length);have HNA := hid hna;simp only at HLK HARM HRA q0 q1 q2 q3 q4 q5 q6;rw [hna] at HARM q4;have x9 : wz.cell? ⟨gd, 9, none⟩ = some (.slice (some ⟨b1, o1, none⟩) n c) := hA ▸ (HZ.get 0 rfl).cell 9;have x10 : wz.cell? ⟨gd, 10, none⟩ = some (.int .i64 (x.loc : Int)) := by rw [← HLO.1]; exact (HZ.get 0 rfl).cell 10
 have xl := (HZ.get 0 rfl).lt;have hin : (x.loc : Int) < (n : Int) := by have := HLT.out; have := HLO.2; omega
 clear hope hna hra HOP HLT HOPS hA HLO;go_upto_region 2 with fail;obtain ⟨wu, hwu⟩ := nE ((wz.alloc (.cells #[ok, ox, on, og, .slice Aa na ca, oT, oE] 56)).alloc (.cells #[.bool false, .bool false, .int .i64 0, .int .i64 0, .int .i64 0] 191));obtain ⟨go, gf, hgo, hgf, HU, HBU⟩ := HZ.two hwu;rw [hwu, hgf, hgo];obtain ⟨mt, hmt⟩ := nE (L.mtch);obtain ⟨fl, hfl⟩ := nE (L.full);obtain ⟨ar, har⟩ := nE (L.arm);obtain ⟨gn, hgn⟩ := nE (L.gone);obtain ⟨rd, hrd⟩ := nE (L.read);rw [hmt, hfl, har, hgn, hrd] at CLK HLK;rw [hmt, har] at HARM;clear hwu hgo hgf hmt hfl har hgn hrd x9 x10 xl q0 q1 q2 q3 q4 q5 q6 hbl hin HZ HBU;have CL := hid (CLK.out wu HU.bel);have x16 := cA (HU.get 0 rfl) 16 (.string inn) rfl;have x17 := cA (HU.get 0 rfl) 17 (.int .i64 wi) rfl;have x18 := cA (HU.get 0 rfl) 18 (.string sS) rfl;have x19 := cA (HU.get 0 rfl) 19 (.int .i64 se) rfl;have x20 := cA (HU.get 0 rfl) 20 (.slice Av nv cv) rfl;have xl := (HU.get 0 rfl).lt;clear CLK;go_wp2_with fail;refine CL.mono ?_;rintro en w1 ⟨rfl, hb⟩;have H1 := hid (HU.below hb);clear hb HU CL x16 x17 x18 x19 x20 xl;have x16 := cA (H1.get 0 rfl) 16 (.string inn) rfl;have x17 := cA (H1.get 0 rfl) 17 (.int .i64 wi) rfl;have x18 := cA (H1.get 0 rfl) 18 (.string sS) rfl;have x19 := cA (H1.get 0 rfl) 19 (.int .i64 se) rfl;have x20 := cA (H1.get 0 rfl) 20 (.slice Av nv cv) rfl;have xl := (H1.get 0 rfl).lt;have xf := Yu (H1.get 0 rfl);obtain ⟨f0, f1, f2, f3, f4⟩ := Vr (H1.get 5 rfl);have fl' := (H1.get 5 rfl).lt;have ff := Yu (H1.get 5 rfl);have hdf : gd ≠ gf := H1.ne 0 5 rfl rfl ac;go_upto_region 3 with fail;obtain ⟨wv, hwv⟩ := nE (Xe (Xe (Xe w1 gd 17 [wi, tS, sn, .slice Av nv cv]) gd 16 [tR]) gf 0 [mt, fl, (ar : Int), (gn : Int), (rd : Int)])
 have HV : Hid (Own w wv [(gd, 41, [lv, rg, wn, ou, qu, vi, nm, dl, jp, .slice A n c, lo, st, ju, d1, d2, d3, tR, wi, tS, (sn : Int), .slice Av nv cv, dn, ot, rs, mo, tr, ef, nw]), (gx, 51, [vt, vl, .int .i64 0, .int .i64 0, .int .i64 0, vs]), (gr, 41, zd), (gs, 51, zs), (go, 56, [ok, ox, on, og, .slice Aa na ca, oT, oE]), (gf, 191, [mt, fl, (ar : Int), (gn : Int), (rd : Int)])]) := by
  rw [Hid, ← hwv];exact ((H1.putA 0 rfl 17 _ rfl).putA 0 rfl 16 _ rfl).putA 5 rfl 0 _ rfl
 simp only [Xe, Nat.reduceAdd] at hwv;rw [hwv];clear hwv H1 x16 x17 x18 x19 x20 xl xf f0 f1 f2 f3 f4 fl' ff hdf;have f4 := cA (HV.get 5 rfl) 4 (.int .i64 (rd : Int)) rfl;have x4 := cA (HV.get 1 rfl) 4 (.int .i64 0) rfl;have xf := Yu (HV.get 1 rfl);have yl := (HV.get 5 rfl).lt;have xl := (HV.get 1 rfl).lt;go_upto_region 4 with fail;obtain ⟨wx, hwx⟩ := nE (Xe wv gx 4 [(rd : Int)]);have HX : Hid (Own w wx [(gd, 41, [lv, rg, wn, ou, qu, vi, nm, dl, jp, .slice A n c, lo, st, ju, d1, d2, d3, tR, wi, tS, (sn : Int), .slice Av nv cv, dn, ot, rs, mo, tr, ef, nw]), (gx, 51, [vt, vl, .int .i64 0, .int .i64 0, (rd : Int), vs]), (gr, 41, zd), (gs, 51, zs), (go, 56, [ok, ox, on, og, .slice Aa na ca, oT, oE]), (gf, 191, [mt, fl, (ar : Int), (gn : Int), (rd : Int)])]) := by rw [Hid, ← hwx]; exact HV.putA 1 rfl 4 _ rfl
 simp only [Xe] at hwx;rw [hwx];clear hwx HV f4 x4 xf yl xl;have HB0X : Hid (Below w.heap.size w wx) := HX.bel;have g0 := cA (HX.get 5 rfl) 0 (.bool mt) rfl;have gl := (HX.get 5 rfl).lt;cases mt
 case true =>
  have HF : Hid (K = (((x.looked L).jump 2 (arms.getD ar ⟨⟨#[]⟩, 0⟩).tt).1, ((x.looked L).jump 2 (arms.getD ar ⟨⟨#[]⟩, 0⟩).tt).2, ar, gn)) := HLK.trans (if_pos rfl);have har : ar < na := HARM.out rfl;have HAR := hid har;have hari : (ar : Int) < (na : Int) := aa
  clear HLK HARM CDU CEN HEF har;go_upto_region 5 with fail;clear g0 gl;have TF2 := tA (HX.get 5 rfl) 2 (.int .i64 (ar : Int)) rfl;refine Zg wx.heap.size [5, 7] (.val 0 (.val 1 (.val 2 (.val 4 (.two 3 (.op 5 (.val 6 (.op 7 (.nil)))) 5 (.op 3 (.val 6 (.op 7 (.nil))))))))) ab ab ?_;obtain ⟨wc, hwc, HBW⟩ := dw wx;rw [hwc];clear hwc;have HC := hid (HX.below HBW.out);have x3 := cA (HC.get 1 rfl) 3 (.int .i64 0) rfl;have x4 := cA (HC.get 1 rfl) 4 (.int .i64 (rd : Int)) rfl;have f3 := cA (HC.get 5 rfl) 3 (.int .i64 (gn : Int)) rfl;have xf := Yu (HC.get 1 rfl);have xl := (HC.get 1 rfl).lt;have yl := (HC.get 5 rfl).lt;have hxf : gf ≠ gx := HC.ne 5 1 rfl rfl ac
  iterate 4 ((first | refine Zd rfl rfl ?_ | refine Zw rfl rfl (Xp HBW.out) ?_); go_big_quiet_step (fail); refine wpQuiet_nil ?_)
  refine Vg rfl rfl ?_ ?_
  focus
   go_wp2_with fail;refine KT.same ?_;refine Ze rfl ?_;go_wp2_with fail;refine KT.past rfl ?_
   iterate 1 (refine Zd rfl rfl ?_; go_big_quiet_step (fail); refine wpQuiet_nil ?_)
   refine Ze rfl ?_;go_wp2_with fail;refine KT.past rfl ?_;refine Zi ?_
  rotate_left
  focus
   go_wp2_with fail;refine KT.past rfl ?_;refine Ze rfl ?_;go_wp2_with fail;refine KT.same ?_
   iterate 1 (refine Zd rfl rfl ?_; go_big_quiet_step (fail); refine wpQuiet_nil ?_)
   refine Ze rfl ?_;go_wp2_with fail;refine KT.past rfl ?_;refine Zi ?_
  all_goals
   obtain ⟨wy, hwy⟩ := nE (Xe wc gx 3 [(ar : Int), (gn : Int)]);have HY : Hid (Own w wy [(gd, 41, [lv, rg, wn, ou, qu, vi, nm, dl, jp, .slice A n c, lo, st, ju, d1, d2, d3, tR, wi, tS, (sn : Int), .slice Av nv cv, dn, ot, rs, mo, tr, ef, nw]), (gx, 51, [vt, vl, .int .i64 0, (ar : Int), (gn : Int), vs]), (gr, 41, zd), (gs, 51, zs), (go, 56, [ok, ox, on, og, .slice Aa na ca, oT, oE]), (gf, 191, [.bool true, fl, (ar : Int), (gn : Int), (rd : Int)])]) := by rw [Hid, ← hwy]; exact HC.putA 1 rfl 3 _ rfl
   simp only [Xe, Nat.reduceAdd] at hwy;rw [hwy];clear hwy HC HBW HX x3 x4 f3 xf xl yl hxf TF2 HB0X;have HB0Y : Hid (Below w.heap.size w wy) := HY.bel;obtain ⟨ba, oa, rfl, hba, hcc⟩ := (HRA.out wy HB0Y.out).at (by rw [Xs, HNA.out]; have := HAR.out; omega);have harc := hcc _ _ (Zmi arms ar (by rw [HNA.out]; exact HAR.out));rw [← Nat.add_assoc] at harc;obtain ⟨tt, htt⟩ := nE ((arms.getD ar ⟨⟨#[]⟩, 0⟩).tt);rw [htt] at harc HF;obtain ⟨J, hJ⟩ := nE ((x.looked L).jump 2 tt);have CJ2 := hid (fun W hW => CJ.out W 2 tt hW);rw [hJ] at CJ2 HF;have TO4 := tA (HY.get 4 rfl) 4 (.slice (some ⟨ba, oa, none⟩) na ca) rfl;have TF2 := tA (HY.get 5 rfl) 2 (.int .i64 (ar : Int)) rfl;have TT : ∀ q : BW wy.heap.size wy, q.1.cell? ⟨ba, oa + ar * 2 + 1, none⟩ = some (.int .i64 tt) := fun q => q.cellAt hba harc;clear hcc harc hba htt hJ CJ HRA;go_upto_region 6 with fail;refine Zg wy.heap.size [12, 14] (.val 1 (.val 2 (.val 3 (.val 4 (.val 5 (.val 6 (.val 7 (.op 0 (.op 8 (.val 9 (.val 10 (.val 11 (.op 12 (.val 13 (.op 14 (.nil)))))))))))))))) ab ab ?_;obtain ⟨wc, hwc, HBW⟩ := dw wy;rw [hwc];clear hwc;have HC := hid (HY.below HBW.out)
   iterate 7 ((first | refine Zd rfl rfl ?_ | refine Zw rfl rfl (Xp HBW.out) ?_); go_big_quiet_step (fail); refine wpQuiet_nil ?_)
   refine Xv rfl rfl rfl rfl rfl (HC.get 0 rfl) (Ya _ rfl) ?_;refine Ze rfl ?_;go_wp2_with fail;refine (CJ2.out wc HC.bel).mono ?_;rintro en wj ⟨v', rfl, hru, hb⟩;obtain ⟨cs, rfl, hl, ha⟩ := hru.now.agg;go_wp2_with fail;refine KT.keep (Xp (HBW.trans (hb.mono HBW.size))) ?_;have HJ := hid (HC.below hb);have HRU := hid hru; have HCS := hid hl; have HCA := hid ha;clear hru hl ha hb
   iterate 3 ((first | refine Zd rfl rfl ?_ | refine Zw rfl rfl (Xp HBW.out) ?_); go_big_quiet_step (fail); refine wpQuiet_nil ?_)
   refine Vh (xs := cs) rfl rfl rfl rfl rfl rfl rfl (HJ.get 0 rfl) fj (Ya cs HCS.out) HCA.out ?_;obtain ⟨wk, hwk⟩ := nE (wj.setRow gd cs.toArray);have hk0 : Za (fun k => k = gd) wj wk := hwk ▸ Zv;have HK := hid (HJ.keep 0 rfl hk0 (by rw [← hwk]; exact (HJ.get 0 rfl).setRow cs.toArray));have HRK := hid (HRU.step hk0 (HC.rng HB0W.out 0 rfl));rw [hwk];clear hwk hk0 HJ HRU HBW TO4 TF2 TT
   iterate 1 (refine Zd rfl rfl ?_; go_big_quiet_step (fail); refine wpQuiet_nil ?_)
   have x2 := cA (HK.get 1 rfl) 2 (.int .i64 0) rfl;have xf := Yu (HK.get 1 rfl);have xl := (HK.get 1 rfl).lt;refine Ze rfl ?_;go_wp2_with fail;refine KT.past rfl ?_;refine Zi ?_;obtain ⟨wl, hwl⟩ := nE (Xe wk gx 2 [(J.2 : Int)]);have HL := hid (HK.putA 1 rfl 2 [(J.2 : Int)] rfl);have HRL := hid (HRK.step (Xh gx [(J.2 : Int)] wk 2) (HC.rng HB0W.out 1 rfl));rw [hwl] at HL HRL;simp only [Xe] at hwl;rw [hwl];clear hwl HK HRK x2 xf xl;go_upto_region 7 with fail;refine Zg wl.heap.size [2, 3] (.two 0 (.two 1 (.op 2 (.op 3 (.nil))) 2 (.op 1 (.op 3 (.nil)))) 1 (.op 0 (.op 2 (.op 3 (.nil))))) ab ab ?_;obtain ⟨we, hwc, HBE⟩ := dw wl;rw [hwc];clear hwc;have HE := hid (HL.below HBE.out);refine Zax (HE.rows4 0 1 2 3 rfl rfl rfl rfl ac ac fj rfl (Ya cs HCS.out) (Yd [vt, vl, (J.2 : Int), (ar : Int), (gn : Int), vs] rfl) HCA.out ab) rfl rfl rfl rfl ⟨rfl, rfl, rfl⟩ ⟨rfl, rfl, rfl⟩ ⟨rfl, rfl, rfl⟩ ⟨rfl, rfl, rfl⟩ rfl rfl rfl rfl ⟨rfl, rfl⟩ ⟨Nat.le_of_ble_eq_true rfl, Nat.le_of_ble_eq_true rfl⟩ ac ?_;refine Zi ?_;go_wp2_with fail;have hf := Ua (cs := cs) (ys := [vt, vl, (J.2 : Int), (ar : Int), (gn : Int), vs]) (HE.get 2 rfl) (HE.get 3 rfl) (HE.ne 3 2 rfl rfl ac) (Ya cs HCS.out) (Yd _ rfl);refine bodyPost_ret (Vv (Yl.cell rfl hf.1) (Yl.cell rfl hf.2.1) Tryz.results135) rfl ?_;exact N47
 case false =>
  have HLK2 := hid (HLK.trans (if_neg ac));have f1 := cA (HX.get 5 rfl) 1 (.bool fl) rfl;have x2 := cA (HX.get 1 rfl) 2 (.int .i64 0) rfl;have xf := Yu (HX.get 1 rfl);have xl := (HX.get 1 rfl).lt;clear HLK HARM HRA HNA;cases fl
  case true =>
   have HF : Hid (K = ((x.looked L).stop 4, 13, 0, rd)) := HLK2.trans (if_pos rfl);clear HLK2 CDU HEF;go_upto_region 10 with fail;obtain ⟨wl, hwl⟩ := nE (Xe wx gx 2 [.int .i64 13]);have HL := hid (HX.putA 1 rfl 2 [.int .i64 13] rfl);rw [hwl] at HL;simp only [Xe] at hwl;rw [hwl];clear HX g0 gl f1 x2 xf xl HB0X;go_upto_region 10 with fail;refine Zg wl.heap.size [3, 4] (.two 0 (.two 1 (.two 2 (.op 3 (.op 4 (.nil))) 3 (.op 2 (.op 4 (.nil)))) 2 (.op 1 (.op 3 (.op 4 (.nil))))) 2 (.op 0 (.op 1 (.op 3 (.op 4 (.nil)))))) ab ab ?_;obtain ⟨we, hwc, HBE⟩ := dw wl;rw [hwc];clear hwc;have HE := hid (HL.below HBE.out);refine Gh (xs := [lv, rg, wn, ou, qu, vi, nm, dl, jp, .slice A n c, lo, st, ju, d1, d2, d3, tR, wi, tS, (sn : Int), .slice Av nv cv, dn, ot, rs, mo, tr, ef, nw]) (vs := #[.agg #[lv, rg, wn, ou, qu, vi, nm, dl, jp, .slice A n c, lo, st, ju, d1, d2, d3, tR, wi, tS, (sn : Int), .slice Av nv cv, dn, ot, rs, mo, tr, ef, nw], .int .i64 4]) (Z := fun cs W => Wj b G w0 we W ((x.looked L).stop 4) (.agg cs.toArray)) (HE.rows4 0 1 2 3 rfl rfl rfl rfl ac ac rfl rfl (Ya _ rfl) (Yd [vt, vl, .int .i64 13, .int .i64 0, (rd : Int), vs] rfl) ab ab) rfl rfl rfl rfl rfl ⟨rfl, rfl, rfl⟩ ⟨rfl, rfl, rfl⟩ ⟨rfl, rfl, rfl⟩ ⟨rfl, rfl, rfl⟩ ⟨rfl, rfl, rfl⟩ ⟨Tryz.func132, ab, ab⟩ rfl rfl rfl rfl (fun act' h1 h2 => dr) ((CEN.out we HE.bel).mono fun e w' ⟨v', he, hru, hb⟩ => ap) bwS ⟨rfl, rfl⟩ ⟨Nat.le_of_ble_eq_true rfl, Nat.le_of_ble_eq_true rfl, Nat.le_of_ble_eq_true rfl⟩ ac ?_;intro cs W hcs hru hb;have HG := hid (HE.below hb);refine Zi ?_;go_wp2_with fail;have hf := Ua (cs := cs) (ys := [vt, vl, .int .i64 13, .int .i64 0, (rd : Int), vs]) (HG.get 2 rfl) (HG.get 3 rfl) (HG.ne 3 2 rfl rfl ac) (Ya cs hcs) (Yd _ rfl);refine bodyPost_ret (Vv (Yl.cell rfl hf.1) (Yl.cell rfl hf.2.1) Tryz.results135) rfl ?_;exact N145
  case false =>
   have HLK3 := hid (HLK2.trans (if_neg ac));have yl := (HX.get 0 rfl).lt;clear HLK2 CEN;rw [← HEF.out] at HLK3;rcases Bool.eq_false_or_eq_true ef with he | he
   case inl =>
    have HF := hid (HLK3.trans (if_pos he));have y26 : wx.cell? ⟨gd, 26, none⟩ = some (.bool true) := he ▸ (HX.get 0 rfl).cell 26;clear HLK3 CDU he;go_upto_region 12 with fail;clear g0 gl f1 x2 xf xl y26 yl;obtain ⟨J, hJ⟩ := nE ((x.looked L).jump 4 oE);have CJ2 := hid (fun W hW => CJ.out W 4 oE hW);rw [hJ] at CJ2 HF;have o5 := cA (HX.get 4 rfl) 6 (.int .i64 oE) rfl;have ol := (HX.get 4 rfl).lt;clear CJ hJ;go_wp2_with (refine wpList_load_mid rfl 41 _ rfl gd 0 rfl _ _ (Blk.range (HX.get 0 rfl)) Tryz.underlying41 rfl Zk ?_);refine (CJ2.out wx HX.bel).mono ?_;rintro en wj ⟨v', rfl, hru, hb⟩;obtain ⟨cs, rfl, hl, ha⟩ := hru.now.agg;have HJ := hid (HX.below hb);have HRU := hid hru; have HCS := hid hl; have HCA := hid ha;have HK := hid (HJ.keep 0 rfl (Zv (g := gd) (cs := cs.toArray)) ((HJ.get 0 rfl).setRow cs.toArray));have HRK := hid (HRU.step (Zv (g := gd) (cs := cs.toArray)) (HX.rng HB0W.out 0 rfl));have x2 := (HK.get 1 rfl).cell 2;have xf := Yu (HK.get 1 rfl);have xl := (HK.get 1 rfl).lt;have HSZ1 : Hid ((Tryz.prog.info? 41).map (·.size) = some cs.toArray.size) := ip
    have HSZ2 : Hid ((#[lv, rg, wn, ou, qu, vi, nm, dl, jp, .slice A n c, lo, st, ju, d1, d2, d3, tR, wi, tS, (sn : Int), .slice Av nv cv, dn, ot, rs, mo, tr, ef, nw] : Array Value).size = cs.toArray.size) := by
     exact N83
    clear hru hl ha hb o5 ol;simp only [List.getElem?_toArray, List.getElem?_cons_succ, List.getElem?_cons_zero] at x2;go_wp2_with (refine wpList_store_row rfl 41 _ _ rfl gd cs.toArray rfl rfl 41 _ (HJ.get 0 rfl) HSZ1.out HSZ2.out HCA.out ?_);obtain ⟨wl, hwl⟩ := nE (Xe (wj.setRow gd cs.toArray) gx 2 [(J.2 : Int)]);have HL := hid (HK.putA 1 rfl 2 [(J.2 : Int)] rfl);rw [hwl] at HL;simp only [Xe] at hwl;rw [hwl];have HRL := hid (HRK.step (Xh gx [(J.2 : Int)] (wj.setRow gd cs.toArray) 2) (HX.rng HB0W.out 1 rfl));rw [show Xe (wj.setRow gd cs.toArray) gx 2 [.int .i64 (J.2 : Int)] = wl from hwl] at HRL;clear hwl HK HRK HJ HRU x2 xf xl HSZ1 HSZ2;go_upto_region 13 with fail;exact N17
   case inr =>
    have HLK4 := hid (HLK3.trans (if_neg (by rw [he]; decide)));have y26 : wx.cell? ⟨gd, 26, none⟩ = some (.bool false) := he ▸ (HX.get 0 rfl).cell 26;clear HLK3 he;go_upto_region 15 with fail;obtain ⟨wl, hwl⟩ := nE (Xe wx gx 2 [.int .i64 1]);have HL := hid (HX.putA 1 rfl 2 [.int .i64 1] rfl);rw [hwl] at HL;simp only [Xe] at hwl;rw [hwl];clear HX g0 gl f1 x2 xf xl HB0X y26 yl;have y13 := cA (HL.get 0 rfl) 13 (.int .i64 d1) rfl;have y27 := cA (HL.get 0 rfl) 27 (.int .i64 nw) rfl;have yl := (HL.get 0 rfl).lt;go_wp2_with fail;refine (CDU.out _).mono ?_;rintro en wl' ⟨rfl, rfl⟩;clear hwl y13 y27 yl CDU;cases du
    case true =>
     have HF := hid (HLK4.trans (if_pos rfl));clear HLK4;have HX := HL;obtain ⟨wx, hwx⟩ := mE wl;subst hwx;clear HL;go_upto_region 16 with fail;obtain ⟨J, hJ⟩ := nE ((x.looked L).jump 3 oT);have CJ2 := hid (fun W hW => CJ.out W 3 oT hW);rw [hJ] at CJ2 HF;have o5 := cA (HX.get 4 rfl) 5 (.int .i64 oT) rfl;have ol := (HX.get 4 rfl).lt;clear CJ hJ;go_wp2_with (refine wpList_load_mid rfl 41 _ rfl gd 0 rfl _ _ (Blk.range (HX.get 0 rfl)) Tryz.underlying41 rfl Zk ?_);refine (CJ2.out wx HX.bel).mono ?_;rintro en wj ⟨v', rfl, hru, hb⟩;obtain ⟨cs, rfl, hl, ha⟩ := hru.now.agg;have HJ := hid (HX.below hb);have HRU := hid hru; have HCS := hid hl; have HCA := hid ha;have HK := hid (HJ.keep 0 rfl (Zv (g := gd) (cs := cs.toArray)) ((HJ.get 0 rfl).setRow cs.toArray));have HRK := hid (HRU.step (Zv (g := gd) (cs := cs.toArray)) (HX.rng HB0W.out 0 rfl));have x2 := (HK.get 1 rfl).cell 2;have xf := Yu (HK.get 1 rfl);have xl := (HK.get 1 rfl).lt;have HSZ1 : Hid ((Tryz.prog.info? 41).map (·.size) = some cs.toArray.size) := ip
     have HSZ2 : Hid ((#[lv, rg, wn, ou, qu, vi, nm, dl, jp, .slice A n c, lo, st, ju, d1, d2, d3, tR, wi, tS, (sn : Int), .slice Av nv cv, dn, ot, rs, mo, tr, ef, nw] : Array Value).size = cs.toArray.size) := by
      exact N83
     clear hru hl ha hb o5 ol;simp only [List.getElem?_toArray, List.getElem?_cons_succ, List.getElem?_cons_zero] at x2;go_wp2_with (refine wpList_store_row rfl 41 _ _ rfl gd cs.toArray rfl rfl 41 _ (HJ.get 0 rfl) HSZ1.out HSZ2.out HCA.out ?_);obtain ⟨wl, hwl⟩ := nE (Xe (wj.setRow gd cs.toArray) gx 2 [(J.2 : Int)]);have HL := hid (HK.putA 1 rfl 2 [(J.2 : Int)] rfl);rw [hwl] at HL;simp only [Xe] at hwl;rw [hwl];have HRL := hid (HRK.step (Xh gx [(J.2 : Int)] (wj.setRow gd cs.toArray) 2) (HX.rng HB0W.out 1 rfl));rw [show Xe (wj.setRow gd cs.toArray) gx 2 [.int .i64 (J.2 : Int)] = wl from hwl] at HRL;clear hwl HK HRK HJ HRU x2 xf xl HSZ1 HSZ2;go_upto_region 17 with fail;exact N17
    case false =>
     have HF := hid (HLK4.trans (if_neg ac));clear HLK4 CJ;go_upto_region 17 with fail;refine Zg wl.heap.size [2, 3] (.two 0 (.two 1 (.op 2 (.op 3 (.nil))) 2 (.op 1 (.op 3 (.nil)))) 1 (.op 0 (.op 2 (.op 3 (.nil))))) ab ab ?_;obtain ⟨we, hwc, HBE⟩ := dw wl;rw [hwc];clear hwc;have HE := hid (HL.below HBE.out);refine Zax (HE.rows4 0 1 2 3 rfl rfl rfl rfl ac ac rfl rfl (Ya [lv, rg, wn, ou, qu, vi, nm, dl, jp, .slice A n c, lo, st, ju, d1, d2, d3, tR, wi, tS, (sn : Int), .slice Av nv cv, dn, ot, rs, mo, tr, ef, nw] rfl) (Yd [vt, vl, .int .i64 1, .int .i64 0, (rd : Int), vs] rfl) ab ab) rfl rfl rfl rfl ⟨rfl, rfl, rfl⟩ ⟨rfl, rfl, rfl⟩ ⟨rfl, rfl, rfl⟩ ⟨rfl, rfl, rfl⟩ rfl rfl rfl rfl ⟨rfl, rfl⟩ ⟨Nat.le_of_ble_eq_true rfl, Nat.le_of_ble_eq_true rfl⟩ ac ?_;refine Zi ?_;go_wp2_with fail;have hf := Ua (cs := [lv, rg, wn, ou, qu, vi, nm, dl, jp, .slice A n c, lo, st, ju, d1, d2, d3, tR, wi, tS, (sn : Int), .slice Av nv cv, dn, ot, rs, mo, tr, ef, nw]) (ys := [vt, vl, .int .i64 1, .int .i64 0, (rd : Int), vs]) (HE.get 2 rfl) (HE.get 3 rfl) (HE.ne 3 2 rfl rfl ac) (Ya [lv, rg, wn, ou, qu, vi, nm, dl, jp, .slice A n c, lo, st, ju, d1, d2, d3, tR, wi, tS, (sn : Int), .slice Av nv cv, dn, ot, rs, mo, tr, ef, nw] rfl) (Yd _ rfl);refine bodyPost_ret (Vv (Yl.cell rfl hf.1) (Yl.cell rfl hf.2.1) Tryz.results135) rfl ?_;rw [← HQ.out, HF.out];refine ⟨_, rfl, (fun W' hW => HREF.2 W' (Zgd HB0W.out (HE.bel.trans (hf.2.2.below HE.bel.size (fun k h => ao))) hW)), HE.bel.trans (hf.2.2.below HE.bel.size (fun k h => ao))⟩
end Go.Proofs.YtpkkfdmhbbipoaaGreat
