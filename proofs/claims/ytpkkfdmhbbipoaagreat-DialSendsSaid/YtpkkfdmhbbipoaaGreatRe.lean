/- Rows of cells of a block, written one after the other. No program in sight. Walks: the reference's dialogue: its kind, its end, its room. -/
import Derived.Test.YtpkkfdmhbbipoaaGreatRc
import Derived.Deep.MidRow
import Derived.Test.YtpkkfdmhbbipoaaGreatRd
import Derived.Test.YtpkkfdmhbbipoaaGreatEb
namespace Go.Proofs.YtpkkfdmhbbipoaaGreat
open Go.RowKit PopT
def putL (w : World) (g : Nat) : Nat → List Value → World
 | _, [] => w
 | i, v :: vs => putL (w.setCell ⟨g, i, none⟩ v) g (i + 1) vs
theorem putL_keep (g : Nat) (vs : List Value) : ∀ (w : World) (i : Nat), Keep (fun k => k = g) w (putL w g i vs) := by
 induction vs with
 | nil => intro w i; exact Keep.refl _ _
 | cons v vs ih => intro w i; exact (Keep.setCell (fun k => k = g) w ⟨g, i, none⟩ v rfl).trans (ih _ _) (fun _ => .inl)
def putA (cs : Array Value) : Nat → List Value → Array Value
 | _, [] => cs
 | i, v :: vs => putA (cs.setIfInBounds i v) (i + 1) vs
theorem putL_blk {g : Nat} {t : TypeId} (vs : List Value) : ∀ {w : World} {cs : Array Value} (i : Nat), Blk w g t cs → Blk (putL w g i vs) g t (putA cs i vs) := by
 induction vs with
 | nil => intro w cs i h; exact h
 | cons v vs ih => intro w cs i h; exact ih (i + 1) (h.set i v)
theorem putA_list (vs : List Value) : ∀ (cs : Array Value) (i : Nat), i + vs.length ≤ cs.size → (putA cs i vs).toList = cs.toList.take i ++ vs ++ cs.toList.drop (i + vs.length) := by
 induction vs with
 | nil => intro cs i h; simp [putA]
 | cons v vs ih =>
  intro cs i h
  rw [List.length_cons] at h
  rw [putA, ih _ _ (by simp; omega)]
  rw [Array.toList_setIfInBounds, List.length_cons]
  have hi : i < cs.toList.length := by simp; omega
  rw [List.drop_set_of_lt (by omega), List.take_succ_eq_append_getElem (by simpa using hi)]
  simp [List.take_set_of_le, show i + 1 + vs.length = i + (vs.length + 1) by omega]
theorem putL_to {w : World} {g : Nat} {t : TypeId} {xs ys : List Value} (h : Blk w g t xs.toArray) (i : Nat) (vs : List Value) (hl : i + vs.length ≤ xs.length) (he : xs.take i ++ vs ++ xs.drop (i + vs.length) = ys) : Blk (putL w g i vs) g t ys.toArray := by
 have h1 := putL_blk vs i h
 have h2 := putA_list vs xs.toArray i (by simpa using hl)
 have e : putA xs.toArray i vs = ys.toArray := by
  apply Array.toList_inj.1
  rw [h2, ← he]
 rw [e] at h1
 exact h1
theorem Blk.range {w : World} {g : Nat} {t : TypeId} {xs : List Value} (h : Blk w g t xs.toArray) : w.rangeAt g 0 xs := fun j v hv => by
 have := h.cell j
 rw [Nat.zero_add, this]; simpa using hv
theorem Blk.rangeAt {w : World} {g : Nat} {t : TypeId} {xs : List Value} (h : Blk w g t xs.toArray) (o : Nat) (ys : List Value) (he : (xs.drop o).take ys.length = ys) : w.rangeAt g o ys := fun j v hv => by
 have hj : j < ys.length := (List.getElem?_eq_some_iff.1 hv).1
 rw [← he, List.getElem?_take_of_lt hj, List.getElem?_drop] at hv
 have := h.cell (o + j)
 rw [this]; simpa using hv
def ResIs (P : Program) (tmps : Array Value) (W : World) (r : ResultVar) (v : Value) : Prop :=
 (match r with | .tmp t => pure (tmps.getD t undef) | .cell a t => (do loadVar t (← asAddr (tmps.getD a undef)) : Sem Value)).run P W = .ok v W
section
variable {P : Program} {fn : Func} {tmps : Array Value} {W : World} {a : Nat} {t : TypeId} {x : Addr} {v v1 v2 v3 v4 v5 : Value} {r r1 r2 r3 r4 r5 : ResultVar}
theorem ResIs.tmp (h : tmps.getD a undef = v) : ResIs P tmps W (.tmp a) v := by subst h; rfl
theorem ResIs.cell (hp : tmps.getD a undef = .pointer (some x)) (hl : (loadVar t x).run P W = .ok v W) : ResIs P tmps W (.cell a t) v := by
 unfold ResIs
 simp only [Sem.run_bind, hp, asAddr, Sem.run_pure, Result.andThen_ok, hl]
theorem res_one (h1 : ResIs P tmps W r1 v1) (hr : fn.results = #[r1]) : (results fn tmps).run P W = .ok v1 W := by
 unfold results; rw [hr]; unfold ResIs at h1
 simp only [List.mapM_toArray, List.mapM_cons, List.mapM_nil, bind_pure_comp]
 cases r1 <;> simp_all [Sem.run_bind]
theorem res_two (h1 : ResIs P tmps W r1 v1) (h2 : ResIs P tmps W r2 v2) (hr : fn.results = #[r1, r2]) : (results fn tmps).run P W = .ok (.tuple #[v1, v2]) W := by
 unfold results; rw [hr]; unfold ResIs at h1 h2
 simp only [List.mapM_toArray, List.mapM_cons, List.mapM_nil, bind_pure_comp, Sem.run_bind, Sem.run_map]
 cases r1 <;> cases r2 <;> simp_all [Sem.run_bind, Result.andThen]
theorem res_three (h1 : ResIs P tmps W r1 v1) (h2 : ResIs P tmps W r2 v2) (h3 : ResIs P tmps W r3 v3) (hr : fn.results = #[r1, r2, r3]) : (results fn tmps).run P W = .ok (.tuple #[v1, v2, v3]) W := by
 unfold results; rw [hr]; unfold ResIs at h1 h2 h3
 simp only [List.mapM_toArray, List.mapM_cons, List.mapM_nil, bind_pure_comp, Sem.run_bind, Sem.run_map]
 cases r1 <;> cases r2 <;> cases r3 <;> simp_all [Sem.run_bind, Result.andThen]
end
theorem frozAll {w : World} {g : Nat} {t : TypeId} {cs : Array Value} (h : Blk w g t cs) : ∀ i, w.frozen? ⟨g, i, none⟩ = false := fun i => h.frozen i
theorem Tryz.sizeD : (Tryz.prog.info? 41).map (·.size) = some 28 := by kernel_rfl
def kindAt (ops : List OpV) (lo : Nat) : Int := (ops.getD lo dNone).kind
set_option maxRecDepth 20000 in
set_option maxHeartbeats 1600000 in
theorem rKind_w (lv rg wn ou qu vi dl jp st ju d1 d2 d3 wi se mo tr nw : Int) (nm inn sS dn ot rs : ByteArray) (A Av : Option Addr) (n c nv cv : Nat) (ef : Bool) (ops : List OpV) (ln : Nat) (w : World) (hin : OpsIn w A ops) (hn : ops.length = n) :
  Calls Tryz.prog 130 #[.agg #[.int .i64 lv, .int .i64 rg, .int .i64 wn, .int .i64 ou, .int .i64 qu, .int .i64 vi, .string nm, .int .i64 dl, .int .i64 jp, .slice A n c, .int .i64 (ln : Int), .int .i64 st, .int .i64 ju, .int .i64 d1, .int .i64 d2, .int .i64 d3, .string inn, .int .i64 wi, .string sS, .int .i64 se, .slice Av nv cv, .string dn, .string ot, .string rs, .int .i64 mo, .int .i64 tr, .bool ef, .int .i64 nw]] w fun e w' => e = .returned (.int .i64 (kindAt ops ln)) ∧ Below w.heap.size w w' := by
 have HIN := hid hin; have HN := hid hn
 have HK : Hid (kindAt ops ln = (ops.getD ln dNone).kind) := rfl
 obtain ⟨R, hR⟩ : ∃ y, kindAt ops ln = y := ⟨_, rfl⟩
 rw [hR] at HK ⊢
 clear hin hn hR
 go_enter Tryz.func130, Tryz.ntmps130
 go_upto_region 1 with fail
 obtain ⟨wb, hwb⟩ : ∃ W, w.alloc (.cells #[.int .i64 lv, .int .i64 rg, .int .i64 wn, .int .i64 ou, .int .i64 qu, .int .i64 vi, .string nm, .int .i64 dl, .int .i64 jp, .slice A n c, .int .i64 (ln : Int), .int .i64 st, .int .i64 ju, .int .i64 d1, .int .i64 d2, .int .i64 d3, .string inn, .int .i64 wi, .string sS, .int .i64 se, .slice Av nv cv, .string dn, .string ot, .string rs, .int .i64 mo, .int .i64 tr, .bool ef, .int .i64 nw] 41) = W := ⟨_, rfl⟩
 have HB0 : Hid (Below w.heap.size w wb) := by rw [← hwb]; exact (Below.refl _ _).alloc (Nat.le_refl _) _
 have HD0 : Hid (Blk wb w.heap.size 41 #[.int .i64 lv, .int .i64 rg, .int .i64 wn, .int .i64 ou, .int .i64 qu, .int .i64 vi, .string nm, .int .i64 dl, .int .i64 jp, .slice A n c, .int .i64 (ln : Int), .int .i64 st, .int .i64 ju, .int .i64 d1, .int .i64 d2, .int .i64 d3, .string inn, .int .i64 wi, .string sS, .int .i64 se, .slice Av nv cv, .string dn, .string ot, .string rs, .int .i64 mo, .int .i64 tr, .bool ef, .int .i64 nw]) := by rw [← hwb]; exact Blk.new w _ _
 have HSB : Hid (wb.heap.size = w.heap.size + 1) := by rw [Hid, ← hwb]; simp
 rw [hwb]
 clear hwb
 obtain ⟨gd, hgd⟩ : ∃ g, w.heap.size = g := ⟨_, rfl⟩
 have HGD := hid hgd
 rw [hgd] at HD0 HSB ⊢
 clear hgd
 have x9 : wb.cell? ⟨gd, 9, none⟩ = some (.slice A n c) := (HD0.out).cell 9
 have x10 : wb.cell? ⟨gd, 10, none⟩ = some (.int .i64 (ln : Int)) := (HD0.out).cell 10
 have xl := (HD0.out).lt
 by_cases hlt : ln < n
 ·have hk : ln < ops.length := by rw [HN.out]; exact hlt
  obtain ⟨b1, o1, va, rfl, hbl1, hva, q0, q1, q2, q3, q4, q5, q6⟩ := (HIN.out.below HB0.out).at ln hk
  have HF : Hid (R = (ops[ln]'hk).kind) := by rw [Hid, HK.out, List.getD_eq_getElem?_getD, List.getElem?_eq_getElem hk]; rfl
  obtain ⟨kk, hkk⟩ : ∃ y, (ops[ln]'hk).kind = y := ⟨_, rfl⟩
  rw [hkk] at q0 HF
  have hn2 : ¬ (n : Int) ≤ (ln : Int) := by omega
  clear hkk q1 q2 q3 q4 q5 q6 hva hk HK
  go_wp2_with fail
  go_ret
  rw [HF.out, HGD.out]; exact ⟨rfl, by have := HB0.out; rwa [HGD.out] at this⟩
 ·have HF : Hid (R = 0) := by rw [Hid, HK.out, List.getD_eq_getElem?_getD, List.getElem?_eq_none (by rw [HN.out]; omega)]; rfl
  have hn2 : (n : Int) ≤ (ln : Int) := by omega
  clear HK
  go_wp2_with fail
  go_ret
  rw [HF.out, HGD.out]; exact ⟨rfl, by have := HB0.out; rwa [HGD.out] at this⟩
end Go.Proofs.YtpkkfdmhbbipoaaGreat
