/- Plain laws of a ring: room that goes round. No program in sight. The walks of package ring. The walks of package ring: Put, Peek; no ring. -/
import Derived.Test.YtpkkfdmhbbipoaaGreatMa
import Derived.Test.YtpkkfdmhbbipoaaGreatMb
import Derived.Laws.CopyRow
namespace Go.Proofs.YtpkkfdmhbbipoaaGreat
set_option maxRecDepth 20000
set_option maxHeartbeats 2000000
open Go.RowKit
def RgM (buf : List UInt8) (first n : Nat) : List UInt8 := (List.range n).map fun i => buf.getD ((first + i) % buf.length) 0
theorem Vy (buf : List UInt8) (first n : Nat) : (RgM buf first n).length = n := by simp [RgM]
theorem Za0 (buf : List UInt8) (first n i : Nat) (h : i < n) : (RgM buf first n).getD i 0 = buf.getD ((first + i) % buf.length) 0 := by
 simp [RgM, List.getD, h]
theorem Zgy (a m : Nat) (h : a < 2 * m) : a % m = if a < m then a else a - m := by
 split
 ·next h1 => exact Nat.mod_eq_of_lt h1
 ·next h1 => rw [Nat.mod_eq_sub_mod aa, Nat.mod_eq_of_lt aa]
theorem Ka {a b : List UInt8} (hl : a.length = b.length) (h : ∀ i, i < a.length → a.getD i 0 = b.getD i 0) : a = b := by
 apply List.ext_getElem hl;intro i h1 h2;have := h i h1;simpa [List.getD, h1, h2] using this
theorem Gv (a b : List UInt8) (i : Nat) : (a ++ b).getD i 0 = if i < a.length then a.getD i 0 else b.getD (i - a.length) 0 := by
 split
 ·next h => simp [List.getD, List.getElem?_append_left h]
 ·next h => simp [List.getD, List.getElem?_append_right (by omega : a.length ≤ i)]
theorem Kz (a : List UInt8) (k i : Nat) : (a.take k).getD i 0 = if i < k then a.getD i 0 else 0 := by
 split
 ·next h => simp [List.getD, h]
 ·next h => simp [List.getD, List.getElem?_take, h]
theorem Js (a : List UInt8) (k i : Nat) : (a.drop k).getD i 0 = a.getD (k + i) 0 := by simp [List.getD, List.getElem?_drop]
def Kg (buf : List UInt8) (o : Nat) (s : List UInt8) : List UInt8 := buf.take o ++ s ++ buf.drop (o + s.length)
theorem Ji (buf : List UInt8) (o : Nat) (s : List UInt8) (h : o + s.length ≤ buf.length) : (Kg buf o s).length = buf.length := by
 simp [Kg]; omega
theorem Zgq (buf : List UInt8) (o : Nat) (s : List UInt8) (h : o + s.length ≤ buf.length) (p : Nat) : (Kg buf o s).getD p 0 = if o ≤ p ∧ p < o + s.length then s.getD (p - o) 0 else buf.getD p 0 := by
 unfold Kg;rw [Gv, Gv, Kz, Js];simp only [List.length_append, List.length_take, Nat.min_eq_left (show o ≤ buf.length by omega)];by_cases h1 : p < o
 ·rw [if_pos aa, if_pos h1, if_pos h1, if_neg aa]
 ·by_cases h2 : p < o + s.length
  ·rw [if_pos h2, if_neg h1, if_pos ⟨aa, h2⟩]
  ·rw [if_neg h2, if_neg aa]
   congr 1; omega
def Zfy (buf : List UInt8) (first n : Nat) (s : List UInt8) : List UInt8 :=
 Kg (Kg buf ((first + n) % buf.length) (s.take (min s.length (buf.length - (first + n) % buf.length)))) 0 (s.drop (min s.length (buf.length - (first + n) % buf.length)))
theorem Zdu (buf : List UInt8) (first n : Nat) (s : List UInt8) (hf : first < buf.length) (hn : n + s.length ≤ buf.length) : (Zfy buf first n s).length = buf.length := by
 have h := Zgy (first + n) buf.length aa;have h2 : (first + n) % buf.length < buf.length := Nat.mod_lt _ aa;unfold Zfy;have e1 := Ji buf ((first + n) % buf.length) (s.take (min s.length (buf.length - (first + n) % buf.length))) af;rw [Ji, e1];rw [e1]; simp; omega
theorem Zqt (buf : List UInt8) (first n : Nat) (s : List UInt8) (hf : first < buf.length) (hn : n + s.length ≤ buf.length) : RgM (Zfy buf first n s) first (n + s.length) = RgM buf first n ++ s := by
 have hlen := Zdu buf first n s hf hn
 apply Ka
 ·simp [Vy]
 ·intro i hi
  rw [Vy] at hi;rw [Za0 _ _ _ _ hi, Gv, Vy, hlen];have ha := Zgy (first + n) buf.length aa;have hp := Zgy (first + i) buf.length aa;obtain ⟨k, hk⟩ := nE (min s.length (buf.length - (first + n) % buf.length));obtain ⟨o, ho⟩ := nE ((first + n) % buf.length);obtain ⟨p, hpp⟩ := nE ((first + i) % buf.length);unfold Zfy;rw [hk, ho, hpp];rw [ho] at ha hk;rw [hpp] at hp;have hk1 : k ≤ s.length := aa
  have hk2 : k + o ≤ buf.length := by split at ha <;> omega
  have l1 : (s.take k).length = k := af
  have l2 : (s.drop k).length = s.length - k := ah
  rw [Zgq _ _ _ (by rw [Ji _ _ _ aa]; omega), Zgq _ _ _ aa, l1, l2, Kz, Js];have hkk : k = s.length ∨ k = buf.length - o := aa
  by_cases hin : i < n
  ·rw [if_pos hin, Za0 _ _ _ _ hin, hpp]
   rw [if_neg ck, if_neg ck]
  ·rw [if_neg hin]
   by_cases hw : p < s.length - k
   ·rw [if_pos ⟨aa, aa⟩]
    congr 1
    split at ha <;> split at hp <;> omega
   ·rw [if_neg aa, if_pos ck, if_pos ck]
    congr 1
    split at ha <;> split at hp <;> omega
theorem Zo0 (buf : List UInt8) (first N a n : Nat) (hf : first < buf.length) (hN : N ≤ buf.length) (han : a + n ≤ N) (h0 : 0 < n) :
  ((RgM buf first N).drop a).take n = if (first + a) % buf.length + n ≤ buf.length then (buf.drop ((first + a) % buf.length)).take n else buf.drop ((first + a) % buf.length) ++ buf.take ((first + a) % buf.length + n - buf.length) := by
 have ha := Zgy (first + a) buf.length aa;obtain ⟨o, ho⟩ := nE ((first + a) % buf.length);rw [ho] at ha ⊢;have hob : o < buf.length := ho ▸ Nat.mod_lt _ aa;by_cases hc : o + n ≤ buf.length
 ·rw [if_pos hc]
  apply Ka
  ·simp [Vy]; omega
  ·intro i hi
   simp [Vy] at hi;rw [Kz, Kz, if_pos aa, if_pos aa, Js, Js, Za0 _ _ _ _ aa]
   congr 1
   rw [Zgy _ _ aa];split at ha <;> split <;> omega
 ·rw [if_neg hc]
  apply Ka
  ·simp [Vy]; omega
  ·intro i hi
   simp [Vy] at hi;have hp := Zgy (first + (a + i)) buf.length aa;rw [Kz, if_pos aa, Js, Za0 _ _ _ _ aa];obtain ⟨p, hpp⟩ := nE ((first + (a + i)) % buf.length);rw [hpp] at hp ⊢;rw [Gv, Js, Kz, List.length_drop];by_cases h1 : i < buf.length - o
   ·rw [if_pos h1]
    have e : p = o + i := ck
    rw [e]
   ·rw [if_neg h1, if_pos aa]
    have e : p = i - (buf.length - o) := ck
    rw [e]
theorem Zp2 (buf : List UInt8) (first N n : Nat) (hf : first < buf.length) (hN : N ≤ buf.length) (hn : n ≤ N) : RgM buf ((first + n) % buf.length) (N - n) = (RgM buf first N).drop n := by
 apply Ka
 ·simp [Vy]
 ·intro i hi
  rw [Vy] at hi;rw [Js, Za0 _ _ _ _ hi, Za0 _ _ _ _ aa]
  congr 1
  have ha := Zgy (first + n) buf.length aa;obtain ⟨o, ho⟩ := nE ((first + n) % buf.length);rw [ho] at ha ⊢;have hob : o < buf.length := ho ▸ Nat.mod_lt _ aa;rw [Zgy _ _ aa, Zgy _ _ aa];split at ha <;> split <;> split <;> omega
/-! ### 'copy' from a text -/
theorem Zhi {P : Program} (w : World) (dT sT ty elem : TypeId) (g o dLen dCap : Nat) (s : ByteArray) (cur : Array Value) (t : TypeId)
  (hu : P.underlying dT = some (.slice elem)) (hs : (P.info? elem).map (·.size) = some 1) (hg : w.heap[g]? = some (.cells cur t (0, 0))) (hfit : o + min s.size dLen ≤ cur.size) :
  (Builtin.copy_ #[dT, sT] ty #[.slice (some ⟨g, o, none⟩) dLen dCap, s]).run P w =
   .ok (goInt (min s.size dLen)) (w.setRow g (cur.toList.take o ++ (Zo (s.data.toList.take (min s.size dLen))) ++ cur.toList.drop (o + min s.size dLen)).toArray) := by
 have hsz : s.data.toList.length = s.size := ah
 have hlen : (Zo (s.data.toList.take (min s.size dLen))).length = min s.size dLen := by rw [Ql, List.length_take, hsz]; omega
 have h1 : ∀ v ∈ Zo (s.data.toList.take (min s.size dLen)), v.oneCell' = true := by
  intro v hv;simp only [Zo, List.mem_map] at hv;obtain ⟨b, _, rfl⟩ := hv;rfl
 have hst := run_storeCells_at P g o t (Zo (s.data.toList.take (min s.size dLen))) 0 cur w hg (by rw [hlen]; simpa using hfit) h1;have hmin : Nat.min s.size dLen = min s.size dLen := rfl
 have htk : List.take (min s.size dLen) (List.map (fun b : UInt8 => Value.int IntKind.u8 (b.toNat : Int)) s.data.toList) = Zo (s.data.toList.take (min s.size dLen)) := by
  rw [Zo, List.map_take]
 rw [hlen] at hst;simp only [Nat.add_zero] at hst;cases hq : P.info? elem with
 | none => simp [hq] at hs
 | some i =>
  simp [Builtin.copy_, run_underlying hu, Builtin.lenOf, Builtin.firstCells, sizeOf, typeInfo, hq, hmin];rw [htk, hst];simp [Result.andThen]
  congr 1
  omega
theorem Zfp {P : Program} (w : World) {ops : Array Oper} {rest : List Oper} {o : Oper} {a : Act} {Q : Exit → Act → World → Prop} (hgd : o.guard = none) (d x : Operand) (dT sT elem : TypeId)
  (ho : o.op = .call { callee := .builtin .copy, args := #[d, x], argTypes := #[dT, sT] }) (hu : P.underlying dT = some (.slice elem)) (hs : (P.info? elem).map (·.size) = some 1)
  (g off dLen dCap : Nat) (s : ByteArray) (cur : Array Value) (t : TypeId) (hd : a.eval d = .slice (some ⟨g, off, none⟩) dLen dCap) (hx : a.eval x = .string s) (hg : Blk w g t cur) (hfit : off + min s.size dLen ≤ cur.size)
  (h : wpList P ops Q rest (a.put o.dst (goInt (min s.size dLen))) (w.setRow g (cur.toList.take off ++ (Zo (s.data.toList.take (min s.size dLen))) ++ cur.toList.drop (off + min s.size dLen)).toArray)) :
  wpList P ops Q (o :: rest) a w := by
 have hr := Zhi (P := P) w dT sT o.type elem g off dLen dCap s cur t hu hs hg hfit;refine wpList_plain hgd fun _ hK => ?_;unfold Oper.wp execOp;simp only [ho, resolve, invoke, builtin, Sem.run_bind, Sem.run_pure, Result.andThen_ok, List.map_toArray, List.map_cons, List.map_nil, hd, hx, hr];exact hK _ _ h
theorem Za.setRow (F : Nat → Prop) (w : World) (g : Nat) (cs : Array Value) (h : F g) : Za F w (w.setRow g cs) :=
 ⟨rfl, rfl, rfl, ah, fun k _ hf => setRow_other w g k cs (fun e => hf (e ▸ h))⟩
theorem Blk.setRow {w : World} {g : Nat} {t : TypeId} {cs : Array Value} (h : Blk w g t cs) (cs' : Array Value) : Blk (w.setRow g cs') g t cs' := setRow_heap w g cs cs' t (0, 0) h
theorem Blk.setRow_far {w : World} {g g' : Nat} {t : TypeId} {cs cs' : Array Value} (h : Blk w g t cs) (hne : g ≠ g') : Blk (w.setRow g' cs') g t cs := (setRow_other w g' g cs' hne).trans h
theorem Gy {w : World} {g g' : Nat} {t t' : TypeId} {cs cs' : Array Value} (h : Blk w g t cs) (h' : Blk w g' t' cs') (ht : t ≠ t') : g ≠ g' := by
 rintro rfl;have := (show w.heap[g]? = _ from h).symm.trans h';simp only [Option.some.injEq, Obj.cells.injEq] at this;exact ht this.2.1
theorem Zk2 (buf : List UInt8) (o : Nat) (s : List UInt8) : (Zo buf).toArray.toList.take o ++ Zo s ++ (Zo buf).toArray.toList.drop (o + s.length) = Zo (Kg buf o s) := by
 simp only [Zo, Kg, List.map_append, List.map_take, List.map_drop]
theorem Ks {P : Program} (w : World) {ops : Array Oper} {rest : List Oper} {o : Oper} {a : Act} {Q : Exit → Act → World → Prop} (hgd : o.guard = none) (d x : Operand) (dT sT elem : TypeId)
  (ho : o.op = .call { callee := .builtin .copy, args := #[d, x], argTypes := #[dT, sT] }) (hu : P.underlying dT = some (.slice elem)) (hs : (P.info? elem).map (·.size) = some 1)
  (g off dLen dCap : Nat) (s : ByteArray) (buf : List UInt8) (t : TypeId) (hd : a.eval d = .slice (some ⟨g, off, none⟩) dLen dCap) (hx : a.eval x = .string s) (hg : Blk w g t (Zo buf).toArray)
  (k : Nat) (L : List UInt8) (hk : min s.size dLen = k) (hL : s.data.toList.take k = L) (hfit : off + k ≤ buf.length)
  (h : wpList P ops Q rest (a.put o.dst (.int .i64 (k : Int))) (w.setRow g (Zo (Kg buf off L)).toArray)) :
  wpList P ops Q (o :: rest) a w := by
 have hsz : s.data.toList.length = s.size := ah
 have hLl : L.length = k := by rw [← hL, List.length_take, hsz]; omega
 refine Zfp w hgd d x dT sT elem ho hu hs g off dLen dCap s _ t hd hx hg (by rw [hk]; simp [Zo]; exact hfit) ?_;have e : min (s.size : Int) (dLen : Int) = (k : Int) := aa
 rw [hk, hL, e];have := Zk2 buf off L;rw [hLl] at this;rw [this];exact h
/-! ### A ring in memory -/
def Zc1 (w : World) (g gb m first n : Nat) (buf : List UInt8) : Prop :=
 Blk w g 138 #[.slice (some ⟨gb, 0, none⟩) m m, (first : Int), (n : Int)] ∧ Blk w gb 5 (Zo buf).toArray ∧ buf.length = m ∧ 1 ≤ m ∧ m ≤ 4096 ∧ first < m ∧ n ≤ m
def Rg (w : World) (g gb m : Nat) (S : List UInt8) : Prop := ∃ first buf, Zc1 w g gb m first S.length buf ∧ RgM buf first S.length = S
def RgF (g gb : Nat) (k : Nat) : Prop := k = g ∨ k = gb
theorem Zc1.below {w w' : World} {g gb m first n : Nat} {buf : List UInt8} (h : Zc1 w g gb m first n buf) (hb : Below w.heap.size w w') : Zc1 w' g gb m first n buf :=
 ⟨h.1.below hb h.1.lt, h.2.1.below hb h.2.1.lt, h.2.2⟩
theorem Rg.below {w w' : World} {g gb m : Nat} {S : List UInt8} (h : Rg w g gb m S) (hb : Below w.heap.size w w') : Rg w' g gb m S := by
 obtain ⟨f, b, h1, h2⟩ := h; exact ⟨f, b, h1.below hb, h2⟩
theorem Zc1.keep {F : Nat → Prop} {w w' : World} {g gb m first n : Nat} {buf : List UInt8} (h : Zc1 w g gb m first n buf) (hk : Za F w w') (hg : ¬ F g) (hgb : ¬ F gb) : Zc1 w' g gb m first n buf :=
 ⟨hk.blk h.1 hg, hk.blk h.2.1 hgb, h.2.2⟩
theorem Rg.keep {F : Nat → Prop} {w w' : World} {g gb m : Nat} {S : List UInt8} (h : Rg w g gb m S) (hk : Za F w w') (hg : ¬ F g) (hgb : ¬ F gb) : Rg w' g gb m S := by
 obtain ⟨f, b, h1, h2⟩ := h; exact ⟨f, b, h1.keep hk hg hgb, h2⟩
theorem Rg.le {w : World} {g gb m : Nat} {S : List UInt8} (h : Rg w g gb m S) : S.length ≤ m ∧ 1 ≤ m ∧ m ≤ 4096 := by
 obtain ⟨f, b, h1, h2⟩ := h; exact ⟨h1.2.2.2.2.2.2, h1.2.2.2.1, h1.2.2.2.2.1⟩
theorem Rg.lt {w : World} {g gb m : Nat} {S : List UInt8} (h : Rg w g gb m S) : g < w.heap.size ∧ gb < w.heap.size := by
 obtain ⟨f, b, h1, h2⟩ := h; exact ⟨h1.1.lt, h1.2.1.lt⟩
def We (x : Int) (m : Nat) : Nat := if x < 1 then 1 else if (m : Int) < x then m else x.toNat
theorem Zqk {w w1 : World} {m : Nat} (h1 : 1 ≤ m) (h2 : m ≤ 4096) (hown : w1.ownsRow w.heap.size 5 1 (.slice (some ⟨w.heap.size, 0, none⟩) m m) m (List.replicate m (.int .u8 0))) (hg : w.grownBy w1 none) :
  Rg (w1.alloc (.cells #[.slice (some ⟨w.heap.size, 0, none⟩) m m, .int .i64 0, .int .i64 0] 138)) w1.heap.size w.heap.size m [] ∧ w.heap.size ≤ w1.heap.size ∧ Below w.heap.size w (w1.alloc (.cells #[.slice (some ⟨w.heap.size, 0, none⟩) m m, .int .i64 0, .int .i64 0] 138)) := by
 have hb : Below w.heap.size w w1 := (Below.refl _ w).grown hg (Nat.le_refl _) ah;refine ⟨⟨0, List.replicate m 0, ⟨Blk.new _ _ _, ?_, ah, h1, h2, h1, ah⟩, by simp [RgM]⟩, hb.size, hb.alloc hb.size _⟩;rcases hown.2 with ⟨hv, _⟩ | ⟨g, cap, cur, hv, _, hgb, hn, hc, hcs, ht⟩
 ·cases hv
 ·injection hv with e1 e2 e3
  injection e1 with e1
  injection e1 with e1
  subst e1; subst e3
  have hcur : cur = (Zo (List.replicate m 0)).toArray := by
   have hl : cur.toList.take (m * 1) = cur.toList := List.take_of_length_le af;rw [hl] at ht;rw [← Array.toList_inj, ht];simp [Zo]
  rw [← hcur];exact Blk.alloc (h := hgb) _
theorem N44{P:Prop}(h:P:=by
 intro w1 hown1 hg1;have hk := hid (Zqk aa aa hown1 hg1);clear hown1 hg1;go_wp2_with fail;go_ret;exact ⟨_, _, rfl, hk.out.1, hk.out.2.1, Nat.le_refl _, hk.out.2.2⟩):P:=h
theorem Zgi (most : Int) (w : World) (h1 : -9223372036854775808 ≤ most) (h2 : most ≤ 9223372036854775807) :
  Calls Tryz.prog 96 #[most] w fun e w' => ∃ g gb, e = .returned (.pointer (some ⟨g, 0, none⟩)) ∧ Rg w' g gb (We most 4096) [] ∧ w.heap.size ≤ g ∧ w.heap.size ≤ gb ∧ Below w.heap.size w w' := by
 by_cases c1 : most < 1
 ·rw [show We most 4096 = 1 from if_pos c1]
  go_enter Tryz.func96, Tryz.ntmps96;go_wp2_with (at_make; refine Mc _ rfl _ _ 136 rfl w.heap.size 5 _ 1 Tryz.underlying136 Qj rfl .i64 .i64 _ _ 1 rfl rfl aa aa aa aa (Nat.le_refl _) ?_);exact N44
 by_cases c2 : 4096 < most
 ·rw [show We most 4096 = 4096 from jl]
  go_enter Tryz.func96, Tryz.ntmps96;go_wp2_with (at_make; refine Mc _ rfl _ _ 136 rfl w.heap.size 5 _ 1 Tryz.underlying136 Qj rfl .i64 .i64 _ _ 4096 rfl rfl aa aa aa aa (Nat.le_refl _) ?_);exact N44
 ·obtain ⟨m, rfl⟩ : ∃ m : Nat, most = m := ⟨most.toNat, aa⟩
  rw [show We (m : Int) 4096 = m from by rw [We, if_neg c1, if_neg aa]; omega];go_enter Tryz.func96, Tryz.ntmps96;go_wp2_with (at_make; refine Mc _ rfl _ _ 136 rfl w.heap.size 5 _ 1 Tryz.underlying136 Qj rfl .i64 .i64 _ _ m rfl rfl aa aa aa aa (Nat.le_refl _) ?_);exact N44
theorem Zai (w : World) (g gb m first n : Nat) (buf : List UInt8) (i : Nat) (h : Zc1 w g gb m first n buf) (hi : i ≤ 1000000) :
  Calls Tryz.prog 109 #[.pointer (some ⟨g, 0, none⟩), (i : Int)] w fun e w' => e = .returned (((first + i) % m : Nat) : Int) ∧ Below w.heap.size w w' := by
 obtain ⟨h1, h2, h3, h4, h5, h6, h7⟩ := h;have d0 := h1.cell 0;have d1 := h1.cell 1;simp only [List.getElem?_toArray, List.getElem?_cons_zero, List.getElem?_cons_succ] at d0 d1;have hm0 : ((m : Int) == 0) = false := bF aa;obtain ⟨z, hz⟩ := nE ((first + i) % m);have hzi : Int.tmod ((first : Int) + (i : Int)) (m : Int) = (z : Int) := by rw [Int.tmod_eq_emod_of_nonneg aa, ← Int.natCast_add, ← Int.natCast_emod, hz]
 rw [hz];clear hz h1 h2 h3;go_enter Tryz.func109, Tryz.ntmps109;go_wp2_with fail
 go_quiet (fail)
 go_wp2_with fail;go_ret;exact ⟨rfl, ⟨rfl, rfl, rfl, Nat.le_refl _, fun _ _ => rfl⟩⟩
theorem Zp9 {w : World} {gb : Nat} {buf : List UInt8} (h : Blk w gb 5 (Zo buf).toArray) (i : Nat) : w.cell? ⟨gb, i, none⟩ = (buf[i]?).map fun b => .int .u8 (b.toNat : Int) := by
 rw [h.cell i]; simp [Zo]
theorem Zb3 {w : World} {gb : Nat} {buf : List UInt8} (h : Blk w gb 5 (Zo buf).toArray) (off len cap : Nat) (hl : off + len ≤ buf.length) :
  (convert 136 9 (.slice (some ⟨gb, off, none⟩) len cap)).run Tryz.prog w = .ok (.string ⟨((buf.drop off).take len).toArray⟩) w := by
 rw [run_convert_bytes_arg w 136 5 Tryz.underlying136 Tryz.underlying5 gb off len cap (((buf.drop off).take len).map fun b => (b.toNat : Int)) af (fun i hi => ?_) 9 Tryz.underlying9]
 ·congr 2
  unfold strOfNums
  congr 1
  rw [List.map_map]
  have : ((fun n : Int => UInt8.ofNat n.toNat) ∘ fun b : UInt8 => (b.toNat : Int)) = id := by
   funext b; simp
  first
   | rw [this, List.map_id]
   | (simp)
 ·rw [Zp9 h]
  have h1 : off + i < buf.length := aa
  simp [List.getD, h1, hi]
theorem Zi8 (w : World) (g gb m first n : Nat) (buf : List UInt8) (a k : Nat) (h : Zc1 w g gb m first n buf) (hak : a + k ≤ n) :
  Calls Tryz.prog 195 #[.pointer (some ⟨g, 0, none⟩), (a : Int), (k : Int)] w fun e w' => e = .returned (.string ⟨(((RgM buf first n).drop a).take k).toArray⟩) ∧ Below w.heap.size w w' := by
 by_cases hk0 : k = 0
 ·subst hk0
  go_enter Tryz.func195, Tryz.ntmps195;go_wp2_with fail;go_ret;exact ⟨ah, Below.refl _ _⟩
 have hk1 : ((k : Int) == 0) = false := bF aa;have HPK := hid (Zo0 buf first n a k de de hak aa);have C := hid (Zai w g gb m first n buf a h de);have hlen := h.2.2.1;rw [hlen] at HPK;have hoz : (first + a) % m < m := Nat.mod_lt _ de;obtain ⟨o, ho⟩ := nE ((first + a) % m);rw [ho] at HPK C hoz;obtain ⟨R, hR⟩ := nE (((RgM buf first n).drop a).take k);rw [hR] at HPK ⊢;have HH := hid h;have hm4 : m ≤ 4096 := h.2.2.2.2.1;have hnm : n ≤ m := h.2.2.2.2.2.2;clear hR ho h hk0;go_enter Tryz.func195, Tryz.ntmps195;go_wp2_with fail;refine C.mono ?_;rintro en w1 ⟨rfl, hb1⟩;have HB1 := hid hb1;have HB := hid (HH.below hb1);clear C hb1 HH;have d0 := HB.1.cell 0;simp only [List.getElem?_toArray, List.getElem?_cons_zero] at d0;by_cases hc : o + k ≤ m
 ·have HE : Hid (R = (buf.drop o).take k) := by have := HPK.out; rwa [if_pos hc] at this
  have hcv := Zb3 HB.2.1 o k (m - o) aa;rw [← HE.out] at hcv;clear HPK;go_wp2_with fail;go_ret;exact ⟨rfl, HB1.out⟩
 ·have HE : Hid (R = buf.drop o ++ buf.take (o + k - m)) := by have := HPK.out; rwa [if_neg hc] at this
  obtain ⟨j, hj⟩ := nE (o + k - m);have hji : (o : Int) + (k : Int) - (m : Int) = (j : Int) := aa
  have hcv1 : ∀ q, (convert 136 9 (.slice (some ⟨gb, o, none⟩) (m - o) (m - o))).run Tryz.prog (w1.drewN q) = .ok (.string ⟨(buf.drop o).toArray⟩) (w1.drewN q) := by
   intro q;have := Zb3 (w := w1.drewN q) HB.2.1 o (m - o) (m - o) aa;rw [show (buf.drop o).take (m - o) = buf.drop o from List.take_of_length_le (by rw [List.length_drop]; omega)] at this;exact this
  have hcv2 : ∀ q, (convert 136 9 (.slice (some ⟨gb, 0, none⟩) j m)).run Tryz.prog (w1.drewN q) = .ok (.string ⟨(buf.take j).toArray⟩) (w1.drewN q) := by
   intro q;have := Zb3 (w := w1.drewN q) HB.2.1 0 j m aa;rwa [List.drop_zero] at this
  rw [hj] at HE;clear HPK;go_wp2_with fail
  go_quiet (fail)
  go_wp2_with fail;go_ret;exact ⟨by rw [HE.out]; simp [ByteArray.ext_iff], HB1.trans ⟨rfl, rfl, rfl, Nat.le_refl _, fun _ _ => rfl⟩⟩
def rgT (l : List UInt8) : ByteArray := ⟨l.toArray⟩
theorem Qe (l : List UInt8) : (rgT l).size = l.length := by simp [rgT, ByteArray.size]
theorem Zi9 (w : World) (g gb m first n : Nat) (buf : List UInt8) (k : Nat) (h : Zc1 w g gb m first n buf) (hk : k ≤ n) :
  Calls Tryz.prog 196 #[.pointer (some ⟨g, 0, none⟩), (k : Int)] w fun e w' => e = .returned (.tuple #[]) ∧ Rg w' g gb m ((RgM buf first n).drop k) ∧ Za (RgF g gb) w w' := by
 have C := hid (Zai w g gb m first n buf k h de);have hlen := h.2.2.1;have HD := hid (Zp2 buf first n k de de hk);rw [hlen] at HD;obtain ⟨o, ho⟩ := nE ((first + k) % m);have hom : o < m := by rw [← ho]; exact Nat.mod_lt _ de
 rw [ho] at C HD;have HH := hid h;have hm4 : m ≤ 4096 := h.2.2.2.2.1;have hnm : n ≤ m := h.2.2.2.2.2.2;have hm1 : 1 ≤ m := h.2.2.2.1;have HLS : Hid (((RgM buf first n).drop k).length = n - k) := by rw [Hid, List.length_drop, Vy]
 have hnk : ((n : Int) - (k : Int)) = ((n - k : Nat) : Int) := aa
 obtain ⟨j, hj⟩ := nE (n - k);rw [hj] at hnk HD HLS;have hjm : j ≤ m := aa
 clear ho h;go_enter Tryz.func196, Tryz.ntmps196;go_wp2_with fail;refine C.mono ?_;rintro en w1 ⟨rfl, hb1⟩;have HB1 := hid hb1;have HB := hid (HH.below hb1);clear C hb1 HH;have B0 := hid HB.1;have HNE := hid (Gy HB.1 HB.2.1 ac);have d0 := HB.1.cell 0;have d1 := HB.1.cell 1;have d2 := HB.1.cell 2;have f1 := HB.1.frozen 1;have f2 := HB.1.frozen 2;simp only [List.getElem?_toArray, List.getElem?_cons_zero, List.getElem?_cons_succ] at d0 d1 d2;clear hj;by_cases hj0 : j = 0
 ·subst hj0
  have HK : Hid (Zc1 (((w1.setCell ⟨g, 1, none⟩ (.int .i64 (o : Int))).setCell ⟨g, 2, none⟩ (.int .i64 0)).setCell ⟨g, 1, none⟩ (.int .i64 0)) g gb m 0 0 buf) := by
   refine ⟨?_, ?_, hlen, hm1, hm4, aa, aa⟩
   ·have := ((B0.set 1 (.int .i64 (o : Int))).set 2 (.int .i64 0)).set 1 (.int .i64 0)
    simpa using this
   ·exact ((HB.2.1.set_far HNE.symm).set_far HNE.symm).set_far HNE.symm
  have HKP : Hid (Za (RgF g gb) w (((w1.setCell ⟨g, 1, none⟩ (.int .i64 (o : Int))).setCell ⟨g, 2, none⟩ (.int .i64 0)).setCell ⟨g, 1, none⟩ (.int .i64 0))) :=
   (Za.of_below HB1.out).trans (((Za.setCell (RgF g gb) w1 _ _ (.inl rfl)).trans (Za.setCell (RgF g gb) _ _ _ (.inl rfl)) (fun _ => .inl)).trans (Za.setCell (RgF g gb) _ _ _ (.inl rfl)) (fun _ => .inl)) (fun _ => .inl)
  have HEM : Hid ((RgM buf first n).drop k = []) := List.eq_nil_of_length_eq_zero HLS.out;clear HB HB1 HLS HD B0 HNE;go_wp2_with fail
  go_end0
  exact ⟨rfl, by rw [HEM.out]; exact ⟨0, buf, HK.out, rfl⟩, HKP.out⟩
 ·have hj1 : ((j : Int) == 0) = false := bF aa
  have HK : Hid (Zc1 ((w1.setCell ⟨g, 1, none⟩ (.int .i64 (o : Int))).setCell ⟨g, 2, none⟩ (.int .i64 (j : Int))) g gb m o j buf) := by
   refine ⟨?_, ?_, hlen, hm1, hm4, hom, hjm⟩
   ·have := (B0.set 1 (.int .i64 (o : Int))).set 2 (.int .i64 (j : Int))
    simpa using this
   ·exact (HB.2.1.set_far HNE.symm).set_far HNE.symm
  have HKP : Hid (Za (RgF g gb) w ((w1.setCell ⟨g, 1, none⟩ (.int .i64 (o : Int))).setCell ⟨g, 2, none⟩ (.int .i64 (j : Int)))) :=
   (Za.of_below HB1.out).trans ((Za.setCell (RgF g gb) w1 _ _ (.inl rfl)).trans (Za.setCell (RgF g gb) _ _ _ (.inl rfl)) (fun _ => .inl)) (fun _ => .inl)
  clear HB HB1 B0 HNE hj0;go_wp2_with fail
  go_end0
  exact ⟨rfl, ⟨o, buf, by rw [HLS.out]; exact HK.out, by rw [HLS.out]; exact HD.out⟩, HKP.out⟩
theorem Zgj (w : World) (g gb m : Nat) (S : List UInt8) (h : Rg w g gb m S) :
  Calls Tryz.prog 81 #[.pointer (some ⟨g, 0, none⟩)] w fun e w' => e = .returned (S.length : Int) ∧ w = w' := by
 obtain ⟨first, buf, h1, h2⟩ := h;have d2 := h1.1.cell 2;simp only [List.getElem?_toArray, List.getElem?_cons_zero, List.getElem?_cons_succ] at d2;clear h1 h2;go_enter Tryz.func81, Tryz.ntmps81;go_wp2_with fail;go_ret;exact ⟨rfl, rfl⟩
def Nv (x : Int) (m : Nat) : Nat := if x < 0 then 0 else if (m : Int) < x then m else x.toNat
theorem Zn3 (x : Int) (m : Nat) : Nv x m ≤ m := by unfold Nv; split <;> (try split) <;> omega
theorem Zko (w : World) (g gb m : Nat) (S : List UInt8) (n : Int) (h : Rg w g gb m S) (_h1 : -9223372036854775808 ≤ n) (_h2 : n ≤ 9223372036854775807) :
  Calls Tryz.prog 170 #[.pointer (some ⟨g, 0, none⟩), n] w fun e w' => e = .returned (.string (rgT (S.take (Nv n S.length)))) ∧ Rg w' g gb m (S.drop (Nv n S.length)) ∧ Za (RgF g gb) w w' := by
 obtain ⟨first, buf, h1, h2⟩ := h;obtain ⟨N, hN⟩ := nE (S.length);rw [hN] at h1 h2 ⊢;have hd2 := h1.1.cell 2;simp only [List.getElem?_toArray, List.getElem?_cons_zero, List.getElem?_cons_succ] at hd2;have hNm : N ≤ m := h1.2.2.2.2.2.2;have hm4 : m ≤ 4096 := h1.2.2.2.2.1
 have key : ∀ (k : Nat), k = Nv n N → Hid (Calls Tryz.prog 195 #[.pointer (some ⟨g, 0, none⟩), .int .i64 0, (k : Int)] w fun e w' => e = .returned (.string (rgT (S.take k))) ∧ Below w.heap.size w w') ∧
   Hid (∀ w1, Below w.heap.size w w1 → Calls Tryz.prog 196 #[.pointer (some ⟨g, 0, none⟩), (k : Int)] w1 fun e w' => e = .returned (.tuple #[]) ∧ Rg w' g gb m (S.drop k) ∧ Za (RgF g gb) w1 w') := by
  intro k hk;have hkN : k ≤ N := by rw [hk]; exact Zn3 _ _
  refine ⟨?_, fun w1 hb1 => ?_⟩
  ·have := Zi8 w g gb m first N buf 0 k h1 aa
   rw [List.drop_zero, h2] at this;exact this
  ·have := Zi9 w1 g gb m first N buf k (h1.below hb1) hkN
   rw [h2] at this;exact this
 obtain ⟨k, hk⟩ := nE (Nv n N);obtain ⟨C1, C2⟩ := key k hk.symm;rw [hk]
 have hmm : (n < 0 ∧ k = 0) ∨ (0 ≤ n ∧ (N : Int) < n ∧ k = N) ∨ (0 ≤ n ∧ n ≤ (N : Int) ∧ n = (k : Int)) := by
  unfold Nv at hk;split at hk
  ·exact .inl ⟨aa, aa⟩
  ·split at hk
   ·exact .inr (.inl ⟨aa, aa, aa⟩)
   ·exact .inr (.inr ⟨aa, aa, aa⟩)
 clear key hk h1 h2 hN;rcases hmm with ⟨a1, rfl⟩ | ⟨a1, a2, rfl⟩ | ⟨a1, a2, rfl⟩
 all_goals
  go_enter Tryz.func170, Tryz.ntmps170;go_wp2_with fail;refine C1.mono ?_;rintro en w1 ⟨rfl, hb1⟩;have HB1 := hid hb1;have C3 := hid (C2.out w1 hb1);clear C1 C2 hb1;go_wp2_with fail;refine C3.mono ?_;rintro en w2 ⟨rfl, hrg, hkp⟩;have HRG := hid hrg;have HKP := hid ((Za.of_below HB1.out).trans hkp (fun _ => .inl));clear C3 HB1 hrg hkp;go_wp2_with fail;go_ret;exact ⟨rfl, HRG.out, HKP.out⟩
theorem Me (s : ByteArray) (n : Nat) : (s.extract 0 n).data.toList = s.data.toList.take n := by
 simp only [ByteArray.data_extract, Array.toList_extract, List.extract_eq_take_drop, Nat.sub_zero, List.drop_zero]
theorem Zao (s : ByteArray) (k n : Nat) : (s.extract k n).data.toList = (s.data.toList.drop k).take (n - k) := by
 simp only [ByteArray.data_extract, Array.toList_extract, List.extract_eq_take_drop]
theorem N67{P:Prop}(h:P:=by
 rw [← hw2];exact (((Za.of_below HB1.out).trans (Za.drewN (RgF g gb) w1 1) (fun _ => .inl)).trans (Za.setRow (RgF g gb) _ gb _ (.inr rfl)) (fun _ => .inl)).trans (Za.drewN (RgF g gb) _ 1) (fun _ => .inl)):P:=h
theorem Zmv (w : World) (g gb m : Nat) (S : List UInt8) (s : ByteArray) (h : Rg w g gb m S) (hs : s.size ≤ 9223372036854775807) :
  Calls Tryz.prog 64 #[.pointer (some ⟨g, 0, none⟩), s] w fun e w' => e = .returned ((min s.size (m - S.length) : Nat) : Int) ∧ Rg w' g gb m (S ++ s.data.toList.take (min s.size (m - S.length))) ∧ Za (RgF g gb) w w' := by
 obtain ⟨first, buf, h1, h2⟩ := h;obtain ⟨N, hN⟩ := nE (S.length);have HNN := hid hN;rw [hN] at h1 h2 ⊢;have hlen := h1.2.2.1;have hm1 : 1 ≤ m := h1.2.2.2.1;have hm4 : m ≤ 4096 := h1.2.2.2.2.1;have hfm : first < m := h1.2.2.2.2.2.1
 have hNm : N ≤ m := h1.2.2.2.2.2.2;obtain ⟨q, hq⟩ := nE (min s.size (m - N));rw [hq];have hqm : q + N ≤ m := aa
 have hqs : q ≤ s.size := aa
 have HSZ : Hid (s.data.toList.length = s.size) := by rw [Hid]; simp
 have HTL : Hid ((s.data.toList.take q).length = q) := by rw [Hid, List.length_take, HSZ.out]; omega
 have HP := hid (Zqt buf first N (s.data.toList.take q) aa (by rw [HTL.out]; omega));have HPL := hid (Zdu buf first N (s.data.toList.take q) aa (by rw [HTL.out]; omega));have hd0 := h1.1.cell 0;have hd2 := h1.1.cell 2;have hf2 := h1.1.frozen 2;simp only [List.getElem?_toArray, List.getElem?_cons_zero, List.getElem?_cons_succ] at hd0 hd2;have C := hid (fun W hb => Zai W g gb m first N buf N (Zc1.below h1 hb) aa);have hom : (first + N) % m < m := Nat.mod_lt _ aa;obtain ⟨o, ho⟩ := nE ((first + N) % m);rw [ho] at C hom
 -- how many go to the room's end
 obtain ⟨k, hk⟩ := nE (min q (m - o))
 have HPM : Hid (Zfy buf first N (s.data.toList.take q) = Kg (Kg buf o ((s.data.toList.take q).take k)) 0 ((s.data.toList.take q).drop k)) := by
  rw [Hid, Zfy, hlen, ho, HTL.out, hk]
 have hkq : k ≤ q := aa
 have hko : o + k ≤ m := aa
 have hqi : min (s.size : Int) ((m : Int) - (N : Int)) = (q : Int) := aa
 have HH := hid h1;have HS2 := hid h2;clear h1 h2 ho;have hcap : q = s.size ∧ (s.size : Int) ≤ (m : Int) - (N : Int) ∨ (m : Int) - (N : Int) = (q : Int) ∧ (q : Int) < (s.size : Int) := aa
 have B0 := hid HH.1;have B1 := hid HH.2.1;have HNE := hid (Gy HH.1 HH.2.1 ac)
 have HX2 : Hid ((s.extract k q).data.toList.take (q - k) = (s.data.toList.take q).drop k) := by
  rw [Hid, Zao, List.take_take, Nat.min_self, List.drop_take]
 clear HH hq hqi;go_enter Tryz.func64, Tryz.ntmps64;rcases hcap with ⟨hq1, hc1⟩ | ⟨hqn, hc1⟩
 ·subst hq1
  have HQS : Hid (s.size = s.size) := rfl;have HX1 : Hid (s.data.toList.take k = (s.data.toList.take s.size).take k) := by rw [Hid, List.take_of_length_le (show s.data.toList.length ≤ s.size by rw [HSZ.out]; exact Nat.le_refl _)]
  have HK1 : Hid (min s.size (m - o) = k) := hk;have HF1 : Hid (o + k ≤ buf.length) := by rw [Hid, hlen]; exact hko
  have HK2 : Hid (min (s.extract k s.size).size m = s.size - k) := by rw [Hid, ByteArray.size_extract]; omega
  go_wp2_with fail
  go_quiet (fail)
  go_wp2_with fail;refine (C.out (w.drewN _) ⟨rfl, rfl, rfl, Nat.le_refl _, fun _ _ => rfl⟩).mono ?_;rintro en w1 ⟨rfl, hb1⟩;have HB1 : Hid (Below w.heap.size w w1) := Zd6 hb1;clear C hb1;have d0 : w1.cell? ⟨g, 0, none⟩ = some (.slice (some ⟨gb, 0, none⟩) m m) := (HB1.cell (p := ⟨g, 0, none⟩) B0.lt).trans hd0;clear hd0 hd2 hf2;have HB1x : Hid (Blk (w1.drewN 1) gb 5 (Zo buf).toArray) := (show Blk w1 gb 5 (Zo buf).toArray from B1.below HB1.out B1.lt);have HB0x : Hid (Blk (w1.drewN 1) g 138 #[.slice (some ⟨gb, 0, none⟩) m m, (first : Int), (N : Int)]) := (show Blk w1 g 138 #[.slice (some ⟨gb, 0, none⟩) m m, (first : Int), (N : Int)] from B0.below HB1.out B0.lt);go_wp2_with fail;refine Zx (.val 0 (.val 1 (.val 2 (.val 4 (.val 6 (.val 7 (.val 8 (.op 3 (.val 5 (.op 9 (.val 10 (.nil)))))))))))) ab ab ?_
  iterate 7 (refine Zb rfl ?_; go_big_quiet_step (fail); refine wpQuiet_nil ?_)
  refine Zc rfl ?_;go_wp2_with fail;refine Zb rfl ?_
  go_big_quiet_step (fail)
  refine wpQuiet_nil ?_;refine Zc rfl ?_;go_wp2_with (refine Ks _ rfl _ _ 136 9 5 rfl Tryz.underlying136 ab gb o (m - o) (m - o) (s) buf 5 rfl rfl HB1x.out k ((s.data.toList.take s.size).take k) HK1.out HX1.out HF1.out ?_);simp only [Act.put, List.setIfInBounds_toArray, List.set_cons_succ, List.set_cons_zero];refine Zb rfl ?_
  go_big_quiet_step (fail)
  refine wpQuiet_nil ?_;refine Yi ?_;obtain ⟨w2, hw2⟩ := nE ((w1.drewN 1).setRow gb (Zo (Kg buf o ((s.data.toList.take s.size).take k))).toArray);rw [hw2];obtain ⟨buf2, hbuf2⟩ := nE (Kg buf o ((s.data.toList.take s.size).take k));rw [hbuf2] at hw2 HPM;have HL2 : Hid (buf2.length = m) := ia
  have HB2x : Hid (Blk (w2.drewN 1) gb 5 (Zo buf2).toArray) := hw2 ▸ HB1x.setRow _;have HB2y : Hid (Blk (w2.drewN 1) g 138 #[.slice (some ⟨gb, 0, none⟩) m m, (first : Int), (N : Int)]) := hw2 ▸ HB0x.setRow_far HNE.out
  have HKP2 : Hid (Za (RgF g gb) w (w2.drewN 1)) := by
   exact N67
  have e0 := cA HB2y.out 0 (.slice (some ⟨gb, 0, none⟩) m m) rfl;have HF2 : Hid (0 + (s.size - k) ≤ buf2.length) := by rw [Hid, HL2.out]; omega
  clear hw2 hbuf2 d0 HB1x HB0x HB1;go_wp2_with fail;refine Zx (.val 0 (.val 1 (.val 2 (.val 4 (.val 5 (.val 6 (.val 7 (.op 3 (.op 8 (.nil)))))))))) ab ab ?_
  iterate 7 (refine Zb rfl ?_; go_big_quiet_step (fail); refine wpQuiet_nil ?_)
  refine Zc rfl ?_;go_wp2_with fail;refine Zc rfl ?_;go_wp2_with (refine Ks _ rfl _ _ 136 9 5 rfl Tryz.underlying136 ab gb 0 m m (s.extract k s.size) buf2 5 rfl rfl HB2x.out (s.size - k) ((s.data.toList.take s.size).drop k) HK2.out HX2.out HF2.out ?_);simp only [Act.put, List.setIfInBounds_toArray, List.set_cons_succ, List.set_cons_zero];refine Yi ?_;obtain ⟨w3, hw3⟩ := nE ((w2.drewN 1).setRow gb (Zo (Kg buf2 0 ((s.data.toList.take s.size).drop k))).toArray);rw [hw3];rw [← HPM.out] at hw3;have HB3x : Hid (Blk w3 gb 5 (Zo (Zfy buf first N (s.data.toList.take s.size))).toArray) := hw3 ▸ HB2x.setRow _;have HB3y : Hid (Blk w3 g 138 #[.slice (some ⟨gb, 0, none⟩) m m, (first : Int), (N : Int)]) := hw3 ▸ HB2y.setRow_far HNE.out
  have HKP3 : Hid (Za (RgF g gb) w w3) := by
   rw [← hw3];exact HKP2.trans (Za.setRow (RgF g gb) _ gb _ (.inr rfl)) (fun _ => .inl)
  have u2 := cA HB3y.out 2 (N : Int) rfl;have uf := HB3y.frozen 2;have ul := HB3y.lt;clear hw3 e0 HB2x HB2y HKP2;go_wp2_with fail;go_ret;refine ⟨rfl, ⟨first, Zfy buf first N (s.data.toList.take s.size), ⟨?_, HB3x.set_far HNE.symm, ?_, hm1, hm4, hfm, ?_⟩, ?_⟩, HKP3.trans (Za.setCell (RgF g gb) w3 ⟨g, 2, none⟩ _ (.inl rfl)) (fun _ => .inl)⟩
  ·have := HB3y.set 2 (.int .i64 ((N : Int) + (s.size : Nat)))
   have hl : ((S ++ s.data.toList.take s.size).length : Int) = (N : Int) + (s.size : Nat) := by rw [List.length_append, HNN.out, HTL.out]; omega
   rw [hl];exact this
  ·rw [HPL.out]; exact hlen
  ·rw [List.length_append, HNN.out, HTL.out]; omega
  ·rw [List.length_append, HNN.out, HTL.out]
   rw [HTL.out] at HP;rw [HP.out, HS2.out]
 ·have HQS : Hid ((s.extract 0 q).size = q) := by rw [Hid, ByteArray.size_extract]; omega
  have HX1 : Hid ((s.extract 0 q).data.toList.take k = (s.data.toList.take q).take k) := by rw [Hid, Me]
  have HK1 : Hid (min (s.extract 0 q).size (m - o) = k) := by rw [Hid, HQS.out]; exact hk
  have HF1 : Hid (o + k ≤ buf.length) := by rw [Hid, hlen]; exact hko
  have HK2 : Hid (min (s.extract k q).size m = q - k) := by rw [Hid, ByteArray.size_extract]; omega
  go_wp2_with fail
  go_quiet (fail)
  go_wp2_with fail;refine (C.out (w.drewN _) ⟨rfl, rfl, rfl, Nat.le_refl _, fun _ _ => rfl⟩).mono ?_;rintro en w1 ⟨rfl, hb1⟩;have HB1 : Hid (Below w.heap.size w w1) := Zd6 hb1;clear C hb1;have d0 : w1.cell? ⟨g, 0, none⟩ = some (.slice (some ⟨gb, 0, none⟩) m m) := (HB1.cell (p := ⟨g, 0, none⟩) B0.lt).trans hd0;clear hd0 hd2 hf2;have HB1x : Hid (Blk (w1.drewN 1) gb 5 (Zo buf).toArray) := (show Blk w1 gb 5 (Zo buf).toArray from B1.below HB1.out B1.lt);have HB0x : Hid (Blk (w1.drewN 1) g 138 #[.slice (some ⟨gb, 0, none⟩) m m, (first : Int), (N : Int)]) := (show Blk w1 g 138 #[.slice (some ⟨gb, 0, none⟩) m m, (first : Int), (N : Int)] from B0.below HB1.out B0.lt);go_wp2_with fail;refine Zx (.val 0 (.val 1 (.val 2 (.val 4 (.val 6 (.val 7 (.val 8 (.op 3 (.val 5 (.op 9 (.val 10 (.nil)))))))))))) ab ab ?_
  iterate 7 (refine Zb rfl ?_; go_big_quiet_step (fail); refine wpQuiet_nil ?_)
  refine Zc rfl ?_;go_wp2_with fail;refine Zb rfl ?_
  go_big_quiet_step (fail)
  refine wpQuiet_nil ?_;refine Zc rfl ?_;go_wp2_with (refine Ks _ rfl _ _ 136 9 5 rfl Tryz.underlying136 ab gb o (m - o) (m - o) (s.extract 0 q) buf 5 rfl rfl HB1x.out k ((s.data.toList.take q).take k) HK1.out HX1.out HF1.out ?_);simp only [Act.put, List.setIfInBounds_toArray, List.set_cons_succ, List.set_cons_zero];refine Zb rfl ?_
  go_big_quiet_step (fail)
  refine wpQuiet_nil ?_;refine Yi ?_;obtain ⟨w2, hw2⟩ := nE ((w1.drewN 1).setRow gb (Zo (Kg buf o ((s.data.toList.take q).take k))).toArray);rw [hw2];obtain ⟨buf2, hbuf2⟩ := nE (Kg buf o ((s.data.toList.take q).take k));rw [hbuf2] at hw2 HPM;have HL2 : Hid (buf2.length = m) := ia
  have HB2x : Hid (Blk (w2.drewN 1) gb 5 (Zo buf2).toArray) := hw2 ▸ HB1x.setRow _;have HB2y : Hid (Blk (w2.drewN 1) g 138 #[.slice (some ⟨gb, 0, none⟩) m m, (first : Int), (N : Int)]) := hw2 ▸ HB0x.setRow_far HNE.out
  have HKP2 : Hid (Za (RgF g gb) w (w2.drewN 1)) := by
   exact N67
  have e0 := cA HB2y.out 0 (.slice (some ⟨gb, 0, none⟩) m m) rfl;have HF2 : Hid (0 + (q - k) ≤ buf2.length) := by rw [Hid, HL2.out]; omega
  clear hw2 hbuf2 d0 HB1x HB0x HB1;go_wp2_with fail;refine Zx (.val 0 (.val 1 (.val 2 (.val 4 (.val 5 (.val 6 (.val 7 (.op 3 (.op 8 (.nil)))))))))) ab ab ?_
  iterate 7 (refine Zb rfl ?_; go_big_quiet_step (fail); refine wpQuiet_nil ?_)
  refine Zc rfl ?_;go_wp2_with fail;refine Zc rfl ?_;go_wp2_with (refine Ks _ rfl _ _ 136 9 5 rfl Tryz.underlying136 ab gb 0 m m (s.extract k q) buf2 5 rfl rfl HB2x.out (q - k) ((s.data.toList.take q).drop k) HK2.out HX2.out HF2.out ?_);simp only [Act.put, List.setIfInBounds_toArray, List.set_cons_succ, List.set_cons_zero];refine Yi ?_;obtain ⟨w3, hw3⟩ := nE ((w2.drewN 1).setRow gb (Zo (Kg buf2 0 ((s.data.toList.take q).drop k))).toArray);rw [hw3];rw [← HPM.out] at hw3;have HB3x : Hid (Blk w3 gb 5 (Zo (Zfy buf first N (s.data.toList.take q))).toArray) := hw3 ▸ HB2x.setRow _;have HB3y : Hid (Blk w3 g 138 #[.slice (some ⟨gb, 0, none⟩) m m, (first : Int), (N : Int)]) := hw3 ▸ HB2y.setRow_far HNE.out
  have HKP3 : Hid (Za (RgF g gb) w w3) := by
   rw [← hw3];exact HKP2.trans (Za.setRow (RgF g gb) _ gb _ (.inr rfl)) (fun _ => .inl)
  have u2 := cA HB3y.out 2 (N : Int) rfl;have uf := HB3y.frozen 2;have ul := HB3y.lt;clear hw3 e0 HB2x HB2y HKP2;go_wp2_with fail;go_ret;refine ⟨rfl, ⟨first, Zfy buf first N (s.data.toList.take q), ⟨?_, HB3x.set_far HNE.symm, ?_, hm1, hm4, hfm, ?_⟩, ?_⟩, HKP3.trans (Za.setCell (RgF g gb) w3 ⟨g, 2, none⟩ _ (.inl rfl)) (fun _ => .inl)⟩
  ·have := HB3y.set 2 (.int .i64 ((N : Int) + (q : Nat)))
   have hl : ((S ++ s.data.toList.take q).length : Int) = (N : Int) + (q : Nat) := by rw [List.length_append, HNN.out, HTL.out]; omega
   rw [hl];exact this
  ·rw [HPL.out]; exact hlen
  ·rw [List.length_append, HNN.out, HTL.out]; omega
  ·rw [List.length_append, HNN.out, HTL.out]
   rw [HTL.out] at HP;rw [HP.out, HS2.out]
end Go.Proofs.YtpkkfdmhbbipoaaGreat
