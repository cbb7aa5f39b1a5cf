/- Plain: a window, through which is looked. No program in sight. Rows of the call's own within a footprint, or of no element at all; appends to these. No program in sight. A window in memory. Walks: a window's text, the next byte, other patterns. Walks: a window: other patterns; what is left behind a match. Walks: a window: what is left behind a match. -/
import Derived.Test.YtpkkfdmhbbipoaaGreatMo
import Derived.Test.YtpkkfdmhbbipoaaGreatMa
import Derived.Test.YtpkkfdmhbbipoaaGreatPr
import Derived.Test.YtpkkfdmhbbipoaaGreatMm
namespace Go.Proofs.YtpkkfdmhbbipoaaGreat
set_option maxRecDepth 20000
set_option maxHeartbeats 1600000
open Go.RowKit
structure Zic where
 S : List UInt8
 seen : Nat
 R : List UInt8
 mtch : Bool
 full : Bool
 arm : Nat
 gone : Nat
 read : Nat
 deriving DecidableEq
def Wl (win : Nat) (ls : List (List Zm)) : Nat → List UInt8 → Nat → List UInt8 → Nat → Zic
 | 0, S, seen, R, rd => ⟨S, seen, R, false, false, 0, 0, rd⟩
 | n + 1, S, seen, R, rd =>
  if seen = S.length ∧ R = [] then ⟨S, seen, R, false, false, 0, 0, rd⟩ else
  if seen = S.length ∧ S.length = win then ⟨S, seen, R, false, true, 0, 0, rd⟩ else
  if (dsM ls (if seen = S.length then S ++ R.take 1 else S) (seen + 1)).any id = true then
   ⟨(if seen = S.length then S ++ R.take 1 else S).drop (seen + 1), 0, (if seen = S.length then R.drop 1 else R), true, false, Wr (dsM ls (if seen = S.length then S ++ R.take 1 else S) (seen + 1)), seen + 1, if seen = S.length then rd + 1 else rd⟩
  else Wl win ls n (if seen = S.length then S ++ R.take 1 else S) (seen + 1) (if seen = S.length then R.drop 1 else R) (if seen = S.length then rd + 1 else rd)
def Ko (S : List UInt8) (seen : Nat) (R : List UInt8) : Nat := R.length + (S.length - seen) + 1
def Vu (win : Nat) (ls : List (List Zm)) (S : List UInt8) (seen : Nat) (R : List UInt8) : Zic := Wl win ls (Ko S seen R) S seen R 0
theorem Zfg (win : Nat) (ls : List (List Zm)) (n : Nat) (S : List UInt8) (seen : Nat) (R : List UInt8) (rd : Nat) (h : seen < S.length) : Wl win ls (n + 1) S seen R rd =
  if (dsM ls S (seen + 1)).any id = true then ⟨S.drop (seen + 1), 0, R, true, false, Wr (dsM ls S (seen + 1)), seen + 1, rd⟩ else Wl win ls n S (seen + 1) R rd := by
 have h1 : ¬ seen = S.length := aa
 rw [Wl];simp only [h1, false_and, if_false]
theorem Zdz (win : Nat) (ls : List (List Zm)) (n : Nat) (S : List UInt8) (rd : Nat) : Wl win ls (n + 1) S S.length [] rd = ⟨S, S.length, [], false, false, 0, 0, rd⟩ := by
 rw [Wl, if_pos ⟨rfl, rfl⟩]
theorem Zd0 (win : Nat) (ls : List (List Zm)) (n : Nat) (S R : List UInt8) (rd : Nat) (h : R ≠ []) (hw : S.length = win) : Wl win ls (n + 1) S S.length R rd = ⟨S, S.length, R, false, true, 0, 0, rd⟩ := by
 rw [Wl, if_neg (fun h' => h h'.2), if_pos ⟨rfl, hw⟩]
theorem Zfh (win : Nat) (ls : List (List Zm)) (n : Nat) (S : List UInt8) (c : UInt8) (R : List UInt8) (rd : Nat) (hw : S.length ≠ win) : Wl win ls (n + 1) S S.length (c :: R) rd =
  if (dsM ls (S ++ [c]) (S.length + 1)).any id = true then ⟨[], 0, R, true, false, Wr (dsM ls (S ++ [c]) (S.length + 1)), S.length + 1, rd + 1⟩ else Wl win ls n (S ++ [c]) (S.length + 1) R (rd + 1) := by
 rw [Wl, if_neg (fun h' => by cases h'.2), if_neg (fun h' => hw h'.2)];simp
theorem Zgs (S : List UInt8) (seen : Nat) (R : List UInt8) : 1 ≤ Ko S seen R := by unfold Ko; omega
def Vk (F : Nat → Prop) (w : World) (base : Nat) (e : TypeId) (size : Nat) (v : Value) (n : Nat) (xs : List Value) : Prop :=
 (n = 0 ∧ xs = [] ∧ ∃ A, v = .slice A 0 0) ∨ (w.ownsRow base e size v n xs ∧ ∀ k, v.ownBlock = some k → F k)
theorem Vk.shape {F : Nat → Prop} {w : World} {base : Nat} {e : TypeId} {size : Nat} {v : Value} {n : Nat} {xs : List Value} (h : Vk F w base e size v n xs) : ∃ A c, v = .slice A n c ∧ Rd w A xs ∧ ∀ a, 0 < n → A = some a → F a.block := by
 rcases h with ⟨rfl, rfl, A, rfl⟩ | ⟨h, hf⟩
 ·exact ⟨_, _, rfl, .inl rfl, fun _ h => aa⟩
 ·obtain ⟨A, c, rfl, hr⟩ := Za5 h
  refine ⟨A, c, rfl, hr, fun a hn ha => ?_⟩;rcases h.2 with ⟨hv, h0⟩ | ⟨g, cap, cur, hv, _⟩
  ·omega
  ·injection hv with h1 _ _
   rw [ha] at h1;injection h1 with h1
   subst h1; subst ha;exact hf g rfl
theorem Vk.mono {F G : Nat → Prop} {w : World} {base : Nat} {e : TypeId} {size : Nat} {v : Value} {n : Nat} {xs : List Value} (h : Vk F w base e size v n xs) (hg : ∀ k, F k → G k) : Vk G w base e size v n xs := by
 rcases h with h | ⟨h, hf⟩
 ·exact .inl h
 ·exact .inr ⟨h, fun k hk => hg k (hf k hk)⟩
theorem Vk.below {F : Nat → Prop} {w w' : World} {base B : Nat} {e : TypeId} {size : Nat} {v : Value} {n : Nat} {xs : List Value} (h : Vk F w base e size v n xs) (hb : Below B w w') (hB : w.heap.size ≤ B) : Vk F w' base e size v n xs := by
 rcases h with h | ⟨h, hf⟩
 ·exact .inl h
 ·exact .inr ⟨Yc h hb hB, hf⟩
theorem Vk.keep {F G : Nat → Prop} {w w' : World} {base : Nat} {e : TypeId} {size : Nat} {v : Value} {n : Nat} {xs : List Value} (h : Vk F w base e size v n xs) (hk : Za G w w') (hf : ∀ k, F k → ¬ G k) : Vk F w' base e size v n xs := by
 rcases h with h | ⟨h, h2⟩
 ·exact .inl h
 ·exact .inr ⟨hk.own h (fun k hv => hf k (h2 k hv)), h2⟩
theorem Vk.set {F : Nat → Prop} {w : World} {base g i : Nat} {t e : TypeId} {cs : Array Value} {size : Nat} {v : Value} {n : Nat} {xs : List Value} {u : Value} (h : Vk F w base e size v n xs) (hb : Blk w g t cs) (hne : e ≠ t) : Vk F (w.setCell ⟨g, i, none⟩ u) base e size v n xs := by
 rcases h with h | ⟨h, h2⟩
 ·exact .inl h
 ·exact .inr ⟨Yo h ⟨g, i, none⟩ u (Vl hb h hne), h2⟩
theorem Vk.empty {F : Nat → Prop} {w : World} {base : Nat} {e : TypeId} {size : Nat} (A : Option Addr) : Vk F w base e size (.slice A 0 0) 0 [] := .inl ⟨rfl, rfl, A, rfl⟩
theorem Zed {P : Program} (w : World) (t ty e : TypeId) (i : TypeInfo) (z : Value) (ht : P.underlying t = some (.slice e)) (hi : P.info? e = some i) (hz : i.zero = some z)
  (A : Option Addr) (a : Addr) (n c : Nat) (news : List Value) (hl : news.length = n * i.size) (hnews : ∀ j v, news[j]? = some v → w.cell? (a.add j) = some v) (h0 : 0 < n) (h63 : (n : Int) ≤ 9223372036854775807) (h48 : n * i.bytes ≤ 281474976710656) :
  (Builtin.append_ #[t, t] ty #[.slice A 0 0, .slice (some a) n c]).run P w = (Builtin.append_ #[t, t] ty #[.slice none 0 0, .slice (some a) n c]).run P w := by
 cases A with
 | none => rfl
 | some b =>
  rw [run_append_nil (P := P) w t ty e i z ht hi hz a n c news hl hnews h0 h63 h48];have := run_append_grow (P := P) w t ty e i z ht hi hz b 0 0 [] ah ah a n c news hl hnews aa (by simpa using h63) (by rw [Nat.zero_add, nextslicecap_zero h0]; exact h48);simpa using this
theorem Zar {P : Program} (F : Nat → Prop) (w : World) {ops : Array Oper} {rest : List Oper} {o : Oper} {a : Act} {Q : Exit → Act → World → Prop} (hgd : o.guard = none) (s x : Operand) (t : TypeId)
  (ho : o.op = .call { callee := .builtin .append, args := #[s, x], argTypes := #[t, t] })
  (base : Nat) (e : TypeId) (z : Value) (size bytes : Nat) (ht : P.underlying t = some (.slice e)) (hi : (P.info? e).map (fun i => (i.zero, i.size, i.bytes)) = some (some z, size, bytes))
  (hzs : z.cells.size = size) (hsz : 0 < size)
  (v : Value) (n : Nat) (xs : List Value) (hs : a.eval s = v) (hown : Vk F w base e size v n xs)
  (ad : Addr) (m c : Nat) (news : List Value) (hx : a.eval x = .slice (some ad) m c) (hl : news.length = m * size) (hnews : ∀ j u, news[j]? = some u → w.cell? (ad.add j) = some u) (h1 : ∀ u ∈ news, u.oneCell' = true)
  (hbytes : (n + m) * bytes ≤ 140737488355328) (hby : 1 ≤ bytes) (hbase : base ≤ w.heap.size) (hm : 0 < m)
  (h : ∀ g c' w', w'.ownsRow base e size (.slice (some ⟨g, 0, none⟩) (n + m) c') (n + m) (xs ++ news) → Za F w w' → (F g ∨ w.heap.size ≤ g) → wpList P ops Q rest (a.put o.dst (.slice (some ⟨g, 0, none⟩) (n + m) c')) w') :
  wpList P ops Q (o :: rest) a w := by
 obtain ⟨i, hi', hz, hz1, hz2⟩ := info_parts hi;have hn : n + m ≤ 140737488355328 := Nat.le_trans (Nat.le_mul_of_pos_right _ hby) hbytes;have h63 : n + m ≤ maxLen := dh
 have key : ∃ v' w', (Builtin.append_ #[t, t] o.type #[v, .slice (some ad) m c]).run P w = .ok v' w' ∧ w'.ownsRow base e size v' (n + m) (xs ++ news) ∧ Za F w w' ∧ ∀ k, v'.ownBlock = some k → F k ∨ w.heap.size ≤ k := by
  rcases hown with ⟨rfl, rfl, A, rfl⟩ | ⟨hown, hF⟩
  ·have hown0 : w.ownsRow base e size (.slice none 0 0) 0 [] := World.ownsRow_nil _ _ _ _
   obtain ⟨v', w', hr, h2, h3, h4⟩ := run_append_own (P := P) w base t o.type e i z size bytes ht hi' hz hz1 hz2 hzs hsz _ 0 [] hown0 ad m c news hl hnews h1 h63 hbytes hbase;have hfr := Jw w base t o.type e i z size bytes ht hi' hz hz1 hz2 hzs hsz _ 0 [] hown0 ad m c news hl hnews h1 h63 hbytes hr;subst hz1; subst hz2;have hz' := Zed (P := P) w t o.type e i z ht hi' hz A ad m c news hl hnews hm (by unfold maxLen at h63; omega) (by rw [Nat.zero_add] at hbytes; omega);refine ⟨v', w', hz'.trans hr, h2, (Za.grown (F := fun _ => False) h3 (fun k hk => by simp [Value.ownBlock] at hk)).mono (fun k _ hk => hk.elim), fun k hk => ?_⟩;rcases hfr k hk with h5 | h5
   ·simp [Value.ownBlock] at h5
   ·exact .inr h5
  ·obtain ⟨v', w', hr, h2, h3, h4⟩ := run_append_own (P := P) w base t o.type e i z size bytes ht hi' hz hz1 hz2 hzs hsz v n xs hown ad m c news hl hnews h1 h63 hbytes hbase
   have hfr := Jw w base t o.type e i z size bytes ht hi' hz hz1 hz2 hzs hsz v n xs hown ad m c news hl hnews h1 h63 hbytes hr;exact ⟨v', w', hr, h2, Za.grown h3 (fun k hk => hF k hk), fun k hk => (hfr k hk).imp (hF k) id⟩
 obtain ⟨v', w', hr, h2, h3, hfr⟩ := key;refine wpList_plain hgd fun _ hK => ?_;unfold Oper.wp execOp;simp only [ho, resolve, invoke, builtin, Sem.run_bind, Sem.run_pure, Result.andThen_ok, List.map_toArray, List.map_cons, List.map_nil, hs, hx, hr]
 obtain ⟨g, c', rfl⟩ : ∃ g c', v' = .slice (some ⟨g, 0, none⟩) (n + m) c' := by
  rcases h2.2 with ⟨_, h0⟩ | ⟨g, cap, cur, hv, _⟩
  ·omega
  ·exact ⟨g, cap, hv⟩
 exact hK _ _ (h g c' w' h2 h3 (hfr g rfl))
theorem Zea {P : Program} (F : Nat → Prop) (w : World) {ops : Array Oper} {rest : List Oper} {o : Oper} {a : Act} {Q : Exit → Act → World → Prop} (hgd : o.guard = none) (s x : Operand) (t : TypeId)
  (ho : o.op = .call { callee := .builtin .append, args := #[s, x], argTypes := #[t, t] })
  (base : Nat) (e : TypeId) (z : Value) (size bytes : Nat) (ht : P.underlying t = some (.slice e)) (hi : (P.info? e).map (fun i => (i.zero, i.size, i.bytes)) = some (some z, size, bytes))
  (hzs : z.cells.size = size) (hsz : 0 < size)
  (v : Value) (n : Nat) (xs : List Value) (hs : a.eval s = v) (hown : Vk F w base e size v n xs)
  (c : Nat) (cs : List Value) (hx : a.eval x = .slice (some ⟨w.heap.size, 0, none⟩) 1 c) (hl : cs.length = size) (h1 : cs.all Value.oneCell' = true)
  (hbytes : (n + 1) * bytes ≤ 140737488355328) (hby : 1 ≤ bytes) (hbase : base ≤ w.heap.size)
  (h : ∀ g c' w', w'.ownsRow base e size (.slice (some ⟨g, 0, none⟩) (n + 1) c') (n + 1) (xs ++ cs) → Za F w w' → (F g ∨ w.heap.size ≤ g) → wpList P ops Q rest (a.put o.dst (.slice (some ⟨g, 0, none⟩) (n + 1) c')) w') :
  wpList P ops Q (o :: rest) a (w.alloc (.cells cs.toArray e)) := by
 refine Zar F _ hgd s x t ho base e z size bytes ht hi hzs hsz v n xs hs (hown.below ((Below.refl _ _).alloc (Nat.le_refl _) _) (Nat.le_refl _)) ⟨w.heap.size, 0, none⟩ 1 c cs hx fg Zbb
  (fun u hu => List.all_eq_true.1 h1 u hu) hbytes hby af aa ?_
 intro g c' w' hown' hk hf;refine h g c' w' hown' ((Za.alloc F w _).trans hk (fun _ => .inl)) ?_;rcases hf with h | h
 ·exact .inl h
 ·right; simp at h; omega
def Fup (F : Nat → Prop) (w w' : World) (k : Nat) : Prop := F k ∨ (w.heap.size ≤ k ∧ k < w'.heap.size)
theorem Fup.trans {F : Nat → Prop} {w w1 w2 : World} (h1 : w.heap.size ≤ w1.heap.size) (h2 : w1.heap.size ≤ w2.heap.size) {k : Nat} (h : Fup (Fup F w w1) w1 w2 k) : Fup F w w2 k := by
 rcases h with (h | h) | h
 ·exact .inl h
 ·exact .inr ⟨h.1, Nat.lt_of_lt_of_le h.2 h2⟩
 ·exact .inr ⟨Nat.le_trans h1 h.1, h.2⟩
theorem Fup.mono {F : Nat → Prop} {w w1 w2 : World} (h2 : w1.heap.size ≤ w2.heap.size) {k : Nat} (h : Fup F w w1 k) : Fup F w w2 k := h.imp id fun h => ⟨h.1, Nat.lt_of_lt_of_le h.2 h2⟩
theorem Za.upTrans {F G : Nat → Prop} {w w1 w2 : World} (h : Za G w w1) (h2 : Za (Fup F w w1) w1 w2) (hg : ∀ k, F k → G k) : Za G w w2 :=
 h.trans h2 fun k hk => hk.imp (hg k) fun h => h.1
open PopT
def Uh (base : Nat) (F : Nat → Prop) (w : World) (va : Value) (P : Option (List (List Zm))) (S : List UInt8) (seen : Nat) : Prop :=
 (P = none ∧ va = .pointer none) ∨ ∃ ls b ar, P = some ls ∧ va = .pointer (some ⟨b, 0, none⟩) ∧ Yv base w b (Vm ar S seen) (seen : Int) ∧ ar.map Xq.l = ls ∧ (∀ a ∈ ar, Zl5 a.l) ∧ ar.length ≤ 8 ∧ (∀ k, AF w b k → F k) ∧ ∀ a ∈ ar, F a.g
theorem Yv.keep {base b : Nat} {G : Nat → Prop} {w w' : World} {ar : List Xq} {fed : Int} (h : Yv base w b ar fed) (hk : Za G w w') (h1 : ∀ k, AF w b k → ¬ G k) (h2 : ∀ a ∈ ar, ¬ G a.g) : Yv base w' b ar fed := by
 obtain ⟨h0, ⟨A, c, hb, ho⟩, ht⟩ := h;have hc := hb.cell 0;refine ⟨h0, ⟨A, c, hk.blk hb (h1 b (.inl rfl)), hk.own ho (fun k hv => h1 k (.inr ⟨_, hc, hv⟩))⟩, fun a ha => ⟨?_, (ht a ha).2⟩⟩;exact (ht a ha).1.keep (hk.block _ (ht a ha).1.1.1 (h2 a ha)) hk.size
theorem Uh.keep {base : Nat} {F G : Nat → Prop} {w w' : World} {va : Value} {P : Option (List (List Zm))} {S : List UInt8} {seen : Nat} (h : Uh base F w va P S seen) (hk : Za G w w') (hd : ∀ k, F k → ¬ G k) : Uh base F w' va P S seen := by
 rcases h with h | ⟨ls, b, ar, h1, h2, h3, h4, h5, h6, h7, h8⟩
 ·exact .inl h
 ·have hlt := h3.blkLt
  have e : w'.cell? ⟨b, 0, none⟩ = w.cell? ⟨b, 0, none⟩ := World.cell?_of_block (hk.block b hlt (hd b (h7 b (.inl rfl))));refine .inr ⟨ls, b, ar, h1, h2, h3.keep hk (fun k hf => hd k (h7 k hf)) (fun a ha => ?_), h4, h5, h6, fun k hf => h7 k ((AF.eq e k).1 hf), h8⟩;obtain ⟨a', ha', rfl⟩ := List.mem_map.1 ha;rw [(Nj _ _).2];exact hd _ (h8 a' ha')
theorem Uh.below {base : Nat} {F : Nat → Prop} {w w' : World} {va : Value} {P : Option (List (List Zm))} {S : List UInt8} {seen : Nat} (h : Uh base F w va P S seen) (hb : Below w.heap.size w w') : Uh base F w' va P S seen :=
 h.keep (G := fun _ => False) (Za.of_below hb) (fun _ _ h => h)
theorem Uh.mono {base : Nat} {F G : Nat → Prop} {w : World} {va : Value} {P : Option (List (List Zm))} {S : List UInt8} {seen : Nat} (h : Uh base F w va P S seen) (hg : ∀ k, F k → G k) : Uh base G w va P S seen := by
 rcases h with h | ⟨ls, b, ar, h1, h2, h3, h4, h5, h6, h7, h8⟩
 ·exact .inl h
 ·exact .inr ⟨ls, b, ar, h1, h2, h3, h4, h5, h6, fun k hf => hg k (h7 k hf), fun a ha => hg _ (h8 a ha)⟩
theorem Zly (ar : List Xq) (S : List UInt8) (c : UInt8) (n : Nat) (h : n ≤ S.length) : Vm ar (S ++ [c]) n = Vm ar S n := by
 unfold Vm;rw [List.take_append_of_le_length h]
theorem Uh.app {base : Nat} {F : Nat → Prop} {w : World} {va : Value} {P : Option (List (List Zm))} {S : List UInt8} {seen : Nat} (h : Uh base F w va P S seen) (c : UInt8) (hs : seen ≤ S.length) : Uh base F w va P (S ++ [c]) seen := by
 rcases h with h | ⟨ls, b, ar, h1, h2, h3, h4⟩
 ·exact .inl h
 ·exact .inr ⟨ls, b, ar, h1, h2, by rw [Zly ar S c seen hs]; exact h3, h4⟩
def Yq (base : Nat) (F : Nat → Prop) (w : World) (h win : Nat) (S : List UInt8) (seen : Nat) (ps : List ByteArray) (P : Option (List (List Zm))) : Prop :=
 base ≤ h ∧ F h ∧ 1 ≤ win ∧ win ≤ 4096 ∧ seen ≤ S.length ∧ S.length ≤ win ∧ ∃ vb vp va, Blk w h 161 #[(win : Int), vb, (seen : Int), vp, va] ∧
  Vk F w base 5 1 vb S.length (Zo S) ∧ Vk F w base 9 1 vp ps.length (Yj ps) ∧ Uh base F w va P S seen
theorem Yq.keep {base h win seen : Nat} {F G : Nat → Prop} {w w' : World} {S : List UInt8} {ps : List ByteArray} {P : Option (List (List Zm))} (hh : Yq base F w h win S seen ps P) (hk : Za G w w') (hd : ∀ k, F k → ¬ G k) : Yq base F w' h win S seen ps P := by
 obtain ⟨h0, h1, h2, h3, h4, h5, vb, vp, va, a1, a2, a3, a4⟩ := hh;exact ⟨h0, h1, h2, h3, h4, h5, vb, vp, va, hk.blk a1 (hd h h1), a2.keep hk hd, a3.keep hk hd, a4.keep hk hd⟩
theorem Yq.below {base h win seen : Nat} {F : Nat → Prop} {w w' : World} {S : List UInt8} {ps : List ByteArray} {P : Option (List (List Zm))} (hh : Yq base F w h win S seen ps P) (hb : Below w.heap.size w w') : Yq base F w' h win S seen ps P :=
 hh.keep (G := fun _ => False) (Za.of_below hb) (fun _ _ h => h)
theorem Yq.mono {base h win seen : Nat} {F G : Nat → Prop} {w : World} {S : List UInt8} {ps : List ByteArray} {P : Option (List (List Zm))} (hh : Yq base F w h win S seen ps P) (hg : ∀ k, F k → G k) : Yq base G w h win S seen ps P := by
 obtain ⟨h0, h1, h2, h3, h4, h5, vb, vp, va, a1, a2, a3, a4⟩ := hh;exact ⟨h0, hg h h1, h2, h3, h4, h5, vb, vp, va, a1, a2.mono hg, a3.mono hg, a4.mono hg⟩
theorem Yq.lt {base h win seen : Nat} {F : Nat → Prop} {w : World} {S : List UInt8} {ps : List ByteArray} {P : Option (List (List Zm))} (hh : Yq base F w h win S seen ps P) : h < w.heap.size := by
 obtain ⟨h0, h1, h2, h3, h4, h5, vb, vp, va, a1, -⟩ := hh;exact a1.lt
/-! ### The short ones; no window -/
theorem Zgt (win : Int) (w : World) (h1 : -9223372036854775808 ≤ win) (h2 : win ≤ 9223372036854775807) :
  Calls Tryz.prog 97 #[win] w fun e w' => e = .returned (.pointer (some ⟨w.heap.size, 0, none⟩)) ∧ Yq w.heap.size (fun k => k = w.heap.size) w' w.heap.size (We win 4096) [] 0 [] none ∧ Below w.heap.size w w' := by
 have key : ∀ m : Nat, 1 ≤ m → m ≤ 4096 → Yq w.heap.size (fun k => k = w.heap.size) (w.alloc (.cells #[(m : Int), .slice none 0 0, .int .i64 0, .slice none 0 0, .pointer none] 161)) w.heap.size m [] 0 [] none ∧ Below w.heap.size w (w.alloc (.cells #[(m : Int), .slice none 0 0, .int .i64 0, .slice none 0 0, .pointer none] 161)) :=
  fun m a1 a2 => ⟨⟨Nat.le_refl _, rfl, a1, a2, Nat.le_refl _, Nat.zero_le _, _, _, _, Blk.new w _ _, Vk.empty none, Vk.empty none, .inl ⟨rfl, rfl⟩⟩, (Below.refl _ _).alloc (Nat.le_refl _) _⟩
 have KEY := hid key;clear key;by_cases c1 : win < 1
 ·rw [show We win 4096 = 1 from if_pos c1]
  go_enter Tryz.func97, Tryz.ntmps97;go_wp2_with fail;go_ret;exact ⟨rfl, KEY.out 1 aa aa⟩
 by_cases c2 : 4096 < win
 ·rw [show We win 4096 = 4096 from jl]
  go_enter Tryz.func97, Tryz.ntmps97;go_wp2_with fail;go_ret;exact ⟨rfl, KEY.out 4096 aa aa⟩
 ·obtain ⟨m, rfl⟩ : ∃ m : Nat, win = m := ⟨win.toNat, aa⟩
  rw [show We (m : Int) 4096 = m from by rw [We, if_neg c1, if_neg aa]; omega];go_enter Tryz.func97, Tryz.ntmps97;go_wp2_with fail;go_ret;exact ⟨rfl, KEY.out m aa aa⟩
theorem Zjo (base h win seen : Nat) (F : Nat → Prop) (S : List UInt8) (ps : List ByteArray) (P : Option (List (List Zm))) (w : World) (hh : Yq base F w h win S seen ps P) :
  Calls Tryz.prog 85 #[.pointer (some ⟨h, 0, none⟩)] w fun e w' => e = .returned ((S.length : Int) - (seen : Int)) ∧ Below w.heap.size w w' := by
 obtain ⟨h0, h1, h2, h3, h4, h5, vb, vp, va, a1, a2, a3, a4⟩ := hh;obtain ⟨A, c, rfl, -, -⟩ := a2.shape;obtain ⟨n, hn⟩ := nE (S.length);rw [hn] at a1 h4 h5 ⊢;have q1 := a1.cell 1;have q2 := a1.cell 2;have hl := a1.lt;simp only [List.getElem?_toArray, List.getElem?_cons_zero, List.getElem?_cons_succ] at q1 q2;clear h0 h1 h2 a1 a2 a3 a4 hn;go_enter Tryz.func85, Tryz.ntmps85;go_wp2_with fail
 go_quiet (fail)
 go_wp2_with fail;go_ret;exact ⟨rfl, Zq _ _⟩
theorem Yv.afLt {base b : Nat} {w : World} {ar : List Xq} {fed : Int} (h : Yv base w b ar fed) (k : Nat) (hk : AF w b k) : k < w.heap.size := by
 rcases hk with rfl | ⟨v, h1, h2⟩
 ·exact h.blkLt
 ·obtain ⟨-, ⟨A, c, hb, ho⟩, -⟩ := h
  have h3 := (hb.cell 0).symm.trans h1;injection h3 with h3
  subst h3;exact (ho.lt k h2).2
theorem Uh.setB {base g i seen : Nat} {F : Nat → Prop} {w : World} {va u : Value} {P : Option (List (List Zm))} {S : List UInt8} {t : TypeId} {cs : Array Value} (h : Uh base F w va P S seen) (hb : Blk w g t cs) (t1 : t ≠ 216) (t2 : t ≠ 222) (t3 : t ≠ 257) :
  Uh base F (w.setCell ⟨g, i, none⟩ u) va P S seen := by
 rcases h with h | ⟨ls, b, ar, h1, h2, h3, h4, h5, h6, h7, h8⟩
 ·exact .inl h
 ·have hbg : b ≠ g := by
   obtain ⟨-, ⟨A, c, hk, ho⟩, -⟩ := h3;exact Gy hk hb (Ne.symm t1)
  refine .inr ⟨ls, b, ar, h1, h2, h3.keep (G := fun k => k = g) (Za.setCell _ w ⟨g, i, none⟩ u rfl) (fun k hf => ?_) (fun a ha => ?_), h4, h5, h6, fun k hf => h7 k ((AF.eq (Gn hbg) k).1 hf), h8⟩
  ·rcases hf with rfl | ⟨v, e1, e2⟩
   ·exact hbg
   ·obtain ⟨-, ⟨A, c, hk, ho⟩, -⟩ := h3
    have e3 := (hk.cell 0).symm.trans e1;injection e3 with e3
    subst e3;rintro rfl;exact Vl hb ho (Ne.symm t2) e2
  ·exact Zap (h3.2.2 a ha).1 hb t3
theorem Vk.fb {F : Nat → Prop} {w w' : World} {base bb b0 : Nat} {e : TypeId} {size : Nat} {v : Value} {n : Nat} {xs : List Value} (h : Vk F w b0 e size v n xs) (hf : FB base bb w w') (h1 : e ≠ 216) (h2 : e ≠ 222) : Vk F w' b0 e size v n xs := by
 rcases h with h | ⟨h, h3⟩
 ·exact .inl h
 ·exact .inr ⟨Zrw h hf h1 h2, h3⟩
theorem N71{P:Prop}(h:P:=by
 refine .inr ⟨ls, b, ar, rfl, rfl, hat, c2, c3, c4, fun k hk => ?_, fun a ha => .inl (c6 a ha)⟩;rcases hf.2.2.2.2 k hk with h | h
 ·exact .inl (c5 k h)
 ·exact .inr ⟨h, hat.afLt k hk⟩):P:=h
theorem Zlf (base h win seen : Nat) (F : Nat → Prop) (S : List UInt8) (ps : List ByteArray) (P : Option (List (List Zm))) (vb vp va : Value) (w : World) (h0 : base ≤ h) (h1 : F h) (h2 : 1 ≤ win) (h3 : win ≤ 4096) (hs : seen < S.length) (h5 : S.length ≤ win) (hbw : base ≤ w.heap.size)
  (a1 : Blk w h 161 #[(win : Int), vb, ((seen + 1 : Nat) : Int), vp, va]) (a2 : Vk F w base 5 1 vb S.length (Zo S)) (a3 : Vk F w base 9 1 vp ps.length (Yj ps)) (a4 : Uh base F w va P S seen) :
  Calls Tryz.prog 197 #[va, .int .u8 ((S[seen]'hs).toNat : Int)] w fun e w' => e = .returned (.tuple #[((Wr (dsM (P.getD []) S (seen + 1)) : Nat) : Int), .bool ((dsM (P.getD []) S (seen + 1)).any id)]) ∧
   Yq base (Fup F w w') w' h win S (seen + 1) ps P ∧ Za F w w' := by
 rcases a4 with ⟨rfl, rfl⟩ | ⟨ls, b, ar, rfl, rfl, c1, c2, c3, c4, c5, c6⟩
 ·refine (Znv _ w).mono ?_
  rintro e w' ⟨rfl, rfl⟩;refine ⟨rfl, ⟨h0, .inl h1, h2, h3, aa, h5, vb, vp, _, a1, a2.mono (fun k hk => .inl hk), a3.mono (fun k hk => .inl hk), .inl ⟨rfl, rfl⟩⟩, Za.refl F w⟩
 ·refine (Zp0 base b (Vm ar S seen) seen (S[seen]'hs).toNat w c1 (fun a ha => ?_) (by rw [Zbl]; exact c4) aa (UInt8.toNat_lt _) hbw).mono ?_
  ·obtain ⟨a', ha', rfl⟩ := List.mem_map.1 ha
   rw [(Nj _ _).1]; exact (c3 a' ha').2.2
  ·rintro e w' ⟨rfl, hat, hf⟩
   have hst := Zjz ar S seen hs;rw [hst] at hat;have hdn := Zj0 ar S (seen + 1) aa (fun a ha => (c3 a ha).1);rw [hst, hdn, c2];have hkeep : Za F w w' := ⟨hf.1.os, hf.1.tape, hf.1.output, hf.1.size, fun k hk hfk => hf.2.2.2.1 k hk (fun h => hfk (c5 k h))⟩;refine ⟨rfl, ⟨h0, .inl h1, h2, h3, aa, h5, vb, vp, _, (hf.2.1 h _ _ _ a1 ac ac).trans a1, (a2.fb hf ac ac).mono (fun k hk => .inl hk), (a3.fb hf ac ac).mono (fun k hk => .inl hk), ?_⟩, hkeep⟩;exact N71
theorem Zfi (base h win seen : Nat) (F : Nat → Prop) (S : List UInt8) (ps : List ByteArray) (P : Option (List (List Zm))) (w : World) (hh : Yq base F w h win S seen ps P) (hs : seen < S.length) (hbw : base ≤ w.heap.size) :
  Calls Tryz.prog 171 #[.pointer (some ⟨h, 0, none⟩)] w fun e w' => e = .returned (.tuple #[((Wr (dsM (P.getD []) S (seen + 1)) : Nat) : Int), .bool ((dsM (P.getD []) S (seen + 1)).any id)]) ∧
   Yq base (Fup F w w') w' h win S (seen + 1) ps P ∧ Za F w w' := by
 have HH := hid hh;obtain ⟨h0, h1, h2, h3, h4, h5, vb, vp, va, a1, a2, a3, a4⟩ := hh;obtain ⟨A, c, rfl, hrd, -⟩ := a2.shape;obtain ⟨n, hn⟩ := nE (S.length);have HN := hid hn;obtain ⟨b, off, rfl, hbl, hc⟩ := hrd.at (by rw [Ql]; omega);have d0 : w.cell? ⟨b, off + seen, none⟩ = some (.int .u8 ((S[seen]'hs).toNat : Int)) := hc seen _ (by simp [Zo, hs])
 have hbh : b ≠ h := by
  rintro rfl;rcases a2 with ⟨e0, -⟩ | ⟨ho, -⟩
  ·omega
  ·rcases ho.2 with ⟨hv, e0⟩ | ⟨g, cap, cur, hv, -, hg, -⟩
   ·omega
   ·injection hv with e1 _ _
    injection e1 with e1
    injection e1 with e1 _ _
    subst e1;have := (show w.heap[b]? = _ from a1).symm.trans hg;simp at this
 have A1 := hid a1; have A2 := hid a2; have A3 := hid a3; have A4 := hid a4;rw [hn] at h4 h5;obtain ⟨s1, hs1⟩ := nE (seen + 1);have hs1' : (seen : Int) + 1 = (s1 : Int) := aa
 have hs1'' : (s1 : Int) - 1 = (seen : Int) := aa
 -- the window, one place on
 obtain ⟨w1, hw1⟩ := nE (w.setCell ⟨h, 2, none⟩ (.int .i64 (s1 : Int)));have HK1 : Hid (Za F w w1) := hw1 ▸ Za.setCell F w ⟨h, 2, none⟩ _ h1;have B1 : Hid (Blk w1 h 161 #[(win : Int), .slice (some ⟨b, off, none⟩) S.length c, (s1 : Int), vp, va]) := hw1 ▸ A1.set 2 (.int .i64 (s1 : Int));have B2 : Hid (Vk F w1 base 5 1 (.slice (some ⟨b, off, none⟩) S.length c) S.length (Zo S)) := hw1 ▸ A2.set A1.out ac;have B3 : Hid (Vk F w1 base 9 1 vp ps.length (Yj ps)) := hw1 ▸ A3.set A1.out ac;have B4 : Hid (Uh base F w1 va P S seen) := hw1 ▸ A4.setB A1.out ac ac ac;have e0 : w1.cell? ⟨b, off + seen, none⟩ = some (.int .u8 ((S[seen]'hs).toNat : Int)) := hw1 ▸ (Gn hbh).trans d0;have hsz : w1.heap.size = w.heap.size := by rw [← hw1]; simp
 have CF := hid (fun W (hW : Below w1.heap.size w1 W) => Zlf base h win seen F S ps P _ vp va W h0 h1 h2 h3 hs aa (by have := hW.size; omega) (by rw [hs1]; exact B1.below hW B1.lt) (B2.below hW (Nat.le_refl _)) (B3.below hW (Nat.le_refl _)) (B4.below hW));rw [hs1] at CF ⊢;obtain ⟨R1, hR1⟩ := nE (Wr (dsM (P.getD []) S s1));obtain ⟨R2, hR2⟩ := nE ((dsM (P.getD []) S s1).any id);rw [hR1, hR2] at CF ⊢;rw [hn] at B1;have q2 := A1.cell 2;have qf2 := A1.frozen 2;have ql := A1.lt;have r1 := B1.cell 1;have r2 := B1.cell 2;have r4 := B1.cell 4;have rl := B1.lt;have hbl1 : b < w1.heap.size := aa
 simp only [List.getElem?_toArray, List.getElem?_cons_zero, List.getElem?_cons_succ] at q2 r1 r2 r4;have hW1 := hid hw1;have hsn : seen < n := aa
 have hs4 : s1 ≤ 4097 := aa
 clear h0 h1 h2 h3 h5 a1 a2 a3 a4 A1 A2 A3 A4 hc hrd hbh B1 B2 B3 B4 hR1 hR2 hn hbl d0 HH hs1 hw1 hsz h4;obtain ⟨x, hx⟩ := nE ((S[seen]'hs).toNat);rw [hx] at e0 CF;clear hx;go_enter Tryz.func171, Tryz.ntmps171;go_upto_region 2 with fail;rw [hW1.out];clear q2 qf2 ql;refine Zx (.val 0 (.val 1 (.val 2 (.val 4 (.val 5 (.val 6 (.val 8 (.val 9 (.val 10 (.three 3 (.two 7 (.op 11 (.val 12 (.val 13 (.op 14 (.op 15 (.val 16 (.val 17 (.val 18 (.val 19 (.nil)))))))))) 11 (.val 12 (.op 7 (.val 13 (.op 14 (.op 15 (.val 16 (.val 17 (.val 18 (.val 19 (.nil))))))))))) 7 (.two 3 (.op 11 (.val 12 (.val 13 (.op 14 (.op 15 (.val 16 (.val 17 (.val 18 (.val 19 (.nil)))))))))) 11 (.val 12 (.val 13 (.two 3 (.op 14 (.op 15 (.val 16 (.val 17 (.val 18 (.val 19 (.nil))))))) 14 (.op 3 (.op 15 (.val 16 (.val 17 (.val 18 (.val 19 (.nil))))))))))) 11 (.val 12 (.two 3 (.op 7 (.val 13 (.op 14 (.op 15 (.val 16 (.val 17 (.val 18 (.val 19 (.nil))))))))) 7 (.val 13 (.two 3 (.op 14 (.op 15 (.val 16 (.val 17 (.val 18 (.val 19 (.nil))))))) 14 (.op 3 (.op 15 (.val 16 (.val 17 (.val 18 (.val 19 (.nil))))))))))))))))))))) ab ab ?_
 iterate 9 (refine Zb rfl ?_; go_big_quiet_step (fail); refine wpQuiet_nil ?_)
 focus
  refine Jd rfl rfl rfl ?_ ?_ ?_
  focus
   skip
   go_wp2_with fail;refine Zj rfl rfl ?_ ?_
   focus
    skip
    go_wp2_with fail;refine Zc rfl ?_;go_wp2_with fail
    iterate 2 (refine Zb rfl ?_; go_big_quiet_step (fail); refine wpQuiet_nil ?_)
   rotate_left 1
   focus
    skip
    go_wp2_with fail;refine Zb rfl ?_
    go_big_quiet_step (fail)
    refine wpQuiet_nil ?_;refine Zc rfl ?_;go_wp2_with fail;refine Zb rfl ?_
    go_big_quiet_step (fail)
    refine wpQuiet_nil ?_
  rotate_left 2
  focus
   skip
   go_wp2_with fail;refine Zj rfl rfl ?_ ?_
   focus
    skip
    go_wp2_with fail;refine Zc rfl ?_;go_wp2_with fail
    iterate 2 (refine Zb rfl ?_; go_big_quiet_step (fail); refine wpQuiet_nil ?_)
   rotate_left 1
   focus
    skip
    go_wp2_with fail
    iterate 2 (refine Zb rfl ?_; go_big_quiet_step (fail); refine wpQuiet_nil ?_)
    refine Zj rfl rfl ?_ ?_
    focus
     skip
     go_wp2_with fail
    rotate_left 1
    focus
     skip
     go_wp2_with fail
  rotate_left 3
  focus
   skip
   go_wp2_with fail;refine Zb rfl ?_
   go_big_quiet_step (fail)
   refine wpQuiet_nil ?_;refine Zj rfl rfl ?_ ?_
   focus
    skip
    go_wp2_with fail;refine Zc rfl ?_;go_wp2_with fail;refine Zb rfl ?_
    go_big_quiet_step (fail)
    refine wpQuiet_nil ?_
   rotate_left 1
   focus
    skip
    go_wp2_with fail;refine Zb rfl ?_
    go_big_quiet_step (fail)
    refine wpQuiet_nil ?_;refine Zj rfl rfl ?_ ?_
    focus
     skip
     go_wp2_with fail
    rotate_left 1
    focus
     skip
     go_wp2_with fail
  all_goals
   refine Zc rfl ?_;go_wp2_with fail;refine Zc rfl ?_;go_wp2_with fail;refine (CF.out _ (Zq w1 _)).mono ?_;rintro en w3 ⟨rfl, hh3, hk3⟩;have H3 := hid hh3; have K3 := hid hk3;clear hh3 hk3 CF;go_wp2_with fail
   iterate 4 (refine Zb rfl ?_; go_big_quiet_step (fail); refine wpQuiet_nil ?_)
   refine Yi ?_;go_wp2_with fail
   go_ret2
   have hk : Za F w w3 := (HK1.trans (Za.drewN F w1 _) (fun _ => .inl)).trans K3.out (fun _ => .inl);refine ⟨rfl, H3.mono (fun k hk => ?_), hk⟩;rcases hk with hk | ⟨hk1, hk2⟩
   ·exact .inl hk
   ·exact .inr ⟨Nat.le_trans HK1.size hk1, hk2⟩
theorem Zlu (A : Option Addr) (n c : Nat) (ps : List ByteArray) (w : World) (hl : ps.length = n) (hn : n ≤ 1000000) (hr : Rd w A (Yj ps)) (hA : A = none → n = 0 ∧ c = 0) :
  Calls Tryz.prog 167 #[.slice A n c] w fun e w' => ∃ v, e = .returned v ∧ Vk (fun k => w.heap.size ≤ k ∧ k < w'.heap.size) w' w.heap.size 9 1 v n (Yj ps) ∧ Below w.heap.size w w' := by
 cases A with
 | none =>
  obtain ⟨rfl, rfl⟩ := hA rfl;have hp : ps = [] := List.eq_nil_of_length_eq_zero hl;subst hp;clear hl hr hA;have hq : ∀ W : World, (binOp .eql 158 (.slice none 0 0) (.slice none 0 0)).run Tryz.prog W = .ok (.bool true) W := fun W => Go.Lib.run_eql_slice_nil W _ _ none 0 0 0 0 Tryz.underlying158;go_enter Tryz.func167, Tryz.ntmps167;go_wp2_with fail;go_ret;exact ⟨_, rfl, Vk.empty none, Below.refl _ _⟩
 | some ad =>
  have HL := hid hl
  have hnews : ∀ j u, (Yj ps)[j]? = some u → w.cell? (ad.add j) = some u := by
   rcases hr with h | ⟨b, off, e, _, hc⟩
   ·intro j u hj; rw [h] at hj; simp at hj
   ·injection e with e; subst e
    intro j u hj;rw [show (⟨b, off, none⟩ : Addr).add j = ⟨b, off + j, none⟩ from fe];exact hc j u hj
  have HNW := hid hnews;have HLT : Hid ((Yj ps).length = n * 1) := by rw [Hid, Yj, List.length_map, hl]; omega
  have HON : Hid (∀ u ∈ Yj ps, u.oneCell' = true) := fun u hu => by obtain ⟨x, _, rfl⟩ := List.mem_map.1 hu; rfl
  clear hl hr hA hnews;have hq : ∀ W : World, (binOp .eql 158 (.slice (some ad) n c) (.slice none 0 0)).run Tryz.prog W = .ok (.bool false) W := fun W => Go.Lib.run_eql_slice_nil W _ _ (some ad) n c 0 0 Tryz.underlying158;go_enter Tryz.func167, Tryz.ntmps167;go_wp2_with (at_builtin; refine Zaq _ rfl _ _ 158 rfl w.heap.size 9 _ 1 16 Tryz.underlying158 Mg rfl ac _ _ _ rfl (World.ownsRow_made (base := w.heap.size) (e := 9) (size := 1) w #[] 0 (Nat.le_refl _) cd ah) ad n c (Yj ps) rfl HLT.out ?_ HON.out ?_ ac ah ?_)
  ·intro j u hj
   have := HNW.out j u hj;have hlt := World.block_lt_of_cell? w _ this;exact (((Below.refl w.heap.size w).alloc (Nat.le_refl _) (.cells #[] 9)).cell hlt).trans this
  ·omega
  intro A2 c2 w2 hown2 hk2 hf2;have HO2 : Hid (w2.ownsRow w.heap.size 9 1 (.slice A2 n c2) n (Yj ps)) := by rw [Hid]; simpa using hown2
  have HB2 : Hid (Below w.heap.size w w2) := ((Below.refl w.heap.size w).alloc (Nat.le_refl _) (.cells #[] 9)).trans (hk2.below ah (fun k hk => by simp [Value.ownBlock] at hk; omega));clear hown2 hk2 hf2;go_wp2_with fail;go_ret;exact ⟨_, rfl, .inr ⟨HO2.out, fun k hk => HO2.lt k hk⟩, HB2.out⟩
theorem Zlh (ar : List Xq) (h : ∀ a ∈ ar, a.x = Wy a.l) (S : List UInt8) : Vm ar S 0 = ar := by
 rw [Zd8];refine (List.map_congr_left fun a ha => ?_).trans (List.map_id ar);have := h a ha;obtain ⟨g, l, x⟩ := a;simp only at this;rw [this]; rfl
theorem Zjp (base h win seen : Nat) (F : Nat → Prop) (S : List UInt8) (ps0 : List ByteArray) (P : Option (List (List Zm))) (A : Option Addr) (n c : Nat) (ps : List ByteArray) (w : World) (hh : Yq base F w h win S seen ps0 P) (hl : ps.length = n) (hn : n ≤ 1000000) (hp : ∀ p ∈ ps, p.size ≤ 1000000) (hr : Rd w A (Yj ps)) (hA : A = none → n = 0 ∧ c = 0) (hbw : base ≤ w.heap.size) :
  Calls Tryz.prog 142 #[.pointer (some ⟨h, 0, none⟩), .slice A n c] w fun e w' => e = .returned (((Uz ps).2.2 : Nat) : Int) ∧
   ((Uz ps).2.2 ≠ 0 → Yq base F w' h win S seen ps0 P) ∧ ((Uz ps).2.2 = 0 → Yq base (Fup F w w') w' h win S 0 ps (some (Uz ps).1)) ∧ Za F w w' := by
 have C1 := hid (Zqx A n c ps w hl hp hr);have C2 := hid (fun W (hW : Below w.heap.size w W) => Zlu A n c ps W hl hn (hr.below hW) hA);have HGOOD := hid (Znf ps); have HFEW := hid (Zpc ps);obtain ⟨⟨ls, at', e⟩, hR⟩ : ∃ R, Uz ps = R := ⟨_, rfl⟩;rw [hR] at C1 HGOOD HFEW ⊢;simp only at HGOOD HFEW ⊢;have HH := hid hh;have HL := hid hl;clear hR hl hp hr hA;have hlt := hh.lt;clear hh;go_enter Tryz.func142, Tryz.ntmps142;go_wp2_with fail;refine C1.mono ?_;rintro en w1 ⟨hb1, hres⟩;have HB1 := hid hb1;clear hb1 C1;rcases hres with ⟨he, rfl⟩ | ⟨he, b, ar, rfl, hat, hal, hst⟩
 ·have he' : e ≠ 0 := he
  have he0 : ((e : Int) == 0) = false := bF aa;have he1 : ((e : Int) != 0) = true := ft
  have HE := hid he';clear he he' C2;go_wp2_with fail;go_ret;exact ⟨rfl, fun _ => HH.below HB1.out, fun h => absurd h HE.out, Za.of_below HB1.out⟩
 ·have he' : e = 0 := he
  subst he';have HAT := hid hat;have HAL : Hid (ar.map Xq.l = ls) := hal;have HST := hid hst;have C3 := hid (C2.out w1 HB1.out);clear he hat hal hst C2;have hlt1 : h < w1.heap.size := Nat.lt_of_lt_of_le hlt HB1.size;go_wp2_with fail;refine C3.mono ?_;rintro en w2 ⟨v, rfl, hown, hb2⟩;obtain ⟨A5, c5, rfl, -, -⟩ := hown.shape;obtain ⟨h0, h1, h2, h3, h4, h5, vb, vp, va, a1, a2, a3, a4⟩ := (HH.below HB1.out).below hb2;have HX := hid (And.intro h0 (And.intro h1 (And.intro h2 (And.intro h3 (And.intro h4 h5)))));have A1 := hid a1; have A2 := hid a2; have HOWN := hid hown;have HB2 := hid hb2;have HAT2 : Hid (Yv w.heap.size w2 b ar 0) := HAT.below hb2;have f2 := a1.frozen 2; have f3 := a1.frozen 3; have f4 := a1.frozen 4;have q2 := a1.cell 2; have q3 := a1.cell 3; have q4 := a1.cell 4;simp only [List.getElem?_toArray, List.getElem?_cons_zero, List.getElem?_cons_succ] at q2 q3 q4;have hl2 := a1.lt;clear C3 h0 h1 h2 h3 h4 h5 a1 a2 a3 a4 hown hb2 hlt1 hlt;go_wp2_with fail;go_ret;refine ⟨rfl, ?_, ?_⟩
  ·obtain ⟨h0, h1, h2, h3, h4, h5⟩ := HX.out
   have hs1 := HB1.size;have hs2 := HB2.size;have hF : ∀ k, F k → Fup F w (((w2.setCell ⟨h, 3, none⟩ (.slice A5 n c5)).setCell ⟨h, 4, none⟩ (.pointer (some ⟨b, 0, none⟩))).setCell ⟨h, 2, none⟩ (.int .i64 0)) k := fun k hk => .inl hk;have hN : ∀ k, w.heap.size ≤ k → k < w2.heap.size → Fup F w (((w2.setCell ⟨h, 3, none⟩ (.slice A5 n c5)).setCell ⟨h, 4, none⟩ (.pointer (some ⟨b, 0, none⟩))).setCell ⟨h, 2, none⟩ (.int .i64 0)) k := fun k a b => .inr ⟨a, by simpa using b⟩;have b3 := A1.set 3 (.slice A5 n c5);have b4 := b3.set 4 (.pointer (some ⟨b, 0, none⟩));have b2 := b4.set 2 (.int .i64 0);have hat3 := HAT2.out
   have hin : Uh base (fun k => w.heap.size ≤ k ∧ k < w2.heap.size) w2 (.pointer (some ⟨b, 0, none⟩)) (some ls) S 0 := by
    refine .inr ⟨ls, b, ar, rfl, rfl, ?_, HAL.out, fun a ha => HGOOD.out _ (by rw [← HAL.out]; exact List.mem_map_of_mem ha), by have := HFEW.out; rw [← HAL.out, List.length_map] at this; exact this, fun k hk => ⟨?_, hat3.afLt k hk⟩, fun a ha => ⟨(HST.out a ha).2.2, (hat3.2.2 a ha).1.1.1⟩⟩
    ·rw [Zlh ar (fun a ha => (HST.out a ha).1)]
     obtain ⟨z0, ⟨A, c, z1, z2⟩, z3⟩ := hat3;exact ⟨Nat.le_trans hbw z0, ⟨A, c, z1, Vi z2 hbw⟩, z3⟩
    ·rcases hk with rfl | ⟨v, e1, e2⟩
     ·exact hat3.1
     ·obtain ⟨-, ⟨A, c, hk, ho⟩, -⟩ := hat3
      have e3 := (hk.cell 0).symm.trans e1;injection e3 with e3
      subst e3;exact (ho.lt k e2).1
   have own1 : Vk (fun k => w.heap.size ≤ k ∧ k < w2.heap.size) w2 base 9 1 (.slice A5 n c5) ps.length (Yj ps) := by
    rw [HL.out];rcases HOWN.out with e | ⟨e1, e2⟩
    ·exact .inl e
    ·exact .inr ⟨Vi e1 (Nat.le_trans hbw hs1), fun k hk => ⟨Nat.le_trans hs1 (e2 k hk).1, (e2 k hk).2⟩⟩
   refine ⟨h0, hF h h1, h2, h3, Nat.zero_le _, h5, vb, .slice A5 n c5, _, b2, ?_, ?_, ?_⟩
   ·exact ((((A2.mono hF).set A1.out ac).set b3 ac).set b4 ac)
   ·exact ((((own1.mono (fun k hk => hN k hk.1 hk.2)).set A1.out ac).set b3 ac).set b4 ac)
   ·exact ((((hin.mono (fun k hk => hN k hk.1 hk.2)).setB A1.out ac ac ac).setB b3 ac ac ac).setB b4 ac ac ac)
  ·have h1 := HX.2.1
   exact (((((Za.of_below HB1.out).trans (Za.of_below HB2.out) (fun _ => .inl)).trans (Za.setCell F w2 ⟨h, 3, none⟩ _ h1) (fun _ => .inl)).trans (Za.setCell F _ ⟨h, 4, none⟩ _ h1) (fun _ => .inl)).trans (Za.setCell F _ ⟨h, 2, none⟩ _ h1) (fun _ => .inl))
theorem Zdf {P : Program} (w : World) (t ty e : TypeId) (i : TypeInfo) (ht : P.underlying t = some (.slice e)) (hi : P.info? e = some i) (b a : Addr) (c : Nat) :
  (Builtin.append_ #[t, t] ty #[.slice (some b) 0 0, .slice (some a) 0 c]).run P w = .ok (.slice (some b) 0 0) w := by
 simp [Builtin.append_, run_underlying ht, sizeOf, typeInfo, hi, Builtin.lenOf, Builtin.firstCells, loadCells, loadCellsFrom, storeCells]
theorem Zeb {P : Program} (w : World) {ops : Array Oper} {rest : List Oper} {o : Oper} {a : Act} {Q : Exit → Act → World → Prop} (hgd : o.guard = none) (s x : Operand) (t : TypeId)
  (ho : o.op = .call { callee := .builtin .append, args := #[s, x], argTypes := #[t, t] }) (e : TypeId) (i : TypeInfo) (ht : P.underlying t = some (.slice e)) (hi : P.info? e = some i)
  (b ad : Addr) (c : Nat) (hs : a.eval s = .slice (some b) 0 0) (hx : a.eval x = .slice (some ad) 0 c)
  (h : wpList P ops Q rest (a.put o.dst (.slice (some b) 0 0)) w) : wpList P ops Q (o :: rest) a w := by
 have hr := Zdf (P := P) w t o.type e i ht hi b ad c;refine wpList_plain hgd fun _ hK => ?_;unfold Oper.wp execOp;simp only [ho, resolve, invoke, builtin, Sem.run_bind, Sem.run_pure, Result.andThen_ok, List.map_toArray, List.map_cons, List.map_nil, hs, hx, hr];exact hK _ _ h
theorem Zej : ∃ i, Tryz.prog.info? 5 = some i := by
 cases h : Tryz.prog.info? 5 with
 | none => have h2 := Qj; rw [h] at h2; cases h2
 | some i => exact ⟨i, rfl⟩
theorem Zjn (base h win seen : Nat) (F : Nat → Prop) (S S2 : List UInt8) (ps : List ByteArray) (P : Option (List (List Zm))) (vb vp va : Value) (w : World) (h0 : base ≤ h) (h1 : F h) (h2 : 1 ≤ win) (h3 : win ≤ 4096) (h5 : S2.length ≤ win) (hbw : base ≤ w.heap.size)
  (a1 : Blk w h 161 #[(win : Int), vb, .int .i64 0, vp, va]) (a2 : Vk F w base 5 1 vb S2.length (Zo S2)) (a3 : Vk F w base 9 1 vp ps.length (Yj ps)) (a4 : Uh base F w va P S seen) :
  Calls Tryz.prog 198 #[va] w fun e w' => e = .returned (.tuple #[]) ∧ Yq base (Fup F w w') w' h win S2 0 ps P ∧ Za F w w' := by
 rcases a4 with ⟨rfl, rfl⟩ | ⟨ls, b, ar, rfl, rfl, c1, c2, c3, c4, c5, c6⟩
 ·refine (Zkp w).mono ?_
  rintro e w' ⟨rfl, rfl⟩;exact ⟨rfl, ⟨h0, .inl h1, h2, h3, Nat.zero_le _, h5, vb, vp, _, a1, a2.mono (fun k hk => .inl hk), a3.mono (fun k hk => .inl hk), .inl ⟨rfl, rfl⟩⟩, Za.refl F w⟩
 ·refine (Zmw base b (Vm ar S seen) (seen : Int) w c1 (fun a ha => ?_) (by rw [Zbl]; exact c4) hbw).mono ?_
  ·obtain ⟨a', ha', rfl⟩ := List.mem_map.1 ha
   rw [(Nj _ _).1]; exact (c3 a' ha').2.2
  ·rintro e w' ⟨rfl, hat, hf⟩
   rw [show (Vm ar S seen).map Xy = Vm ar S2 0 from by rw [← Zd8 (Vm ar S seen) S2, Zh0]] at hat;have hkeep : Za F w w' := ⟨hf.1.os, hf.1.tape, hf.1.output, hf.1.size, fun k hk hfk => hf.2.2.2.1 k hk (fun h => hfk (c5 k h))⟩;refine ⟨rfl, ⟨h0, .inl h1, h2, h3, Nat.zero_le _, h5, vb, vp, _, (hf.2.1 h _ _ _ a1 ac ac).trans a1, (a2.fb hf ac ac).mono (fun k hk => .inl hk), (a3.fb hf ac ac).mono (fun k hk => .inl hk), ?_⟩, hkeep⟩;exact N71
theorem N15{P:Prop}(h:P:=by
 iterate 8 (refine Zb rfl ?_; go_big_quiet_step (fail); refine wpQuiet_nil ?_)
 focus
  refine Zj rfl rfl ?_ ?_
  focus
   skip
  rotate_left 1
  focus
   skip
  all_goals
   skip
   go_wp2_with fail;refine Zb rfl ?_
   go_big_quiet_step (fail)
   refine wpQuiet_nil ?_;refine Zc rfl ?_;go_wp2_with fail;refine Zb rfl ?_
   go_big_quiet_step (fail)
   refine wpQuiet_nil ?_;refine Zc rfl ?_;go_wp2_with (at_builtin; refine Zeb _ rfl _ _ 136 rfl 5 _ Tryz.underlying136 IU.out ⟨g, 0, none⟩ _ _ rfl rfl ?_);simp only [Act.put, List.setIfInBounds_toArray, List.set_cons_succ, List.set_cons_zero];have KK := hid (KEY.out (w.drewN 1) (.slice (some ⟨g, 0, none⟩) 0 0) hKD.out D1.out (by rw [HD0.out]; exact Vk.empty _) D3.out D4.out);have d1 := D1.out;have t1 := d1.cell 1; have t2 := d1.cell 2; have t4 := d1.cell 4;have tf1 := d1.frozen 1; have tf2 := d1.frozen 2;have tl := d1.lt;simp only [List.getElem?_toArray, List.getElem?_cons_zero, List.getElem?_cons_succ] at t1 t2 t4;clear d1 q1 ql;go_wp2_with fail
   iterate 2 (refine Zb rfl ?_; go_big_quiet_step (fail); refine wpQuiet_nil ?_)
   refine Zc rfl ?_;go_wp2_with fail;refine Yi ?_;go_wp2_with fail;refine ((KK.out _ rfl).2).mono ?_;rintro en w9 ⟨rfl, x1, x2⟩;have X1 := hid x1; have X2 := hid x2;clear x1 x2;go_wp2_with fail
   first | (refine bodyPost_ret (results_none rfl _ _ _) rfl ?_) | go_end0
   exact ⟨rfl, X1.out, X2.out⟩):P:=h
theorem Zd3 (base h win seen : Nat) (F : Nat → Prop) (S : List UInt8) (ps : List ByteArray) (P : Option (List (List Zm))) (w : World) (hh : Yq base F w h win S seen ps P) (hs1 : 1 ≤ seen) (hbw : base ≤ w.heap.size) :
  Calls Tryz.prog 172 #[.pointer (some ⟨h, 0, none⟩), (seen : Int)] w fun e w' => e = .returned (.tuple #[]) ∧ Yq base (Fup F w w') w' h win (S.drop seen) 0 ps P ∧ Za F w w' := by
 obtain ⟨h0, h1, h2, h3, h4, h5, vb, vp, va, a1, a2, a3, a4⟩ := hh;obtain ⟨n, hn⟩ := nE (S.length);have HN := hid hn;rw [hn] at a2 h4 h5
 obtain ⟨g, c, rfl, hown, hgF⟩ : ∃ g c, vb = .slice (some ⟨g, 0, none⟩) n c ∧ w.ownsRow base 5 1 vb n (Zo S) ∧ F g := by
  rcases a2 with ⟨e0, -⟩ | ⟨ho, hf⟩
  ·omega
  ·rcases ho.2 with ⟨hv, e0⟩ | ⟨g, cap, cur, hv, -⟩
   ·omega
   ·exact ⟨g, cap, hv, ho, hf g (by rw [hv]; rfl)⟩
 have A1 := hid a1; have A3 := hid a3; have A4 := hid a4; have OWN := hid hown
 have hnc : n ≤ c := by
  rcases hown.2 with ⟨hv, e0⟩ | ⟨g', cap, cur, hv, -, -, hnc, -⟩
  ·omega
  ·injection hv with e1 e2 e3; omega
 have q1 := a1.cell 1;have ql := a1.lt;simp only [List.getElem?_toArray, List.getElem?_cons_zero, List.getElem?_cons_succ] at q1;have HX := hid (And.intro h0 (And.intro h1 (And.intro h2 (And.intro h3 h5))))
 -- behind the row: the window's two cells, then the patterns
 have key : ∀ (W : World) (v : Value), Za F w W → Blk W h 161 #[(win : Int), .slice (some ⟨g, 0, none⟩) n c, (seen : Int), vp, va] → Vk (Fup F w W) W base 5 1 v (S.drop seen).length (Zo (S.drop seen)) → Vk F W base 9 1 vp ps.length (Yj ps) → Uh base F W va P S seen →
   ∀ W2, W2 = (W.setCell ⟨h, 1, none⟩ v).setCell ⟨h, 2, none⟩ (.int .i64 0) → Blk W2 h 161 #[(win : Int), v, .int .i64 0, vp, va] ∧
   Calls Tryz.prog 198 #[va] W2 fun e w' => e = .returned (.tuple #[]) ∧ Yq base (Fup F w w') w' h win (S.drop seen) 0 ps P ∧ Za F w w' := by
  intro W v hk b1 b2 b3 b4 W2 hW2;have e1 := b1.set 1 v;have e2 := e1.set 2 (.int .i64 0);have hk2 : Za F w W2 := by rw [hW2]; exact (hk.trans (Za.setCell F W ⟨h, 1, none⟩ v h1) (fun _ => .inl)).trans (Za.setCell F _ ⟨h, 2, none⟩ _ h1) (fun _ => .inl)
  have hsz : W2.heap.size = W.heap.size := by rw [hW2]; simp
  have f2 : Blk W2 h 161 #[(win : Int), v, .int .i64 0, vp, va] := by rw [hW2]; exact e2
  have fU : ∀ k, Fup F w W k → Fup F w W2 k := fun k hk => hk.imp id fun h => ⟨h.1, by rw [hsz]; exact h.2⟩;have g2 : Vk (Fup F w W2) W2 base 5 1 v (S.drop seen).length (Zo (S.drop seen)) := by rw [hW2]; exact (((b2.set b1 ac).set e1 ac).mono (by rw [← hW2]; exact fU))
  have g3 : Vk F W2 base 9 1 vp ps.length (Yj ps) := by rw [hW2]; exact (b3.set b1 ac).set e1 ac
  have g4 : Uh base F W2 va P S seen := by rw [hW2]; exact (b4.setB b1 ac ac ac).setB e1 ac ac ac
  refine ⟨f2, (Zjn base h win seen (Fup F w W2) S (S.drop seen) ps P v vp va W2 h0 (.inl h1) h2 h3 (by rw [List.length_drop, hn]; omega) (Nat.le_trans hbw hk2.size) f2 g2 (g3.mono (fun k hk => .inl hk)) (g4.mono (fun k hk => .inl hk))).mono ?_⟩;rintro e w' ⟨rfl, x1, x2⟩;exact ⟨rfl, x1.mono (fun k hk => Fup.trans hk2.size x2.size hk), hk2.upTrans x2 (fun _ h => h)⟩
 have KEY := hid key;clear key h0 h1 h2 h3 h5 a1 a2 a3 a4 hown hn;go_enter Tryz.func172, Tryz.ntmps172;obtain ⟨IUi, hIU⟩ := Zej;have IU := hid hIU;clear hIU;go_wp2_with fail;refine Zx (.val 0 (.val 1 (.val 2 (.val 3 (.val 6 (.val 7 (.val 8 (.val 10 (.two 4 (.val 5 (.op 9 (.val 11 (.op 12 (.val 13 (.val 14 (.op 15 (.nil)))))))) 9 (.val 11 (.op 4 (.val 5 (.op 12 (.val 13 (.val 14 (.op 15 (.nil))))))))))))))))) ab ab ?_;have hKD : Hid (Za F w (w.drewN 1)) := Za.drewN F w 1;have D1 : Hid (Blk (w.drewN 1) h 161 #[(win : Int), .slice (some ⟨g, 0, none⟩) n c, (seen : Int), vp, va]) := A1.below (Zq w 1) A1.lt;have D3 := hid (A3.below (Zq w 1) (Nat.le_refl _));have D4 := hid (A4.below (Zq w 1));have DO := hid (Yc OWN.out (Zq w 1));have q1' : (w.drewN 1).cell? ⟨h, 1, none⟩ = some (.slice (some ⟨g, 0, none⟩) n c) := q1;by_cases hsn : seen = n
 ·have HD0 : Hid (S.drop seen = []) := List.drop_of_length_le bz
  subst hsn;by_cases hcs : c = seen
  ·subst hcs
   exact N15
  ·have hcs2 : ¬ seen = c := fun h => hcs h.symm
   exact N15
 ·have hlt : seen < n := by omega
  have hcs : ¬ c = seen := aa
  have hcs2 : ¬ seen = c := aa
  have HDN : Hid ((S.drop seen).length = n - seen) := by rw [Hid, List.length_drop, HN.out]
  have HDL : Hid ((Zo (S.drop seen)).length = (n - seen) * 1) := by rw [Hid, Ql, HDN.out]; omega
  have HON : Hid (∀ u ∈ Zo (S.drop seen), u.oneCell' = true) := fun u hu => by
   simp only [Zo, List.mem_map] at hu;obtain ⟨b, _, rfl⟩ := hu;rfl
  have HNW : Hid (∀ j u, (Zo (S.drop seen))[j]? = some u → (w.drewN 1).cell? ((⟨g, seen, none⟩ : Addr).add j) = some u) := fun j u hj => by
   have hjl : j < (S.drop seen).length := by have := (List.getElem?_eq_some_iff.1 hj).1; rwa [Ql] at this
   rw [List.length_drop, HN.out] at hjl;rw [show (⟨g, seen, none⟩ : Addr).add j = ⟨g, seen + j, none⟩ from fe];have e := OWN.cellAt (seen + j) aa;refine (show w.cell? ⟨g, seen + j, none⟩ = some u from e.trans ?_);rw [← hj];simp only [Zo, List.getElem?_map, List.getElem?_drop]
  have hnb : n ≤ 4096 := by have := HX.out; omega
  iterate 8 (refine Zb rfl ?_; go_big_quiet_step (fail); refine wpQuiet_nil ?_)
  focus
   refine Zj rfl rfl ?_ ?_
   focus
    skip
   rotate_left 1
   focus
    skip
   all_goals
    skip
    go_wp2_with fail;refine Zb rfl ?_
    go_big_quiet_step (fail)
    refine wpQuiet_nil ?_;refine Zc rfl ?_;go_wp2_with fail;refine Zb rfl ?_
    go_big_quiet_step (fail)
    refine wpQuiet_nil ?_;refine Zc rfl ?_;go_wp2_with (at_builtin; refine Zar (fun _ => False) _ rfl _ _ 136 rfl base 5 _ 1 1 Tryz.underlying136 Qj rfl ac _ _ _ rfl (Vk.empty (some ⟨g, 0, none⟩)) ⟨g, seen, none⟩ (n - seen) (c - seen) (Zo (S.drop seen)) rfl HDL.out HNW.out HON.out ?_ ac hbw aa ?_)
    ·omega
    intro g5 c5 w5 hown5 hk5 hf5;have hb5 : Below (w.drewN 1).heap.size (w.drewN 1) w5 := hk5.below (Nat.le_refl _) (fun _ h => h.elim);have hke : Za F w w5 := hKD.out.trans (Za.of_below (F := F) hb5) (fun _ => .inl);have hfg : Fup F w w5 g5 := .inr ⟨by simpa using hf5, (hown5.lt g5 rfl).2⟩;have d1 := D1.below hb5 D1.lt;have KK := hid (KEY.out w5 (.slice (some ⟨g5, 0, none⟩) (n - seen) c5) hke d1 (.inr ⟨by rw [HDN.out]; simpa using hown5, fun k hk => by simp [Value.ownBlock] at hk; subst hk; exact hfg⟩) (D3.below hb5 (Nat.le_refl _)) (D4.below hb5));have t1 := d1.cell 1; have t2 := d1.cell 2; have t4 := d1.cell 4;have tf1 := d1.frozen 1; have tf2 := d1.frozen 2;have tl := d1.lt;simp only [List.getElem?_toArray, List.getElem?_cons_zero, List.getElem?_cons_succ] at t1 t2 t4;clear d1 q1 ql hown5 hk5 hf5 hke hfg hb5;go_wp2_with fail
    iterate 2 (refine Zb rfl ?_; go_big_quiet_step (fail); refine wpQuiet_nil ?_)
    refine Zc rfl ?_;go_wp2_with fail;refine Yi ?_;go_wp2_with fail;refine ((KK.out _ rfl).2).mono ?_;rintro en w9 ⟨rfl, x1, x2⟩;have X1 := hid x1; have X2 := hid x2;clear x1 x2;go_wp2_with fail
    first | (refine bodyPost_ret (results_none rfl _ _ _) rfl ?_) | go_end0
    exact ⟨rfl, X1.out, X2.out⟩
end Go.Proofs.YtpkkfdmhbbipoaaGreat
