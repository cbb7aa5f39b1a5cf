/- Walks: strings.Builder's WriteByte, beside blocks that are not to be turned. Walks: class.sign beside protected blocks. Plain: the parts of a set's text. Walks: class.parts. Walks: class.reader's is. Walks: class.reader's stop. Walks: class.reader's sign. What class.reader reads, in plain Lean: a part, more parts, a whole text. Walks: class.reader's part. -/
import Derived.Test.YtpkkfdmhbbipoaaGreatMc
import Derived.Test.YtpkkfdmhbbipoaaGreatMb
namespace Go.Proofs.YtpkkfdmhbbipoaaGreat
set_option maxRecDepth 20000
set_option maxHeartbeats 2000000
open Go.RowKit
def isM (s : ByteArray) (i c : Nat) : Bool := decide (i < s.size) && (s.data.toList.getD i 0).toNat == c
theorem N100{P:Prop}(h:P:=by
 go_enter Tryz.func246, Tryz.ntmps246;go_wp2_with fail
 go_quiet (fail)
 go_wp2_with fail;go_ret;exact ⟨_, by rw [HR.out]; rfl, rfl⟩):P:=h
theorem Zr0 (s : ByteArray) (i c b : Nat) (e : Value) (w : World) (h : Blk w b 276 #[s, (i : Int), e]) :
  Calls Tryz.prog 246 #[.pointer (some ⟨b, 0, none⟩), .int .u8 (c : Int)] w fun x w' => ∃ q, x = .returned (.bool (isM s i c)) ∧ w' = w.drewN q := by
 have q0 := cA h 0 s rfl;have q1 := cA h 1 (i : Int) rfl;clear h;by_cases hi : i < s.size
 ·have HR : Hid (isM s i c = (((s[i]).toNat : Int) == (c : Int))) := by
   rw [Hid, isM, decide_eq_true hi, Bool.true_and, List.getD, List.getElem?_eq_getElem kg];rw [Bool.eq_iff_iff]; simp;exact Int.ofNat_inj.symm
  exact N100
 ·have HR : Hid (isM s i c = false) := by rw [Hid, isM, decide_eq_false hi]; rfl
  exact N100
def Ws (s : ByteArray) (i : Nat) : Nat := if i < s.size then i else s.size
def Wh (s : ByteArray) (i : Nat) : Nat := if i < s.size then 2 else 3
theorem Zex (s : ByteArray) (i b : Nat) (e : Value) (w : World) (h : Blk w b 276 #[s, (i : Int), e]) :
  Calls Tryz.prog 247 #[.pointer (some ⟨b, 0, none⟩)] w fun x w' => x = .returned (.tuple #[]) ∧ Blk w' b 276 #[s, .int .i64 (Ws s i : Nat), .int .i64 (Wh s i : Nat)] ∧ Za (fun k => k = b) w w' := by
 have f2 := h.frozen 2;have h2 := h.set 2 (.int .i64 2);have HB2 : Hid (Blk (w.setCell ⟨b, 2, none⟩ (.int .i64 2)) b 276 #[s, (i : Int), .int .i64 2]) := h2;have c2 : w.cell? ⟨b, 2, none⟩ = some e := h.cell 2;have q0 : (w.setCell ⟨b, 2, none⟩ (.int .i64 2)).cell? ⟨b, 0, none⟩ = some (.string s) := HB2.cell 0;have q1 : (w.setCell ⟨b, 2, none⟩ (.int .i64 2)).cell? ⟨b, 1, none⟩ = some (.int .i64 (i : Int)) := HB2.cell 1;have hlt := h.lt;clear h h2;go_enter Tryz.func247, Tryz.ntmps247;go_wp2_with fail;have HK1 : Hid (Za (fun k => k = b) w (w.setCell ⟨b, 2, none⟩ (.int .i64 2))) := Za.setCell _ w _ _ rfl;obtain ⟨w1, hw1⟩ := nE (w.setCell ⟨b, 2, none⟩ (.int .i64 2));rw [hw1] at HB2 q0 q1 HK1 ⊢;clear hw1;have g1 := HB2.frozen 1;have g2 := HB2.frozen 2;have r2 := cA HB2.out 2 (.int .i64 2) rfl;have hlt1 := HB2.lt;by_cases hi : i < s.size
 ·have H1 : Hid (Ws s i = i) := if_pos hi
  have H2 : Hid (Wh s i = 2) := if_pos hi
  go_quiet (fail)
  go_wp2_with fail
  go_end0
  exact ⟨rfl, by rw [H1.out, H2.out]; exact HB2.out, HK1.trans (Za.drewN _ w1 _) (fun _ => .inl)⟩
 ·have H1 : Hid (Ws s i = s.size) := if_neg hi
  have H2 : Hid (Wh s i = 3) := if_neg hi;have HB3 := hid (fun Q => (show Blk (w1.drewN Q) b 276 _ from HB2.out).set 1 (.int .i64 (s.size : Int)) |>.set 2 (.int .i64 3))
  go_quiet (fail)
  go_wp2_with fail
  go_end0
  exact ⟨rfl, by rw [H1.out, H2.out]; exact HB3.out _, ((HK1.trans (Za.drewN _ w1 _) (fun _ => .inl)).trans (Za.setCell (fun k => k = b) _ ⟨b, 1, none⟩ _ rfl) (fun _ => .inl)).trans (Za.setCell (fun k => k = b) _ ⟨b, 2, none⟩ _ rfl) (fun _ => .inl)⟩
theorem Wm {s : ByteArray} {i b : Nat} {e : Value} {w : World} (h : Blk w b 276 #[s, (i : Int), e]) (c n : Nat) :
  Calls Tryz.prog 246 #[.pointer (some ⟨b, 0, none⟩), .int .u8 (c : Int)] (w.drewN n) fun x w' => x = .returned (.bool (isM s i c)) ∧ ∃ m, w' = w.drewN m :=
 (Zr0 s i c b e (w.drewN n) h).mono fun _ _ ⟨q, hx, hw⟩ => ⟨hx, n + q, by rw [hw, World.drewN_drewN]⟩
def Ye (s : ByteArray) (i e : Nat) : Nat × Nat × Nat :=
 if isM s i 37 then (if i + 1 < s.size then ((s.data.toList.getD (i + 1) 0).toNat, i + 2, e) else (0, Ws s (i + 1), Wh s (i + 1)))
 else if i < s.size ∧ isM s i 93 = false ∧ isM s i 45 = false then ((s.data.toList.getD i 0).toNat, i + 1, e)
 else (0, Ws s i, Wh s i)
theorem N27{P:Prop}(h:P:=by
 go_wp2_with fail;refine (Zex s i b _ (w1.drewN nq) (show Blk (w1.drewN nq) b 276 #[s, (i : Int), (e : Int)] from H1.out)).mono ?_;rintro x w4 ⟨rfl, hb4, hk4⟩;have HK4 := hid ((HK1.trans (Za.drewN (fun k => k = b) w1 nq) (fun _ => .inl)).trans hk4 (fun _ => .inl));have HB4 := hid hb4;clear hb4 hk4;go_wp2_with fail;go_ret;exact ⟨by rw [HR.out]; rfl, by rw [HR.out]; exact HB4.out, HK4.out⟩):P:=h
theorem Zfc (s : ByteArray) (i b e : Nat) (w : World) (h : Blk w b 276 #[s, (i : Int), (e : Int)]) (hs : s.size ≤ 1000000) (hi : i ≤ s.size) :
  Calls Tryz.prog 251 #[.pointer (some ⟨b, 0, none⟩)] w fun x w' => x = .returned (.int .u8 ((Ye s i e).1 : Nat)) ∧
   Blk w' b 276 #[s, .int .i64 ((Ye s i e).2.1 : Nat), .int .i64 ((Ye s i e).2.2 : Nat)] ∧ Za (fun k => k = b) w w' := by
 have H := hid h;clear h;cases h37 : isM s i 37
 ·have HI := hid (fun n => Wm H.out 37 n)
  rw [h37] at HI;by_cases h1 : i < s.size
  ·cases h93 : isM s i 93
   ·cases h45 : isM s i 45
    ·have HR : Hid (Ye s i e = ((s.data.toList.getD i 0).toNat, i + 1, e)) := by rw [Hid, Ye, if_neg lu, if_pos ⟨h1, h93, h45⟩]
     go_enter Tryz.func251, Tryz.ntmps251;go_wp2_with fail;refine (HI.out 0).mono ?_;rintro x w0 ⟨rfl, m, rfl⟩;obtain ⟨w1, hw1⟩ := nE (w.drewN m);have H1 : Hid (Blk w1 b 276 #[s, (i : Int), (e : Int)]) := hw1 ▸ H.out;have HK1 : Hid (Za (fun k => k = b) w w1) := hw1 ▸ Za.drewN _ w m;rw [hw1];clear hw1 HI H h37;have q0 := cA H1.out 0 s rfl;have q1 := cA H1.out 1 (i : Int) rfl;have f1 := H1.frozen 1;have hlt := H1.lt;have HI93 : Hid (∀ n, Calls Tryz.prog 246 #[.pointer (some ⟨b, 0, none⟩), .int .u8 93] (w1.drewN n) fun x w' => x = .returned (.bool (isM s i 93)) ∧ ∃ m, w' = w1.drewN m) := fun n => Wm H1.out 93 n;have HI45 : Hid (∀ n, Calls Tryz.prog 246 #[.pointer (some ⟨b, 0, none⟩), .int .u8 45] (w1.drewN n) fun x w' => x = .returned (.bool (isM s i 45)) ∧ ∃ m, w' = w1.drewN m) := fun n => Wm H1.out 45 n;go_wp2_with fail;rw [h93] at HI93;rw [h45] at HI45
     go_quiet (first | (go_at_call 246; with_reducible exact HI93.out _) | (go_at_call 246; with_reducible exact HI45.out _))
     obtain ⟨j', hj'⟩ : ∃ j', i + 1 = j' := ⟨_, rfl⟩;have hj3 : ((i : Int) + 1) = (j' : Int) := aa
     have HB3 := hid (fun Q => (show Blk (w1.drewN Q) b 276 #[s, (i : Int), (e : Int)] from H1.out).set 1 (.int .i64 (j' : Int)));have HK3 := hid (fun Q => (HK1.trans (Za.drewN (fun k => k = b) w1 Q) (fun _ => .inl)).trans (Za.setCell (fun k => k = b) (w1.drewN Q) ⟨b, 1, none⟩ (.int .i64 (j' : Int)) rfl) (fun _ => .inl));go_wp2_with fail;obtain ⟨w3, hw3⟩ := nE ((w1.drewN nq).setCell ⟨b, 1, none⟩ (.int .i64 (j' : Int)));have HB4 : Hid (Blk w3 b 276 #[s, (j' : Int), (e : Int)]) := hw3 ▸ HB3.out nq;have HK4 : Hid (Za (fun k => k = b) w w3) := hw3 ▸ HK3.out nq;rw [hw3];have h1' : j' ≤ s.size := aa
     have h1'' : 1 ≤ j' := aa
     have hj4 : ((j' : Int) - 1) = (i : Int) := aa
     have HJ' := hid hj';clear hw3 HB3 HK3 hj3 hj';have t0 := cA HB4.out 0 s rfl;have t1 := cA HB4.out 1 (j' : Int) rfl
     go_quiet (fail)
     go_wp2_with fail;go_ret
     have HV : (s.data.toList.getD i 0).toNat = (s[i]).toNat := by
      rw [List.getD, List.getElem?_eq_getElem (by simpa using h1)]; rfl
     exact ⟨by rw [HR.out]; simp only [HV]; rfl, by rw [HR.out]; simp only [HJ'.out]; exact HB4.out, HK4.trans (Za.drewN (fun k => k = b) w3 _) (fun _ => .inl)⟩
    ·have HR : Hid (Ye s i e = (0, Ws s i, Wh s i)) := by rw [Hid, Ye, if_neg lu, if_neg (by rw [h45]; simp)]
     go_enter Tryz.func251, Tryz.ntmps251;go_wp2_with fail;refine (HI.out 0).mono ?_;rintro x w0 ⟨rfl, m, rfl⟩;obtain ⟨w1, hw1⟩ := nE (w.drewN m);have H1 : Hid (Blk w1 b 276 #[s, (i : Int), (e : Int)]) := hw1 ▸ H.out;have HK1 : Hid (Za (fun k => k = b) w w1) := hw1 ▸ Za.drewN _ w m;rw [hw1];clear hw1 HI H h37;have q0 := cA H1.out 0 s rfl;have q1 := cA H1.out 1 (i : Int) rfl;have f1 := H1.frozen 1;have hlt := H1.lt;have HI93 : Hid (∀ n, Calls Tryz.prog 246 #[.pointer (some ⟨b, 0, none⟩), .int .u8 93] (w1.drewN n) fun x w' => x = .returned (.bool (isM s i 93)) ∧ ∃ m, w' = w1.drewN m) := fun n => Wm H1.out 93 n;have HI45 : Hid (∀ n, Calls Tryz.prog 246 #[.pointer (some ⟨b, 0, none⟩), .int .u8 45] (w1.drewN n) fun x w' => x = .returned (.bool (isM s i 45)) ∧ ∃ m, w' = w1.drewN m) := fun n => Wm H1.out 45 n;go_wp2_with fail;rw [h93] at HI93;rw [h45] at HI45
     go_quiet (first | (go_at_call 246; with_reducible exact HI93.out _) | (go_at_call 246; with_reducible exact HI45.out _))
     exact N27
   ·have HR : Hid (Ye s i e = (0, Ws s i, Wh s i)) := by rw [Hid, Ye, if_neg lu, if_neg (by rw [h93]; simp)]
    go_enter Tryz.func251, Tryz.ntmps251;go_wp2_with fail;refine (HI.out 0).mono ?_;rintro x w0 ⟨rfl, m, rfl⟩;obtain ⟨w1, hw1⟩ := nE (w.drewN m);have H1 : Hid (Blk w1 b 276 #[s, (i : Int), (e : Int)]) := hw1 ▸ H.out;have HK1 : Hid (Za (fun k => k = b) w w1) := hw1 ▸ Za.drewN _ w m;rw [hw1];clear hw1 HI H h37;have q0 := cA H1.out 0 s rfl;have q1 := cA H1.out 1 (i : Int) rfl;have f1 := H1.frozen 1;have hlt := H1.lt;have HI93 : Hid (∀ n, Calls Tryz.prog 246 #[.pointer (some ⟨b, 0, none⟩), .int .u8 93] (w1.drewN n) fun x w' => x = .returned (.bool (isM s i 93)) ∧ ∃ m, w' = w1.drewN m) := fun n => Wm H1.out 93 n;have HI45 : Hid (∀ n, Calls Tryz.prog 246 #[.pointer (some ⟨b, 0, none⟩), .int .u8 45] (w1.drewN n) fun x w' => x = .returned (.bool (isM s i 45)) ∧ ∃ m, w' = w1.drewN m) := fun n => Wm H1.out 45 n;go_wp2_with fail;rw [h93] at HI93
    go_quiet (first | (go_at_call 246; with_reducible exact HI93.out _))
    exact N27
  ·have HR : Hid (Ye s i e = (0, Ws s i, Wh s i)) := by rw [Hid, Ye, if_neg lu, if_neg aa]
   have hge : s.size ≤ i := aa
   go_enter Tryz.func251, Tryz.ntmps251;go_wp2_with fail;refine (HI.out 0).mono ?_;rintro x w0 ⟨rfl, m, rfl⟩;obtain ⟨w1, hw1⟩ := nE (w.drewN m);have H1 : Hid (Blk w1 b 276 #[s, (i : Int), (e : Int)]) := hw1 ▸ H.out;have HK1 : Hid (Za (fun k => k = b) w w1) := hw1 ▸ Za.drewN _ w m;rw [hw1];clear hw1 HI H h37;have q0 := cA H1.out 0 s rfl;have q1 := cA H1.out 1 (i : Int) rfl;have f1 := H1.frozen 1;have hlt := H1.lt;have HI93 : Hid (∀ n, Calls Tryz.prog 246 #[.pointer (some ⟨b, 0, none⟩), .int .u8 93] (w1.drewN n) fun x w' => x = .returned (.bool (isM s i 93)) ∧ ∃ m, w' = w1.drewN m) := fun n => Wm H1.out 93 n;have HI45 : Hid (∀ n, Calls Tryz.prog 246 #[.pointer (some ⟨b, 0, none⟩), .int .u8 45] (w1.drewN n) fun x w' => x = .returned (.bool (isM s i 45)) ∧ ∃ m, w' = w1.drewN m) := fun n => Wm H1.out 45 n;go_wp2_with fail
   go_quiet (fail)
   exact N27
 ·have HI := hid (fun n => Wm H.out 37 n)
  rw [h37] at HI;by_cases h1 : i + 1 < s.size
  ·have HR : Hid (Ye s i e = ((s.data.toList.getD (i + 1) 0).toNat, i + 2, e)) := by rw [Hid, Ye, if_pos h37, if_pos h1]
   go_enter Tryz.func251, Tryz.ntmps251;go_wp2_with fail;refine (HI.out 0).mono ?_;rintro x w0 ⟨rfl, m, rfl⟩;obtain ⟨w1, hw1⟩ := nE (w.drewN m);have H1 : Hid (Blk w1 b 276 #[s, (i : Int), (e : Int)]) := hw1 ▸ H.out;have HK1 : Hid (Za (fun k => k = b) w w1) := hw1 ▸ Za.drewN _ w m;rw [hw1];clear hw1 HI H h37;have q1 := cA H1.out 1 (i : Int) rfl;have f1 := H1.frozen 1;have hlt := H1.lt;go_wp2_with fail;obtain ⟨j, hj⟩ := nE (i + 1);have hj2 : ((i : Int) + 1) = (j : Int) := aa
   have HB2 : Hid (Blk (w1.setCell ⟨b, 1, none⟩ (.int .i64 (j : Int))) b 276 #[s, (j : Int), (e : Int)]) := H1.set 1 (.int .i64 (j : Int));have HK2 : Hid (Za (fun k => k = b) w (w1.setCell ⟨b, 1, none⟩ (.int .i64 (j : Int)))) := HK1.trans (Za.setCell (fun k => k = b) w1 _ _ rfl) (fun _ => .inl);rw [hj2];rw [hj] at h1;obtain ⟨w2, hw2⟩ := nE (w1.setCell ⟨b, 1, none⟩ (.int .i64 (j : Int)));rw [hw2] at HB2 HK2 ⊢;have q0 := cA HB2.out 0 s rfl;have q3 := cA HB2.out 1 (j : Int) rfl;have f3 := HB2.frozen 1;have hlt2 := HB2.lt;have HJ := hid hj;clear hw2 hj2 hj q1 f1;obtain ⟨j', hj'⟩ : ∃ j', j + 1 = j' := ⟨_, rfl⟩;have hj3 : ((j : Int) + 1) = (j' : Int) := aa
   have HB3 := hid (fun Q => (show Blk (w2.drewN Q) b 276 #[s, (j : Int), (e : Int)] from HB2.out).set 1 (.int .i64 (j' : Int)));have HK3 := hid (fun Q => (HK2.trans (Za.drewN (fun k => k = b) w2 Q) (fun _ => .inl)).trans (Za.setCell (fun k => k = b) (w2.drewN Q) ⟨b, 1, none⟩ (.int .i64 (j' : Int)) rfl) (fun _ => .inl))
   go_quiet (fail)
   go_wp2_with fail;obtain ⟨w3, hw3⟩ := nE ((w2.drewN nq).setCell ⟨b, 1, none⟩ (.int .i64 (j' : Int)));have HB4 : Hid (Blk w3 b 276 #[s, (j' : Int), (e : Int)]) := hw3 ▸ HB3.out nq;have HK4 : Hid (Za (fun k => k = b) w w3) := hw3 ▸ HK3.out nq;rw [hw3];have h1' : j' ≤ s.size := aa
   have h1'' : 1 ≤ j' := aa
   have hj4 : ((j' : Int) - 1) = (j : Int) := aa
   have HJ' := hid hj';clear hw3 HB3 HK3 hj3 hj';have t0 := cA HB4.out 0 s rfl;have t1 := cA HB4.out 1 (j' : Int) rfl
   go_quiet (fail)
   go_wp2_with fail;go_ret
   have HV : (s.data.toList.getD (i + 1) 0).toNat = (s[j]).toNat := by
    rw [HJ.out, List.getD, List.getElem?_eq_getElem (by simpa using h1)]; rfl
   have HI2 : i + 2 = j' := by have := HJ.out; have := HJ'.out; omega
   exact ⟨by rw [HR.out]; simp only [HV]; rfl, by rw [HR.out]; simp only [HI2]; exact HB4.out, HK4.trans (Za.drewN (fun k => k = b) w3 _) (fun _ => .inl)⟩
  ·have HR : Hid (Ye s i e = (0, Ws s (i + 1), Wh s (i + 1))) := by rw [Hid, Ye, if_pos h37, if_neg h1]
   go_enter Tryz.func251, Tryz.ntmps251;go_wp2_with fail;refine (HI.out 0).mono ?_;rintro x w0 ⟨rfl, m, rfl⟩;obtain ⟨w1, hw1⟩ := nE (w.drewN m);have H1 : Hid (Blk w1 b 276 #[s, (i : Int), (e : Int)]) := hw1 ▸ H.out;have HK1 : Hid (Za (fun k => k = b) w w1) := hw1 ▸ Za.drewN _ w m;rw [hw1];clear hw1 HI H h37;have q1 := cA H1.out 1 (i : Int) rfl;have f1 := H1.frozen 1;have hlt := H1.lt;go_wp2_with fail;obtain ⟨j, hj⟩ := nE (i + 1);have hj2 : ((i : Int) + 1) = (j : Int) := aa
   have HB2 : Hid (Blk (w1.setCell ⟨b, 1, none⟩ (.int .i64 (j : Int))) b 276 #[s, (j : Int), (e : Int)]) := H1.set 1 (.int .i64 (j : Int));have HK2 : Hid (Za (fun k => k = b) w (w1.setCell ⟨b, 1, none⟩ (.int .i64 (j : Int)))) := HK1.trans (Za.setCell (fun k => k = b) w1 _ _ rfl) (fun _ => .inl);rw [hj2];rw [hj] at h1;obtain ⟨w2, hw2⟩ := nE (w1.setCell ⟨b, 1, none⟩ (.int .i64 (j : Int)));rw [hw2] at HB2 HK2 ⊢;have q0 := cA HB2.out 0 s rfl;have q3 := cA HB2.out 1 (j : Int) rfl;have f3 := HB2.frozen 1;have hlt2 := HB2.lt;have HJ := hid hj;clear hw2 hj2 hj q1 f1;obtain ⟨j', hj'⟩ : ∃ j', j + 1 = j' := ⟨_, rfl⟩;have hge : s.size ≤ j := aa
   go_quiet (fail)
   go_wp2_with fail;refine (Zex s j b _ (w2.drewN nq) (show Blk (w2.drewN nq) b 276 #[s, (j : Int), (e : Int)] from HB2.out)).mono ?_;rintro x w4 ⟨rfl, hb4, hk4⟩;have HK4 := hid ((HK2.trans (Za.drewN (fun k => k = b) w2 nq) (fun _ => .inl)).trans hk4 (fun _ => .inl));have HB4 := hid hb4;clear hb4 hk4;go_wp2_with fail;go_ret;exact ⟨by rw [HR.out]; rfl, by rw [HR.out, HJ.out]; exact HB4.out, HK4.out⟩
theorem Nq (s : ByteArray) (i e : Nat) (hi : i ≤ s.size) : (Ye s i e).2.1 ≤ s.size := by
 unfold Ye Ws;split
 ·split
  ·simp only; omega
  ·simp only; (try split) <;> omega
 ·split
  ·simp only; omega
  ·simp only; (try split) <;> omega
theorem Wu (s : ByteArray) (i : Nat) : Wh s i ≠ 0 := by unfold Wh; split <;> decide
theorem Nr (s : ByteArray) (i : Nat) (h : (Ye s i 0).2.2 = 0) : i < (Ye s i 0).2.1 := by
 unfold Ye at h ⊢;split at h
 ·split at h
  ·rw [if_pos ie, if_pos ie]; simp only; omega
  ·exact absurd h (Wu _ _)
 ·split at h
  ·rw [if_neg ie, if_pos ie]; simp only; omega
  ·exact absurd h (Wu _ _)
theorem Gs (s : ByteArray) (i e : Nat) : (Ye s i e).1 < 256 := by
 unfold Ye;split
 ·split
  ·exact UInt8.toNat_lt _
  ·simp
 ·split
  ·exact UInt8.toNat_lt _
  ·simp
theorem Nu {s : ByteArray} {i c : Nat} (h : isM s i c = true) : i < s.size := by
 unfold isM at h; simp at h; exact h.1
def Zu (s : ByteArray) (i : Nat) : Zp × Nat × Nat :=
 let p := Ye s i 0
 if p.2.2 = 0 ∧ isM s p.2.1 45 = true then
  let q := Ye s (p.2.1 + 1) 0
  if q.2.2 = 0 ∧ q.1 < p.1 then (Zt p.1 (q.1 + 1 - p.1), q.2.1 - 1, 12) else (Zt p.1 (q.1 + 1 - p.1), q.2.1, q.2.2)
 else (Zt p.1 1, p.2.1, p.2.2)
theorem Ky (s : ByteArray) (i : Nat) (hi : i ≤ s.size) : (Zu s i).2.1 ≤ s.size := by
 have h1 := Nq s i 0 hi;simp only [Zu];split
 ·rename_i h
  have h2 := Nq s ((Ye s i 0).2.1 + 1) 0 (Nu h.2);split <;> simp only <;> omega
 ·exact h1
theorem Zgl (s : ByteArray) (i : Nat) (h : (Zu s i).2.2 = 0) : i < (Zu s i).2.1 := by
 simp only [Zu] at h ⊢;split at h
 ·rename_i h1
  rw [if_pos h1];split at h
  ·cases h
  ·rename_i h2
   rw [if_neg h2];have := Nr s i h1.1;have := Nr s _ h;simp only; omega
 ·rename_i h1
  rw [if_neg h1];exact Nr s i h
def Ux (s : ByteArray) : Nat → Zp → Nat → Nat → Zp × Nat × Nat
 | 0, x, i, e => (x, i, e)
 | n + 1, x, i, e => if e = 0 ∧ isM s i 93 = false then Ux s n (orM x (Zu s i).1) (Zu s i).2.1 (Zu s i).2.2 else (x, i, e)
theorem Zac (s : ByteArray) (n : Nat) (x : Zp) (i e : Nat) (h : e ≠ 0) : Ux s n x i e = (x, i, e) := by
 cases n with
 | zero => rfl
 | succ n => rw [Ux, if_neg (by rintro ⟨h', -⟩; exact h h')]
theorem Za4 (s : ByteArray) (n : Nat) (x : Zp) (i e : Nat) (h : isM s i 93 = true) : Ux s n x i e = (x, i, e) := by
 cases n with
 | zero => rfl
 | succ n => rw [Ux, if_neg (by rintro ⟨-, h'⟩; rw [h] at h'; cases h')]
def Xu (s : ByteArray) : Zp × Nat × Nat :=
 if isM s 0 91 = true then
  let i0 := if isM s 1 94 = true then 2 else 1
  let p := Zu s i0
  let q := Ux s (s.size + 1) p.1 p.2.1 p.2.2
  if q.2.2 = 0 then (if isM s 1 94 = true then Zbd q.1 else q.1, q.2.1 + 1, 0) else (Zp.zero, q.2.1, q.2.2)
 else (Zp.zero, Ws s 0, Wh s 0)
theorem N25{P:Prop}(h:P:=by
 clear hbl;obtain ⟨T0, hT0⟩ := nE (Zt a (a + 1 - a));rw [hT0];have HV : Hid (Zt a (a + 1 - a) = T0) := hT0;obtain ⟨r0, r1, r2, r3⟩ := T0;clear hT0;unfold Zp.val;obtain ⟨c0, c1, c2, c3, g0, g1, g2, g3⟩ := Wi HC5.out;have HP := hid (Xn (b0 := w64 r0) (b1 := w64 r1) (b2 := w64 r2) (b3 := w64 r3) HC5.out);obtain ⟨z0, z1, z2, z3, -, -, -, -⟩ := Wi HP.out;have HQ := hid (Un (g' := w.heap.size) (b0 := w64 r0) (b1 := w64 r1) (b2 := w64 r2) (b3 := w64 r3) HB5.out hne);have HKK := hid (HK5.trans (Zdb w.heap.size w5 (w64 r0) (w64 r1) (w64 r2) (w64 r3)) (fun k hk => .inr (by have hk' : k = w.heap.size := hk; omega)));go_wp2_with fail;exact bodyPost_ret (v := .agg #[w64 r0, w64 r1, w64 r2, w64 r3]) lp rfl ⟨by rw [HE.out]; simp only [Zp.val, show Zt a 1 = ⟨r0, r1, r2, r3⟩ from by rw [← HV.out, Nat.add_sub_cancel_left]], by rw [HE.out]; exact HQ.out, HKK.out⟩):P:=h
theorem N13{P:Prop}(h:P:=by
 clear hbl;obtain ⟨T0, hT0⟩ := nE (Zt a (t + 1 - a));rw [hT0];have HV : Hid (Zt a (t + 1 - a) = T0) := hT0;obtain ⟨r0, r1, r2, r3⟩ := T0;clear hT0;unfold Zp.val;obtain ⟨c0, c1, c2, c3, g0, g1, g2, g3⟩ := Wi HC5.out;have HP := hid (Xn (b0 := w64 r0) (b1 := w64 r1) (b2 := w64 r2) (b3 := w64 r3) HC5.out);obtain ⟨z0, z1, z2, z3, -, -, -, -⟩ := Wi HP.out;have HQ := hid (Un (g' := w.heap.size) (b0 := w64 r0) (b1 := w64 r1) (b2 := w64 r2) (b3 := w64 r3) HB5.out hne);have HKK := hid (HK5.trans (Zdb w.heap.size w5 (w64 r0) (w64 r1) (w64 r2) (w64 r3)) (fun k hk => .inr (by have hk' : k = w.heap.size := hk; omega)));go_wp2_with fail;exact bodyPost_ret (v := .agg #[w64 r0, w64 r1, w64 r2, w64 r3]) lp rfl ⟨by rw [HE.out]; simp only [Zp.val, HV.out], by rw [HE.out]; exact HQ.out, HKK.out⟩):P:=h
theorem N134{P:Prop}(h:P:=by
 have HC5 : Hid (Blk w5 w.heap.size 249 zf) := (HC5.out).below hbl (HC5.out).lt;have HK5 : Hid (Za (fun k => k = b) w w5) := (HK5.out).trans (Za.of_below (F := fun k => k = b) hbl) (fun _ => .inl);exact N13):P:=h
theorem Zb1 (s : ByteArray) (i b : Nat) (w : World) (h : Blk w b 276 #[s, (i : Int), .int .i64 0]) (hs : s.size ≤ 1000000) (hi : i ≤ s.size) :
  Calls Tryz.prog 248 #[.pointer (some ⟨b, 0, none⟩)] w fun x w' => x = .returned (Zu s i).1.val ∧
   Blk w' b 276 #[s, .int .i64 ((Zu s i).2.1 : Nat), .int .i64 ((Zu s i).2.2 : Nat)] ∧ Za (fun k => k = b) w w' := by
 have H := hid h;have hbw := h.lt;have hne : b ≠ w.heap.size := aa
 clear h;obtain ⟨a, ha⟩ := nE ((Ye s i 0).1);obtain ⟨i1, hi1⟩ := nE ((Ye s i 0).2.1);obtain ⟨e1, he1⟩ := nE ((Ye s i 0).2.2);have ha256 : a < 256 := ha ▸ Gs s i 0;have hle1 : i1 ≤ s.size := hi1 ▸ Nq s i 0 hi
 have HR : Hid (Zu s i = if e1 = 0 ∧ isM s i1 45 = true then
   (if (Ye s (i1 + 1) 0).2.2 = 0 ∧ (Ye s (i1 + 1) 0).1 < a then (Zt a ((Ye s (i1 + 1) 0).1 + 1 - a), (Ye s (i1 + 1) 0).2.1 - 1, 12) else (Zt a ((Ye s (i1 + 1) 0).1 + 1 - a), (Ye s (i1 + 1) 0).2.1, (Ye s (i1 + 1) 0).2.2))
   else (Zt a 1, i1, e1)) := by rw [Hid, ← ha, ← hi1, ← he1]; rfl
 have HS1 := hid (fun W hW => Zfc s i b 0 W hW hs hi);rw [ha, hi1, he1] at HS1;clear ha hi1 he1;by_cases hz : e1 = 0
 ·subst hz
  cases h45 : isM s i1 45
  ·have HE : Hid (Zu s i = (Zt a 1, i1, 0)) := by rw [Hid, HR.out, if_neg (by rw [h45]; simp)]
   clear HR;go_enter Tryz.func248, Tryz.ntmps248;go_wp2_with fail;refine (HS1.out _ (show Blk (w.alloc (.cells zf 249)) b 276 #[s, (i : Int), ((0 : Nat) : Int)] from H.alloc _)).mono ?_;rintro x w1 ⟨rfl, hb1, hk1⟩;have HB1 := hid hb1;have HC1 : Hid (Blk w1 w.heap.size 249 zf) := hk1.blk (Blk.new w _ _) (fun e => hne e.symm);have HK1 : Hid (Za (fun k => k = b) w w1) := (Za.alloc (fun k => k = b) w _).trans hk1 (fun _ => .inl);clear hb1 hk1 HS1;have q1 := cA HB1.out 1 (i1 : Int) rfl;have q2 := cA HB1.out 2 (.int .i64 0) rfl;have f1 := HB1.frozen 1;have f2 := HB1.frozen 2;have hlt1 := HB1.lt;go_wp2_with fail;have HI := hid (fun n => Wm HB1.out 45 n);rw [h45] at HI;refine (HI.out 0).mono ?_;rintro x w0 ⟨rfl, nq, rfl⟩;go_wp2_with fail;refine (Nk a a ha256 ha256 (w1.drewN nq)).mono ?_;rintro x w5 ⟨rfl, hbl⟩;have HB5 : Hid (Blk w5 b 276 #[s, (i1 : Int), ((0 : Nat) : Int)]) := (show Blk (w1.drewN nq) b 276 #[s, (i1 : Int), ((0 : Nat) : Int)] from HB1.out).below hbl (show Blk (w1.drewN nq) b 276 #[s, (i1 : Int), ((0 : Nat) : Int)] from HB1.out).lt;have HC5 : Hid (Blk w5 w.heap.size 249 zf) := (show Blk (w1.drewN nq) w.heap.size 249 #[.int .u64 0, .int .u64 0, .int .u64 0, .int .u64 0] from HC1.out).below hbl (show Blk (w1.drewN nq) w.heap.size 249 #[.int .u64 0, .int .u64 0, .int .u64 0, .int .u64 0] from HC1.out).lt;have HK5 : Hid (Za (fun k => k = b) w w5) := (HK1.trans (Za.drewN (fun k => k = b) w1 nq) (fun _ => .inl)).trans (Za.of_below (F := fun k => k = b) hbl) (fun _ => .inl);exact N25
  ·skip
   go_enter Tryz.func248, Tryz.ntmps248;go_wp2_with fail;refine (HS1.out _ (show Blk (w.alloc (.cells zf 249)) b 276 #[s, (i : Int), ((0 : Nat) : Int)] from H.alloc _)).mono ?_;rintro x w1 ⟨rfl, hb1, hk1⟩;have HB1 := hid hb1;have HC1 : Hid (Blk w1 w.heap.size 249 zf) := hk1.blk (Blk.new w _ _) (fun e => hne e.symm);have HK1 : Hid (Za (fun k => k = b) w w1) := (Za.alloc (fun k => k = b) w _).trans hk1 (fun _ => .inl);clear hb1 hk1 HS1;have q1 := cA HB1.out 1 (i1 : Int) rfl;have q2 := cA HB1.out 2 (.int .i64 0) rfl;have f1 := HB1.frozen 1;have f2 := HB1.frozen 2;have hlt1 := HB1.lt;go_wp2_with fail;have HI := hid (fun n => Wm HB1.out 45 n);rw [h45] at HI;refine (HI.out 0).mono ?_;rintro x w0 ⟨rfl, nq, rfl⟩;obtain ⟨j, hj⟩ := nE (i1 + 1);have hj2 : ((i1 : Int) + 1) = (j : Int) := aa
   have hj1 : i1 < s.size := Nu h45;have hjs : j ≤ s.size := aa
   have HB3 := hid (fun Q => (show Blk (w1.drewN Q) b 276 #[s, (i1 : Int), ((0 : Nat) : Int)] from HB1.out).set 1 (.int .i64 (j : Int)));have HK3 := hid (fun Q => (HK1.trans (Za.drewN (fun k => k = b) w1 Q) (fun _ => .inl)).trans (Za.setCell (fun k => k = b) (w1.drewN Q) ⟨b, 1, none⟩ (.int .i64 (j : Int)) rfl) (fun _ => .inl));have HC3 := hid (fun Q => (show Blk (w1.drewN Q) w.heap.size 249 #[.int .u64 0, .int .u64 0, .int .u64 0, .int .u64 0] from HC1.out).set_far (i := 1) (u := .int .i64 (j : Int)) (Ne.symm hne));go_wp2_with fail;obtain ⟨w3, hw3⟩ := nE ((w1.drewN nq).setCell ⟨b, 1, none⟩ (.int .i64 (j : Int)));have HB4 : Hid (Blk w3 b 276 #[s, (j : Int), ((0 : Nat) : Int)]) := hw3 ▸ HB3.out nq;have HK4 : Hid (Za (fun k => k = b) w w3) := hw3 ▸ HK3.out nq;have HC4 : Hid (Blk w3 w.heap.size 249 zf) := hw3 ▸ HC3.out nq;rw [hw3];clear hw3 HB3 HK3 HC3 HI HB1 HC1 HK1 q1 q2 f1 f2 hlt1 hj2;have HJ := hid hj;rw [hj] at HR;clear hj;obtain ⟨t, ht⟩ := nE ((Ye s j 0).1);obtain ⟨i2, hi2⟩ := nE ((Ye s j 0).2.1);obtain ⟨e2, he2⟩ := nE ((Ye s j 0).2.2);have ht256 : t < 256 := ht ▸ Gs s j 0;have hle2 : i2 ≤ s.size := hi2 ▸ Nq s j 0 hjs;have HG : Hid (e2 = 0 → j < i2) := by rw [Hid, ← hi2, ← he2]; exact Nr s j
   have HS2 := hid (Zfc s j b 0 w3 HB4.out hs hjs);rw [ht, hi2, he2] at HR HS2;rw [if_pos ⟨fq, h45⟩] at HR;clear ht hi2 he2 h45;refine HS2.mono ?_;rintro x w4 ⟨rfl, hb4, hk4⟩;have HB5 := hid hb4;have HC5 : Hid (Blk w4 w.heap.size 249 zf) := hk4.blk HC4.out (fun e => hne e.symm);have HK5 : Hid (Za (fun k => k = b) w w4) := HK4.trans hk4 (fun _ => .inl);clear hb4 hk4 HS2 HB4 HC4 HK4;have q1 := cA HB5.out 1 (i2 : Int) rfl;have q2 := cA HB5.out 2 (e2 : Int) rfl;have f1 := HB5.frozen 1;have f2 := HB5.frozen 2;have hlt1 := HB5.lt;by_cases hz2 : e2 = 0
   ·subst hz2
    by_cases hta : t < a
    ·have HE : Hid (Zu s i = (Zt a (t + 1 - a), i2 - 1, 12)) := by rw [Hid, HR.out, if_pos ⟨fq, hta⟩]
     clear HR;obtain ⟨k, hk⟩ := nE (i2 - 1);have hk2 : ((i2 : Int) - 1) = (k : Int) := by have := HG.out rfl; omega
     rw [hk] at HE;clear hk;have HB6 : Hid (Blk (w4.setCell ⟨b, 1, none⟩ (.int .i64 (k : Int))) b 276 #[s, (k : Int), ((0 : Nat) : Int)]) := HB5.set 1 (.int .i64 (k : Int));have HB7 : Hid (Blk ((w4.setCell ⟨b, 1, none⟩ (.int .i64 (k : Int))).setCell ⟨b, 2, none⟩ (.int .i64 12)) b 276 #[s, (k : Int), .int .i64 12]) := HB6.set 2 (.int .i64 12);have HC7 : Hid (Blk ((w4.setCell ⟨b, 1, none⟩ (.int .i64 (k : Int))).setCell ⟨b, 2, none⟩ (.int .i64 12)) w.heap.size 249 #[.int .u64 0, .int .u64 0, .int .u64 0, .int .u64 0]) := (HC5.set_far (Ne.symm hne)).set_far (Ne.symm hne)
     have HK7 : Hid (Za (fun k => k = b) w ((w4.setCell ⟨b, 1, none⟩ (.int .i64 (k : Int))).setCell ⟨b, 2, none⟩ (.int .i64 12))) :=
      (HK5.trans (Za.setCell (fun k => k = b) w4 ⟨b, 1, none⟩ (.int .i64 (k : Int)) rfl) (fun _ => .inl)).trans (Za.setCell (fun k => k = b) _ ⟨b, 2, none⟩ (.int .i64 12) rfl) (fun _ => .inl)
     have f3 := HB6.frozen 2;have hlt3 := HB6.lt;go_wp2_with fail;obtain ⟨w7, hw7⟩ := nE ((w4.setCell ⟨b, 1, none⟩ (.int .i64 (k : Int))).setCell ⟨b, 2, none⟩ (.int .i64 12));rw [hw7] at HB7 HC7 HK7 ⊢;clear hw7 HB6 f3 hlt3 HB5 HC5 HK5;refine (Nk a t ha256 ht256 w7).mono ?_;rintro x w5 ⟨rfl, hbl⟩;have HB5 : Hid (Blk w5 b 276 #[s, (k : Int), .int .i64 12]) := (HB7.out).below hbl (HB7.out).lt;have HC5 : Hid (Blk w5 w.heap.size 249 zf) := (HC7.out).below hbl (HC7.out).lt;have HK5 : Hid (Za (fun k => k = b) w w5) := (HK7.out).trans (Za.of_below (F := fun k => k = b) hbl) (fun _ => .inl);exact N13
    ·have HE : Hid (Zu s i = (Zt a (t + 1 - a), i2, 0)) := by rw [Hid, HR.out, if_neg (by rintro ⟨-, h'⟩; exact hta h')]
     clear HR;go_wp2_with fail;refine (Nk a t ha256 ht256 w4).mono ?_;rintro x w5 ⟨rfl, hbl⟩;have HB5 : Hid (Blk w5 b 276 #[s, (i2 : Int), ((0 : Nat) : Int)]) := (HB5.out).below hbl (HB5.out).lt;exact N134
   ·have HE : Hid (Zu s i = (Zt a (t + 1 - a), i2, e2)) := by rw [Hid, HR.out, if_neg (by rintro ⟨h', -⟩; exact hz2 h')]
    clear HR;have hz3 : ((e2 : Int) == 0) = false := af
    go_wp2_with fail;refine (Nk a t ha256 ht256 w4).mono ?_;rintro x w5 ⟨rfl, hbl⟩;have HB5 : Hid (Blk w5 b 276 #[s, (i2 : Int), (e2 : Int)]) := (HB5.out).below hbl (HB5.out).lt;exact N134
 ·have HE : Hid (Zu s i = (Zt a 1, i1, e1)) := by rw [Hid, HR.out, if_neg (by rintro ⟨h', -⟩; exact hz h')]
  clear HR;have hz1 : ((e1 : Int) == 0) = false := af
  go_enter Tryz.func248, Tryz.ntmps248;go_wp2_with fail;refine (HS1.out _ (show Blk (w.alloc (.cells zf 249)) b 276 #[s, (i : Int), ((0 : Nat) : Int)] from H.alloc _)).mono ?_;rintro x w1 ⟨rfl, hb1, hk1⟩;have HB1 := hid hb1;have HC1 : Hid (Blk w1 w.heap.size 249 zf) := hk1.blk (Blk.new w _ _) (fun e => hne e.symm);have HK1 : Hid (Za (fun k => k = b) w w1) := (Za.alloc (fun k => k = b) w _).trans hk1 (fun _ => .inl);clear hb1 hk1 HS1;have q1 := cA HB1.out 1 (i1 : Int) rfl;have q2 := cA HB1.out 2 (e1 : Int) rfl;have f1 := HB1.frozen 1;have f2 := HB1.frozen 2;have hlt1 := HB1.lt;go_wp2_with fail;refine (Nk a a ha256 ha256 w1).mono ?_;rintro x w5 ⟨rfl, hbl⟩;have HB5 : Hid (Blk w5 b 276 #[s, (i1 : Int), (e1 : Int)]) := (HB1.out).below hbl (HB1.out).lt;have HC5 : Hid (Blk w5 w.heap.size 249 zf) := (HC1.out).below hbl (HC1.out).lt;have HK5 : Hid (Za (fun k => k = b) w w5) := (HK1.out).trans (Za.of_below (F := fun k => k = b) hbl) (fun _ => .inl);exact N25
end Go.Proofs.YtpkkfdmhbbipoaaGreat
