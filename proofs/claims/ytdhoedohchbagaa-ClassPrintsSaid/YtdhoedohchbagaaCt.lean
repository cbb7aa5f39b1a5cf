/- Walks: class.reader's sign. -/
import Derived.Test.YtdhoedohchbagaaCs
namespace Go.Proofs.Ytdhoedohchbagaa
open Go.RowKit

theorem is_quiet {s : ByteArray} {i b : Nat} {e : Value} {w : World} (h : Blk w b 126 #[.string s, .int .i64 (i : Int), e]) (c n : Nat) :
    Calls Try.prog 108 #[.pointer (some ⟨b, 0, none⟩), .int .u8 (c : Int)] (w.drewN n) fun x w' => x = .returned (.bool (isM s i c)) ∧ ∃ m, w' = w.drewN m :=
  (is_any s i c b e (w.drewN n) h).mono fun _ _ ⟨q, hx, hw⟩ => ⟨hx, n + q, by rw [hw, World.drewN_drewN]⟩

/-- What a sign's reading gives: the byte, where the reader stands then, and its error. -/
def rdSign (s : ByteArray) (i e : Nat) : Nat × Nat × Nat :=
  if isM s i 37 then (if i + 1 < s.size then ((s.data.toList.getD (i + 1) 0).toNat, i + 2, e) else (0, stopAt s (i + 1), stopE s (i + 1)))
  else if i < s.size ∧ isM s i 93 = false ∧ isM s i 45 = false then ((s.data.toList.getD i 0).toNat, i + 1, e)
  else (0, stopAt s i, stopE s i)

set_option maxRecDepth 20000 in
set_option maxHeartbeats 2000000 in
theorem rdSign_any (s : ByteArray) (i b e : Nat) (w : World) (h : Blk w b 126 #[.string s, .int .i64 (i : Int), .int .i64 (e : Int)]) (hs : s.size ≤ 1000000) (hi : i ≤ s.size) :
    Calls Try.prog 124 #[.pointer (some ⟨b, 0, none⟩)] w fun x w' => x = .returned (.int .u8 ((rdSign s i e).1 : Nat)) ∧
      Blk w' b 126 #[.string s, .int .i64 ((rdSign s i e).2.1 : Nat), .int .i64 ((rdSign s i e).2.2 : Nat)] ∧ Keep (fun k => k = b) w w' := by
  have H := hid h
  clear h
  cases h37 : isM s i 37
  · have HI := hid (fun n => is_quiet H.out 37 n)
    rw [h37] at HI
    by_cases h1 : i < s.size
    · cases h93 : isM s i 93
      · cases h45 : isM s i 45
        · have HR : Hid (rdSign s i e = ((s.data.toList.getD i 0).toNat, i + 1, e)) := by rw [Hid, rdSign, if_neg (by rw [h37]; decide), if_pos ⟨h1, h93, h45⟩]
          go_enter Try.func124, Try.ntmps124
          go_wp2_with fail
          refine (HI.out 0).mono ?_
          rintro x w0 ⟨rfl, m, rfl⟩
          obtain ⟨w1, hw1⟩ : ∃ w1, w.drewN m = w1 := ⟨_, rfl⟩
          have H1 : Hid (Blk w1 b 126 #[.string s, .int .i64 (i : Int), .int .i64 (e : Int)]) := by rw [← hw1]; exact H.out
          have HK1 : Hid (Keep (fun k => k = b) w w1) := by rw [← hw1]; exact Keep.drewN _ w m
          rw [hw1]
          clear hw1 HI H h37
          have q0 : w1.cell? ⟨b, 0, none⟩ = some (.string s) := H1.out.cell 0
          have q1 : w1.cell? ⟨b, 1, none⟩ = some (.int .i64 (i : Int)) := H1.out.cell 1
          have f1 := H1.out.frozen 1
          have hlt := H1.out.lt
          have HI93 : Hid (∀ n, Calls Try.prog 108 #[.pointer (some ⟨b, 0, none⟩), .int .u8 93] (w1.drewN n) fun x w' => x = .returned (.bool (isM s i 93)) ∧ ∃ m, w' = w1.drewN m) := fun n => is_quiet H1.out 93 n
          have HI45 : Hid (∀ n, Calls Try.prog 108 #[.pointer (some ⟨b, 0, none⟩), .int .u8 45] (w1.drewN n) fun x w' => x = .returned (.bool (isM s i 45)) ∧ ∃ m, w' = w1.drewN m) := fun n => is_quiet H1.out 45 n
          go_wp2_with fail
          rw [h93] at HI93
          rw [h45] at HI45
          go_quiet (first | (go_at_call 108; with_reducible exact HI93.out _) | (go_at_call 108; with_reducible exact HI45.out _))
          obtain ⟨j', hj'⟩ : ∃ j', i + 1 = j' := ⟨_, rfl⟩
          have hj3 : ((i : Int) + 1) = (j' : Int) := by omega
          have HB3 := hid (fun Q => (show Blk (w1.drewN Q) b 126 #[.string s, .int .i64 (i : Int), .int .i64 (e : Int)] from H1.out).set 1 (.int .i64 (j' : Int)))
          have HK3 := hid (fun Q => (HK1.out.trans (Keep.drewN (fun k => k = b) w1 Q) (fun _ => .inl)).trans (Keep.setCell (fun k => k = b) (w1.drewN Q) ⟨b, 1, none⟩ (.int .i64 (j' : Int)) rfl) (fun _ => .inl))
          go_wp2_with fail
          obtain ⟨w3, hw3⟩ : ∃ w3, (w1.drewN nq).setCell ⟨b, 1, none⟩ (.int .i64 (j' : Int)) = w3 := ⟨_, rfl⟩
          have HB4 : Hid (Blk w3 b 126 #[.string s, .int .i64 (j' : Int), .int .i64 (e : Int)]) := by rw [← hw3]; exact HB3.out nq
          have HK4 : Hid (Keep (fun k => k = b) w w3) := by rw [← hw3]; exact HK3.out nq
          rw [hw3]
          have h1' : j' ≤ s.size := by omega
          have h1'' : 1 ≤ j' := by omega
          have hj4 : ((j' : Int) - 1) = (i : Int) := by omega
          have HJ' := hid hj'
          clear hw3 HB3 HK3 hj3 hj'
          have t0 : w3.cell? ⟨b, 0, none⟩ = some (.string s) := HB4.out.cell 0
          have t1 : w3.cell? ⟨b, 1, none⟩ = some (.int .i64 (j' : Int)) := HB4.out.cell 1
          go_quiet (fail)
          go_wp2_with fail
          go_ret
          have HV : (s.data.toList.getD i 0).toNat = (s[i]).toNat := by
            rw [List.getD, List.getElem?_eq_getElem (by simpa using h1)]; rfl
          exact ⟨by rw [HR.out]; simp only [HV]; rfl, by rw [HR.out]; simp only [HJ'.out]; exact HB4.out, HK4.out.trans (Keep.drewN (fun k => k = b) w3 _) (fun _ => .inl)⟩
        · have HR : Hid (rdSign s i e = (0, stopAt s i, stopE s i)) := by rw [Hid, rdSign, if_neg (by rw [h37]; decide), if_neg (by rw [h45]; simp)]
          go_enter Try.func124, Try.ntmps124
          go_wp2_with fail
          refine (HI.out 0).mono ?_
          rintro x w0 ⟨rfl, m, rfl⟩
          obtain ⟨w1, hw1⟩ : ∃ w1, w.drewN m = w1 := ⟨_, rfl⟩
          have H1 : Hid (Blk w1 b 126 #[.string s, .int .i64 (i : Int), .int .i64 (e : Int)]) := by rw [← hw1]; exact H.out
          have HK1 : Hid (Keep (fun k => k = b) w w1) := by rw [← hw1]; exact Keep.drewN _ w m
          rw [hw1]
          clear hw1 HI H h37
          have q0 : w1.cell? ⟨b, 0, none⟩ = some (.string s) := H1.out.cell 0
          have q1 : w1.cell? ⟨b, 1, none⟩ = some (.int .i64 (i : Int)) := H1.out.cell 1
          have f1 := H1.out.frozen 1
          have hlt := H1.out.lt
          have HI93 : Hid (∀ n, Calls Try.prog 108 #[.pointer (some ⟨b, 0, none⟩), .int .u8 93] (w1.drewN n) fun x w' => x = .returned (.bool (isM s i 93)) ∧ ∃ m, w' = w1.drewN m) := fun n => is_quiet H1.out 93 n
          have HI45 : Hid (∀ n, Calls Try.prog 108 #[.pointer (some ⟨b, 0, none⟩), .int .u8 45] (w1.drewN n) fun x w' => x = .returned (.bool (isM s i 45)) ∧ ∃ m, w' = w1.drewN m) := fun n => is_quiet H1.out 45 n
          go_wp2_with fail
          rw [h93] at HI93
          rw [h45] at HI45
          go_quiet (first | (go_at_call 108; with_reducible exact HI93.out _) | (go_at_call 108; with_reducible exact HI45.out _))
          go_wp2_with fail
          refine (stop_any s i b _ (w1.drewN nq) (show Blk (w1.drewN nq) b 126 #[.string s, .int .i64 (i : Int), .int .i64 (e : Int)] from H1.out)).mono ?_
          rintro x w4 ⟨rfl, hb4, hk4⟩
          have HK4 := hid ((HK1.out.trans (Keep.drewN (fun k => k = b) w1 nq) (fun _ => .inl)).trans hk4 (fun _ => .inl))
          have HB4 := hid hb4
          clear hb4 hk4
          go_wp2_with fail
          go_ret
          exact ⟨by rw [HR.out]; rfl, by rw [HR.out]; exact HB4.out, HK4.out⟩
      · have HR : Hid (rdSign s i e = (0, stopAt s i, stopE s i)) := by rw [Hid, rdSign, if_neg (by rw [h37]; decide), if_neg (by rw [h93]; simp)]
        go_enter Try.func124, Try.ntmps124
        go_wp2_with fail
        refine (HI.out 0).mono ?_
        rintro x w0 ⟨rfl, m, rfl⟩
        obtain ⟨w1, hw1⟩ : ∃ w1, w.drewN m = w1 := ⟨_, rfl⟩
        have H1 : Hid (Blk w1 b 126 #[.string s, .int .i64 (i : Int), .int .i64 (e : Int)]) := by rw [← hw1]; exact H.out
        have HK1 : Hid (Keep (fun k => k = b) w w1) := by rw [← hw1]; exact Keep.drewN _ w m
        rw [hw1]
        clear hw1 HI H h37
        have q0 : w1.cell? ⟨b, 0, none⟩ = some (.string s) := H1.out.cell 0
        have q1 : w1.cell? ⟨b, 1, none⟩ = some (.int .i64 (i : Int)) := H1.out.cell 1
        have f1 := H1.out.frozen 1
        have hlt := H1.out.lt
        have HI93 : Hid (∀ n, Calls Try.prog 108 #[.pointer (some ⟨b, 0, none⟩), .int .u8 93] (w1.drewN n) fun x w' => x = .returned (.bool (isM s i 93)) ∧ ∃ m, w' = w1.drewN m) := fun n => is_quiet H1.out 93 n
        have HI45 : Hid (∀ n, Calls Try.prog 108 #[.pointer (some ⟨b, 0, none⟩), .int .u8 45] (w1.drewN n) fun x w' => x = .returned (.bool (isM s i 45)) ∧ ∃ m, w' = w1.drewN m) := fun n => is_quiet H1.out 45 n
        go_wp2_with fail
        rw [h93] at HI93
        go_quiet (first | (go_at_call 108; with_reducible exact HI93.out _))
        go_wp2_with fail
        refine (stop_any s i b _ (w1.drewN nq) (show Blk (w1.drewN nq) b 126 #[.string s, .int .i64 (i : Int), .int .i64 (e : Int)] from H1.out)).mono ?_
        rintro x w4 ⟨rfl, hb4, hk4⟩
        have HK4 := hid ((HK1.out.trans (Keep.drewN (fun k => k = b) w1 nq) (fun _ => .inl)).trans hk4 (fun _ => .inl))
        have HB4 := hid hb4
        clear hb4 hk4
        go_wp2_with fail
        go_ret
        exact ⟨by rw [HR.out]; rfl, by rw [HR.out]; exact HB4.out, HK4.out⟩
    · have HR : Hid (rdSign s i e = (0, stopAt s i, stopE s i)) := by rw [Hid, rdSign, if_neg (by rw [h37]; decide), if_neg (by omega)]
      have hge : s.size ≤ i := by omega
      go_enter Try.func124, Try.ntmps124
      go_wp2_with fail
      refine (HI.out 0).mono ?_
      rintro x w0 ⟨rfl, m, rfl⟩
      obtain ⟨w1, hw1⟩ : ∃ w1, w.drewN m = w1 := ⟨_, rfl⟩
      have H1 : Hid (Blk w1 b 126 #[.string s, .int .i64 (i : Int), .int .i64 (e : Int)]) := by rw [← hw1]; exact H.out
      have HK1 : Hid (Keep (fun k => k = b) w w1) := by rw [← hw1]; exact Keep.drewN _ w m
      rw [hw1]
      clear hw1 HI H h37
      have q0 : w1.cell? ⟨b, 0, none⟩ = some (.string s) := H1.out.cell 0
      have q1 : w1.cell? ⟨b, 1, none⟩ = some (.int .i64 (i : Int)) := H1.out.cell 1
      have f1 := H1.out.frozen 1
      have hlt := H1.out.lt
      have HI93 : Hid (∀ n, Calls Try.prog 108 #[.pointer (some ⟨b, 0, none⟩), .int .u8 93] (w1.drewN n) fun x w' => x = .returned (.bool (isM s i 93)) ∧ ∃ m, w' = w1.drewN m) := fun n => is_quiet H1.out 93 n
      have HI45 : Hid (∀ n, Calls Try.prog 108 #[.pointer (some ⟨b, 0, none⟩), .int .u8 45] (w1.drewN n) fun x w' => x = .returned (.bool (isM s i 45)) ∧ ∃ m, w' = w1.drewN m) := fun n => is_quiet H1.out 45 n
      go_wp2_with fail
      go_quiet (fail)
      go_wp2_with fail
      refine (stop_any s i b _ (w1.drewN nq) (show Blk (w1.drewN nq) b 126 #[.string s, .int .i64 (i : Int), .int .i64 (e : Int)] from H1.out)).mono ?_
      rintro x w4 ⟨rfl, hb4, hk4⟩
      have HK4 := hid ((HK1.out.trans (Keep.drewN (fun k => k = b) w1 nq) (fun _ => .inl)).trans hk4 (fun _ => .inl))
      have HB4 := hid hb4
      clear hb4 hk4
      go_wp2_with fail
      go_ret
      exact ⟨by rw [HR.out]; rfl, by rw [HR.out]; exact HB4.out, HK4.out⟩
  · have HI := hid (fun n => is_quiet H.out 37 n)
    rw [h37] at HI
    by_cases h1 : i + 1 < s.size
    · have HR : Hid (rdSign s i e = ((s.data.toList.getD (i + 1) 0).toNat, i + 2, e)) := by rw [Hid, rdSign, if_pos h37, if_pos h1]
      go_enter Try.func124, Try.ntmps124
      go_wp2_with fail
      refine (HI.out 0).mono ?_
      rintro x w0 ⟨rfl, m, rfl⟩
      obtain ⟨w1, hw1⟩ : ∃ w1, w.drewN m = w1 := ⟨_, rfl⟩
      have H1 : Hid (Blk w1 b 126 #[.string s, .int .i64 (i : Int), .int .i64 (e : Int)]) := by rw [← hw1]; exact H.out
      have HK1 : Hid (Keep (fun k => k = b) w w1) := by rw [← hw1]; exact Keep.drewN _ w m
      rw [hw1]
      clear hw1 HI H h37
      have q1 : w1.cell? ⟨b, 1, none⟩ = some (.int .i64 (i : Int)) := H1.out.cell 1
      have f1 := H1.out.frozen 1
      have hlt := H1.out.lt
      go_wp2_with fail
      obtain ⟨j, hj⟩ : ∃ j, i + 1 = j := ⟨_, rfl⟩
      have hj2 : ((i : Int) + 1) = (j : Int) := by omega
      have HB2 : Hid (Blk (w1.setCell ⟨b, 1, none⟩ (.int .i64 (j : Int))) b 126 #[.string s, .int .i64 (j : Int), .int .i64 (e : Int)]) := H1.out.set 1 (.int .i64 (j : Int))
      have HK2 : Hid (Keep (fun k => k = b) w (w1.setCell ⟨b, 1, none⟩ (.int .i64 (j : Int)))) := HK1.out.trans (Keep.setCell (fun k => k = b) w1 _ _ rfl) (fun _ => .inl)
      rw [hj2]
      rw [hj] at h1
      obtain ⟨w2, hw2⟩ : ∃ w2, w1.setCell ⟨b, 1, none⟩ (.int .i64 (j : Int)) = w2 := ⟨_, rfl⟩
      rw [hw2] at HB2 HK2 ⊢
      have q0 : w2.cell? ⟨b, 0, none⟩ = some (.string s) := HB2.out.cell 0
      have q3 : w2.cell? ⟨b, 1, none⟩ = some (.int .i64 (j : Int)) := HB2.out.cell 1
      have f3 := HB2.out.frozen 1
      have hlt2 := HB2.out.lt
      have HJ := hid hj
      clear hw2 hj2 hj q1 f1
      obtain ⟨j', hj'⟩ : ∃ j', j + 1 = j' := ⟨_, rfl⟩
      have hj3 : ((j : Int) + 1) = (j' : Int) := by omega
      have HB3 := hid (fun Q => (show Blk (w2.drewN Q) b 126 #[.string s, .int .i64 (j : Int), .int .i64 (e : Int)] from HB2.out).set 1 (.int .i64 (j' : Int)))
      have HK3 := hid (fun Q => (HK2.out.trans (Keep.drewN (fun k => k = b) w2 Q) (fun _ => .inl)).trans (Keep.setCell (fun k => k = b) (w2.drewN Q) ⟨b, 1, none⟩ (.int .i64 (j' : Int)) rfl) (fun _ => .inl))
      go_quiet (fail)
      go_wp2_with fail
      obtain ⟨w3, hw3⟩ : ∃ w3, (w2.drewN nq).setCell ⟨b, 1, none⟩ (.int .i64 (j' : Int)) = w3 := ⟨_, rfl⟩
      have HB4 : Hid (Blk w3 b 126 #[.string s, .int .i64 (j' : Int), .int .i64 (e : Int)]) := by rw [← hw3]; exact HB3.out nq
      have HK4 : Hid (Keep (fun k => k = b) w w3) := by rw [← hw3]; exact HK3.out nq
      rw [hw3]
      have h1' : j' ≤ s.size := by omega
      have h1'' : 1 ≤ j' := by omega
      have hj4 : ((j' : Int) - 1) = (j : Int) := by omega
      have HJ' := hid hj'
      clear hw3 HB3 HK3 hj3 hj'
      have t0 : w3.cell? ⟨b, 0, none⟩ = some (.string s) := HB4.out.cell 0
      have t1 : w3.cell? ⟨b, 1, none⟩ = some (.int .i64 (j' : Int)) := HB4.out.cell 1
      go_quiet (fail)
      go_wp2_with fail
      go_ret
      have HV : (s.data.toList.getD (i + 1) 0).toNat = (s[j]).toNat := by
        rw [HJ.out, List.getD, List.getElem?_eq_getElem (by simpa using h1)]; rfl
      have HI2 : i + 2 = j' := by have := HJ.out; have := HJ'.out; omega
      exact ⟨by rw [HR.out]; simp only [HV]; rfl, by rw [HR.out]; simp only [HI2]; exact HB4.out, HK4.out.trans (Keep.drewN (fun k => k = b) w3 _) (fun _ => .inl)⟩
    · have HR : Hid (rdSign s i e = (0, stopAt s (i + 1), stopE s (i + 1))) := by rw [Hid, rdSign, if_pos h37, if_neg h1]
      go_enter Try.func124, Try.ntmps124
      go_wp2_with fail
      refine (HI.out 0).mono ?_
      rintro x w0 ⟨rfl, m, rfl⟩
      obtain ⟨w1, hw1⟩ : ∃ w1, w.drewN m = w1 := ⟨_, rfl⟩
      have H1 : Hid (Blk w1 b 126 #[.string s, .int .i64 (i : Int), .int .i64 (e : Int)]) := by rw [← hw1]; exact H.out
      have HK1 : Hid (Keep (fun k => k = b) w w1) := by rw [← hw1]; exact Keep.drewN _ w m
      rw [hw1]
      clear hw1 HI H h37
      have q1 : w1.cell? ⟨b, 1, none⟩ = some (.int .i64 (i : Int)) := H1.out.cell 1
      have f1 := H1.out.frozen 1
      have hlt := H1.out.lt
      go_wp2_with fail
      obtain ⟨j, hj⟩ : ∃ j, i + 1 = j := ⟨_, rfl⟩
      have hj2 : ((i : Int) + 1) = (j : Int) := by omega
      have HB2 : Hid (Blk (w1.setCell ⟨b, 1, none⟩ (.int .i64 (j : Int))) b 126 #[.string s, .int .i64 (j : Int), .int .i64 (e : Int)]) := H1.out.set 1 (.int .i64 (j : Int))
      have HK2 : Hid (Keep (fun k => k = b) w (w1.setCell ⟨b, 1, none⟩ (.int .i64 (j : Int)))) := HK1.out.trans (Keep.setCell (fun k => k = b) w1 _ _ rfl) (fun _ => .inl)
      rw [hj2]
      rw [hj] at h1
      obtain ⟨w2, hw2⟩ : ∃ w2, w1.setCell ⟨b, 1, none⟩ (.int .i64 (j : Int)) = w2 := ⟨_, rfl⟩
      rw [hw2] at HB2 HK2 ⊢
      have q0 : w2.cell? ⟨b, 0, none⟩ = some (.string s) := HB2.out.cell 0
      have q3 : w2.cell? ⟨b, 1, none⟩ = some (.int .i64 (j : Int)) := HB2.out.cell 1
      have f3 := HB2.out.frozen 1
      have hlt2 := HB2.out.lt
      have HJ := hid hj
      clear hw2 hj2 hj q1 f1
      obtain ⟨j', hj'⟩ : ∃ j', j + 1 = j' := ⟨_, rfl⟩
      have hge : s.size ≤ j := by omega
      go_quiet (fail)
      go_wp2_with fail
      refine (stop_any s j b _ (w2.drewN nq) (show Blk (w2.drewN nq) b 126 #[.string s, .int .i64 (j : Int), .int .i64 (e : Int)] from HB2.out)).mono ?_
      rintro x w4 ⟨rfl, hb4, hk4⟩
      have HK4 := hid ((HK2.out.trans (Keep.drewN (fun k => k = b) w2 nq) (fun _ => .inl)).trans hk4 (fun _ => .inl))
      have HB4 := hid hb4
      clear hb4 hk4
      go_wp2_with fail
      go_ret
      exact ⟨by rw [HR.out]; rfl, by rw [HR.out, HJ.out]; exact HB4.out, HK4.out⟩
end Go.Proofs.Ytdhoedohchbagaa
