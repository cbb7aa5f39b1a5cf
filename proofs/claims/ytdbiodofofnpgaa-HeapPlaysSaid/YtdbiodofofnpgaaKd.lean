/- Walks: package heap: Set in one contract, New, Due. Walks: package heap: Due. Walks: the reference of layer 1: Own, Due; of layer 5: Same; 'lives' of layer 5. Walks: the reference of layer 5: Cut, before. Walks: the reference of layer 5: Set. The law HeapSorts: its walk. -/
import Derived.Test.YtdbiodofofnpgaaKc
import Derived.Laws.StructEq
import Derived.Test.YtdbiodofofnpgaaNa
namespace Go.Proofs.Ytdbiodofofnpgaa
open Go.RowKit

theorem neverB (t : Int) : (t == 9223372036854775807) = decide (t = neverT) := by unfold neverT; rw [Bool.eq_iff_iff]; simp
theorem setH_any (g gw m : Nat) (v : Value) (l : List Ent) (k : Nat) (at_ : Int) (w : World) (h : HpI w g gw m v l) (hk : k < m) :
    Calls Try.prog 57 #[.pointer (some ⟨g, 0, none⟩), .int .i64 (k : Int), .int .i64 at_] w fun en w' => en = .returned (.bool true) ∧ HpPost g gw m v (setE l k at_) w w' := by
  have hc : hasE l k = false → cutE l k = l := fun hno => cutE_none (fun e he e2 => by
    simp only [hasE, List.any_eq_false, beq_iff_eq] at hno
    exact hno e he e2)
  by_cases ha : at_ = neverT
  · have hat : (at_ == 9223372036854775807) = true := by rw [neverB]; simp [ha]
    unfold setE; rw [if_pos ha]
    cases hh : hasE l k
    · rw [hc hh]
      exact (set_none g gw m v l k w h hk hh at_ hat).mono (fun _ _ ⟨h1, h2⟩ => ⟨h1, h.post h2⟩)
    · exact set_gone g gw m v l k w h hk hh at_ hat
  · have hat : (at_ == 9223372036854775807) = false := by rw [neverB]; simp [ha]
    unfold setE; rw [if_neg ha]
    cases hh : hasE l k
    · rw [hc hh]; exact set_new g gw m v l k w h hk hh at_ hat
    · exact set_old g gw m v l k w h hk hh at_ hat

theorem intCells_set2 (l : List Int) (i : Nat) (v : Int) : (intCells l).set i (.int .i64 v) = intCells (l.set i v) := by simp [intCells, List.map_set]
def clampM (most : Int) : Nat := (max (min (max most 1) 1024) 0).toNat
set_option maxRecDepth 20000 in
set_option maxHeartbeats 400000 in
theorem hNew_any (m : Nat) (h1 : 1 ≤ m) (h2 : m ≤ 1024) (w : World) :
    Calls Try.prog 53 #[.int .i64 (m : Int)] w fun e w' => ∃ g gw, e = .returned (.pointer (some ⟨g, 0, none⟩)) ∧ HpI w' g gw m (.slice none 0 0) [] ∧ Below w.heap.size w w' ∧ w.heap.size ≤ g ∧ w.heap.size ≤ gw := by
  go_enter Try.func53, Try.ntmps53
  go_wp2_with (at_make; refine wpList_make1 _ rfl _ _ 84 rfl w.heap.size 3 _ 8 Try.underlying84 Try.infoInt rfl .i64 .i64 _ _ m rfl rfl (by omega) (by omega) (by omega) (by omega) (Nat.le_refl _) ?_)
  intro w1 hown1 hg1
  have hsz1 := hg1.size
  have hwl := hown1.lt w.heap.size rfl
  have HB1 := hid ((Below.refl w.heap.size w).grown hg1 (Nat.le_refl _) (by simp))
  have HR1 : Hid (HpR (w1.alloc (.cells #[.slice none 0 0, .slice (some ⟨w.heap.size, 0, none⟩) m m] 167)) w1.heap.size w.heap.size m (.slice none 0 0) 0 [] (List.replicate 0 (-1) ++ List.replicate (m - 0) 0)) := by
    refine ⟨Blk.new w1 _ _, World.ownsRow_nil _ _ _ _, ?_⟩
    have := (own_base hown1 (Nat.zero_le _)).alloc (.cells #[.slice none 0 0, .slice (some ⟨w.heap.size, 0, none⟩) m m] 167)
    simpa [intCells] using this
  have HB2 : Hid (Below w.heap.size w (w1.alloc (.cells #[.slice none 0 0, .slice (some ⟨w.heap.size, 0, none⟩) m m] 167))) := HB1.out.alloc hsz1 _
  clear hown1 hg1
  go_wp2_with fail
  go_loopw [16] (fun i wr => ∃ (k : Nat), k ≤ m ∧ i = .int .i64 k ∧ HpR wr w1.heap.size w.heap.size m (.slice none 0 0) 0 [] (List.replicate k (-1) ++ List.replicate (m - k) 0) ∧ Below w.heap.size w wr) (fun i _ => m - (intOf i).toNat)
  case atStart => exact ⟨0, by omega, rfl, HR1.out, HB2.out⟩
  case round =>
    obtain ⟨k, hk, rfl, hr, hb⟩ := hrel
    have HB := hid hb
    obtain ⟨f0, f1, f2⟩ := hr.fields
    have hlt0 := hr.blk.lt
    by_cases hlt : k < m
    · have HS := hid (hr.setWh k (-1))
      have HE : Hid ((List.replicate k (-1) ++ List.replicate (m - k) 0 : List Int).set k (-1) = List.replicate (k + 1) (-1) ++ List.replicate (m - (k + 1)) 0) := by
        rw [Hid, List.set_append_right _ _ (by simp), List.length_replicate, Nat.sub_self, show m - k = (m - (k + 1)) + 1 from by omega, List.replicate_succ, List.set_cons_zero, List.replicate_succ']
        simp
      obtain ⟨q1, q2⟩ := hr.cell_wh hlt
      clear hr hb HR1 HB2
      go_wp2_with fail
      go_roundw
      case rel => exact ⟨k + 1, by omega, by go_num, by rw [← HE.out]; exact HS.out, HB.out.setCell (Nat.le_refl _) _⟩
      case measure => simp [intOf]; omega
    · have hkm : k = m := by omega
      subst hkm
      rw [Nat.sub_self, List.replicate_zero, List.append_nil] at hr
      have HI : Hid (HpI wr w1.heap.size w.heap.size k (.slice none 0 0) []) := ⟨0, [], _, hr, heapIs_new k, rfl, by omega, by omega⟩
      clear hr HR1 HB2 hb
      go_wp2_with fail
      go_ret
      exact ⟨_, _, rfl, HI.out, HB.out, by omega, Nat.le_refl _⟩
end Go.Proofs.Ytdbiodofofnpgaa
namespace Go.Proofs.Ytdbiodofofnpgaa
open Go.RowKit

theorem dues_split {now : Int} {done rest : List Ent} (hd : ∀ e ∈ done, dueT e.t now = true) (hr : ∀ x r, rest = x :: r → dueT x.t now = false) : duesE now (done ++ rest) = done ∧ restE now (done ++ rest) = rest := by
  induction done with
  | nil =>
    cases rest with
    | nil => exact ⟨rfl, rfl⟩
    | cons x r =>
      have := hr x r rfl
      simp only [List.nil_append]
      rw [duesE_cons, restE_cons, this]; exact ⟨rfl, rfl⟩
  | cons y d ih =>
    have hy := hd y (by simp)
    obtain ⟨i1, i2⟩ := ih (fun e he => hd e (by simp [he]))
    rw [List.cons_append, duesE_cons, restE_cons, hy, i1, i2]; exact ⟨rfl, rfl⟩

def headT (l : List Ent) : Int := match l with | [] => 0 | x :: _ => x.t
def headI (l : List Ent) : Int := match l with | [] => 0 | x :: _ => (x.id : Int)
theorem minH_any (g gw m : Nat) (v : Value) (l : List Ent) (w : World) (h : HpI w g gw m v l) :
    Calls Try.prog 93 #[.pointer (some ⟨g, 0, none⟩)] w fun e w' => e = .returned (.tuple #[.agg #[.int .i64 (headT l), .int .i64 (headI l)], .bool (!l.isEmpty)]) ∧ Below w.heap.size w w' := by
  cases l with
  | nil => exact minNone_any g gw m v w h
  | cons x r => exact min_any g gw m v x r w h

def sliceLen : Value → Nat
  | .slice _ n _ => n
  | _ => 0

/-- What Due leaves: the heap, and the row of those that are told. -/
def DuePost (g gw m : Nat) (v : Value) (dues rest : List Ent) (A : Option Addr) (c : Nat) (w w' : World) : Prop :=
  ∃ v', HpI w' g gw m v' rest ∧ Keep (HpF g gw v) w w' ∧ (∀ k, v'.ownBlock = some k → v.ownBlock = some k ∨ w.heap.size ≤ k) ∧
    w'.ownsRow w.heap.size 114 2 (.slice A dues.length c) dues.length (entCells dues) ∧ ∀ k, (Value.slice A dues.length c).ownBlock = some k → ¬ HpF g gw v' k

set_option maxRecDepth 20000 in
set_option maxHeartbeats 800000 in
theorem hDue_any (g gw m : Nat) (v : Value) (l : List Ent) (now : Int) (w : World) (h : HpI w g gw m v l) :
    Calls Try.prog 64 #[.pointer (some ⟨g, 0, none⟩), .int .i64 now] w fun e w' => ∃ A c, e = .returned (.slice A (duesE now l).length c) ∧ DuePost g gw m v (duesE now l) (restE now l) A c w w' := by
  have HI := hid h
  have hm : l.length ≤ 1024 := by obtain ⟨n, L, wh, hr, hh, hn, hm, hnm⟩ := h; omega
  clear h
  go_enter Try.func64, Try.ntmps64
  go_wp2_with fail
  refine (minH_any g gw m v l _ HI.out).mono ?_
  rintro en w1 ⟨rfl, hb1⟩
  have HI1 := hid ((HI.out.below hb1).below ((Below.refl _ _).alloc (Nat.le_refl _) (.cells #[.int .i64 (headT l), .int .i64 (headI l)] 114)))
  have hlt1 := fun x hx => HI.out.lt x hx
  have hs1 := hb1.size
  have HK1 : Hid (Keep (HpF g gw v) w (w1.alloc (.cells #[.int .i64 (headT l), .int .i64 (headI l)] 114))) := (Keep.of_below hb1).trans (Keep.alloc (HpF g gw v) w1 _) (fun _ => .inl)
  have HN1 : Hid (∀ x, HpF g gw v x → x < w.heap.size) := hlt1
  have c0 : (w1.alloc (.cells #[.int .i64 (headT l), .int .i64 (headI l)] 114)).cell? ⟨w1.heap.size, 0, none⟩ = some (.int .i64 (headT l)) := (Blk.new w1 _ _).cell 0
  have c1 : (w1.alloc (.cells #[.int .i64 (headT l), .int .i64 (headI l)] 114)).cell? ⟨w1.heap.size, 1, none⟩ = some (.int .i64 (headI l)) := (Blk.new w1 _ _).cell 1
  have HC0 := hid c0
  have HC1 := hid c1
  clear hb1 hlt1 c0 c1
  go_wp2_with fail
  go_loopw [5, 6, 7] (fun o p ok wr => ∃ (done rest : List Ent) (v' : Value) (A : Option Addr) (c b : Nat), Hid (l = done ++ rest ∧ ∀ e ∈ done, dueT e.t now = true) ∧ o = .slice A done.length c ∧ p = .pointer (some ⟨b, 0, none⟩) ∧ ok = .bool (!rest.isEmpty) ∧
      HpI wr g gw m v' rest ∧ Keep (HpF g gw v) w wr ∧ Hid (∀ k, v'.ownBlock = some k → v.ownBlock = some k ∨ w.heap.size ≤ k) ∧ wr.ownsRow w.heap.size 114 2 (.slice A done.length c) done.length (entCells done) ∧
      Hid (∀ k, (Value.slice A done.length c).ownBlock = some k → ¬ HpF g gw v' k ∧ k ≠ b) ∧ w.heap.size ≤ b ∧ b < wr.heap.size ∧ Hid (¬ HpF g gw v' b) ∧
      wr.cell? ⟨b, 0, none⟩ = some (.int .i64 (headT rest)) ∧ wr.cell? ⟨b, 1, none⟩ = some (.int .i64 (headI rest)))
    (fun o _ _ _ => l.length - sliceLen o)
  case atStart => exact ⟨[], l, v, none, 0, w1.heap.size, ⟨rfl, by simp⟩, rfl, rfl, rfl, HI1.out, HK1.out, fun k hk => .inl hk, World.ownsRow_nil _ _ _ _, fun k hk => by simp [Value.ownBlock] at hk, by omega, by simp, fun hf => absurd (HN1.out _ hf) (by omega), HC0.out, HC1.out⟩
  case round =>
    obtain ⟨done, rest, v', A, c, b, HSP, rfl, rfl, rfl, hi, hk, HV, ho, HO, hwb, hb, HB, b0, b1⟩ := hrel
    have HHI := hid hi
    have HK := hid hk
    have HOW := hid ho
    clear HI1 HK1 HC0 HC1 hi hk ho
    cases rest with
    | nil =>
      have HR : Hid (duesE now l = done ∧ restE now l = []) := by
        obtain ⟨h1, h2⟩ := HSP.out
        rw [h1]; exact dues_split h2 (fun x r h => by cases h)
      go_wp2_with fail
      go_ret
      refine ⟨A, c, by rw [HR.out.1]; rfl, ?_⟩
      rw [HR.out.1, HR.out.2]
      exact ⟨v', HHI.out, HK.out, HV.out, HOW.out, fun k hk => (HO.out k hk).1⟩
    | cons x r =>
      simp only [headT, headI] at b0 b1
      have hle : done.length < l.length := by rw [HSP.out.1]; simp
      cases hdue : dueT x.t now
      · have HR : Hid (duesE now l = done ∧ restE now l = x :: r) := by
          obtain ⟨h1, h2⟩ := HSP.out
          rw [h1]; exact dues_split h2 (fun x' r' h => by injection h with h3 _; rw [← h3]; exact hdue)
        go_wp2_with (go_at_call 106; refine (due_any _ _ _).mono ?_; rw [hdue]; rintro en w2 ⟨rfl, rfl⟩)
        go_ret
        refine ⟨A, c, by rw [HR.out.1]; rfl, ?_⟩
        rw [HR.out.1, HR.out.2]
        exact ⟨v', HHI.out, HK.out, HV.out, HOW.out, fun k hk => (HO.out k hk).1⟩
      · have HD := hid hdue
        have HCUT := hid HHI.out.cutHead
        go_wp2_with (first
          | (go_at_call 106; refine (due_any _ _ _).mono ?_; rw [HD.out]; rintro en w2 ⟨rfl, rfl⟩))
        refine HCUT.out.mono ?_
        rintro en w2 ⟨rfl, hp⟩
        obtain ⟨v2, hi2, hk2, hv2⟩ := hp
        have d0 := (hk2.cell (o := 0) hb HB.out).trans b0
        have d1 := (hk2.cell (o := 1) hb HB.out).trans b1
        have hs2 := hk2.size
        have HOW2 := hid (hk2.own HOW.out (fun k hk => (HO.out k hk).1))
        have hb2 : b < w2.heap.size := by omega
        have HI2 := hid hi2
        have HK2 := hid hk2
        have HV2 := hid hv2
        have HLT2 := hid HI2.out.lt
        have hAb : Hid (∀ k, (Value.slice A done.length c).ownBlock = some k → w.heap.size ≤ k ∧ k < wr.heap.size) := HOW.out.lt
        have HO2 : Hid (∀ k, (Value.slice A done.length c).ownBlock = some k → ¬ HpF g gw v2 k) := by
          intro k hk hf
          rcases hf with hf | hf | hf
          · exact (HO.out k hk).1 (.inl hf)
          · exact (HO.out k hk).1 (.inr (.inl hf))
          · rcases HV2.out k hf with h | h
            · exact (HO.out k hk).1 (.inr (.inr h))
            · have := (hAb.out k hk).2; omega
        clear b0 b1 HCUT hi2 hk2 hv2
        have hwb2 : w.heap.size ≤ w2.heap.size := by omega
        go_wp2_with (at_builtin; refine wpList_append1K _ rfl _ _ 104 rfl w.heap.size 114 _ 2 16 Try.underlying104 Try.infoEntry rfl (by decide) _ _ _ rfl HOW2.out 1 x.cells rfl rfl rfl ?_ (by decide) hwb2 ?_)
        · omega
        intro ge c3 w3 hown3 hk3 hf3
        have hs3 := hk3.size
        have f0 := (hk3.cell (o := 0) hb2 (fun h => (HO.out b h).2 rfl)).trans d0
        have f1 := (hk3.cell (o := 1) hb2 (fun h => (HO.out b h).2 rfl)).trans d1
        have HI3 := hid (HI2.out.keep hk3 (fun x hx h => HO2.out x h hx))
        have hgelt : ge < w3.heap.size := (hown3.lt ge rfl).2
        have hgew : w.heap.size ≤ ge := (hown3.lt ge rfl).1
        have HGE : Hid (¬ HpF g gw v2 ge) := by
          rcases hf3 with h | h
          · exact HO2.out ge h
          · exact fun hf => by have := HLT2.out ge hf; omega
        have HK3 : Hid (Keep (HpF g gw v) w w3) := by
          have k2 := HK.out.trans HK2.out (fun k hk => by
            rcases hk with h | h | h
            · exact .inl (.inl h)
            · exact .inl (.inr (.inl h))
            · exact (HV.out k h).imp (fun h => .inr (.inr h)) id)
          exact k2.trans hk3 (fun k hk => .inr (hAb.out k hk).1)
        have HOW3 := hid hown3
        have HI4 := hid (HI3.out.below ((Below.refl _ _).alloc (Nat.le_refl _) (.cells x.cells.toArray 114)))
        have hb3 : b < w3.heap.size := by omega
        clear d0 d1 hown3 hk3 hf3
        go_wp2_with fail
        refine (minH_any g gw m v2 r _ HI4.out).mono ?_
        rintro en w5 ⟨rfl, hb5⟩
        have hs5 := hb5.size
        rw [World.size_alloc] at hs5
        have HB5 : Hid (Below w3.heap.size w3 w5) := ((Below.refl _ _).alloc (Nat.le_refl _) _).trans (hb5.mono (by simp))
        have HI5 := hid (HI4.out.below hb5)
        have g0 : w5.cell? ⟨w3.heap.size, 0, none⟩ = some (.int .i64 x.t) := (hb5.cell (p := ⟨w3.heap.size, 0, none⟩) (by simp)).trans ((Blk.new w3 _ _).cell 0)
        have g1 : w5.cell? ⟨w3.heap.size, 1, none⟩ = some (.int .i64 (x.id : Int)) := (hb5.cell (p := ⟨w3.heap.size, 1, none⟩) (by simp)).trans ((Blk.new w3 _ _).cell 1)
        have g2 := (hb5.frozen (p := ⟨w3.heap.size, 0, none⟩) (by simp)).trans ((Blk.new w3 _ _).frozen 0)
        have g3 := (hb5.frozen (p := ⟨w3.heap.size, 1, none⟩) (by simp)).trans ((Blk.new w3 _ _).frozen 1)
        have HN3 : Hid (¬ HpF g gw v2 w3.heap.size) := fun h => absurd (HI3.out.lt _ h) (Nat.lt_irrefl _)
        have HK6 := hid (keep_box2 w3.heap.size w5 (.int .i64 (headT r)) (.int .i64 (headI r)))
        have HI6 := hid (HI5.out.keep HK6.out (fun x hx h => HN3.out (h ▸ hx)))
        have HOW6 := hid (HK6.out.own (own_below HOW3.out HB5.out) (fun k hk h => by simp only [Value.ownBlock, Option.some.injEq] at hk; omega))
        have HKK : Hid (Keep (HpF g gw v) w ((w5.setCell ⟨w3.heap.size, 0, none⟩ (.int .i64 (headT r))).setCell ⟨w3.heap.size, 1, none⟩ (.int .i64 (headI r)))) :=
          (HK3.out.trans (Keep.of_below (F := HpF g gw v) HB5.out) (fun _ => .inl)).trans HK6.out (fun k hk => .inr (by omega))
        have s0 : ((w5.setCell ⟨w3.heap.size, 0, none⟩ (.int .i64 (headT r))).setCell ⟨w3.heap.size, 1, none⟩ (.int .i64 (headI r))).cell? ⟨w3.heap.size, 0, none⟩ = some (.int .i64 (headT r)) :=
          (World.cell?_setCell_other _ ⟨w3.heap.size, 1, none⟩ ⟨w3.heap.size, 0, none⟩ _ (by simp)).trans (cell_set_same g0)
        have s1 : ((w5.setCell ⟨w3.heap.size, 0, none⟩ (.int .i64 (headT r))).setCell ⟨w3.heap.size, 1, none⟩ (.int .i64 (headI r))).cell? ⟨w3.heap.size, 1, none⟩ = some (.int .i64 (headI r)) :=
          cell_set_same ((World.cell?_setCell_other _ ⟨w3.heap.size, 0, none⟩ ⟨w3.heap.size, 1, none⟩ _ (by simp)).trans g1)
        have HS0 := hid s0
        have HS1 := hid s1
        have HSP2 : Hid (l = (done ++ [x]) ++ r ∧ ∀ e ∈ done ++ [x], dueT e.t now = true) := by
          refine ⟨by rw [HSP.out.1]; simp, fun e he => ?_⟩
          rcases List.mem_append.1 he with h | h
          · exact HSP.out.2 e h
          · rw [List.mem_singleton.1 h]; exact HD.out
        have HVV : Hid (∀ k, v2.ownBlock = some k → v.ownBlock = some k ∨ w.heap.size ≤ k) := by
          intro k hk
          rcases HV2.out k hk with h | h
          · exact HV.out k h
          · right; have := HK.out.size; omega
        have HOW7 : Hid (((w5.setCell ⟨w3.heap.size, 0, none⟩ (.int .i64 (headT r))).setCell ⟨w3.heap.size, 1, none⟩ (.int .i64 (headI r))).ownsRow w.heap.size 114 2 (.slice (some ⟨ge, 0, none⟩) (done ++ [x]).length c3) (done ++ [x]).length (entCells (done ++ [x]))) := by
          have := HOW6.out
          rw [Hid, entCells_append, List.length_append]
          simpa [entCells] using this
        have HOO : Hid (∀ k, (Value.slice (some ⟨ge, 0, none⟩) (done ++ [x]).length c3).ownBlock = some k → ¬ HpF g gw v2 k ∧ k ≠ w3.heap.size) := by
          intro k hk
          simp only [Value.ownBlock, Option.some.injEq] at hk
          subst hk
          exact ⟨HGE.out, by omega⟩
        clear hb5 s0 s1 f0 f1 HI3 HI4 HI5 HOW6 HOW3
        go_wp2_with fail
        go_roundw
        case rel => exact ⟨done ++ [x], r, v2, some ⟨ge, 0, none⟩, c3, w3.heap.size, HSP2, by simp, rfl, rfl, HI6.out, HKK.out, HVV, HOW7.out, HOO, by omega, by simp; omega, HN3, HS0.out, HS1.out⟩
        case measure => simp [sliceLen]; omega
end Go.Proofs.Ytdbiodofofnpgaa
namespace Go.Proofs.Ytdbiodofofnpgaa
open Go.RowKit

theorem Try.eqEnt (x y : Ent) (W : World) : (Op.equalIn 10000 114 (.agg #[.int .i64 x.t, .int .i64 (x.id : Int)]) (.agg #[.int .i64 y.t, .int .i64 (y.id : Int)])).run Try.prog W = .ok (decide (x = y)) W := by
  have u3 := Try.underlying3
  have a3 := Try.isAgg3
  have z3 := Try.sizeOf3
  have u2 := Try.underlying2
  have a2 := Try.isAgg2
  have z2 := Try.sizeOf2
  have hS : Try.prog.underlying 114 = some (.struct (Try.prog.fieldsOf 114)) := by kernel_rfl
  have hp : Try.prog.stoodInHeld 114 = false := by kernel_rfl
  obtain ⟨xt, xi⟩ := x
  obtain ⟨yt, yi⟩ := y
  rw [show (10000 : Nat) = 9999 + 1 from rfl, run_equalIn_agg W 9999 114 _ _ hS hp]
  simp only [Program.fieldsOf, Try.underlying114]
  go_simp
  by_cases h1 : xt = yt <;> by_cases h2 : xi = yi <;> simp [h1, h2] <;> omega

theorem ownR_any (t : Int) (w : World) : Calls Try.prog 97 #[.int .i64 t] w fun e w' => e = .returned (.int .i64 (ownT t)) ∧ w = w' := by
  by_cases h : t < 0
  · have e : ownT t = 0 := by unfold ownT; rw [if_pos h]
    rw [e]
    go_enter Try.func97, Try.ntmps97
    go_wp2
    go_ret
    exact ⟨rfl, rfl⟩
  · have e : ownT t = t := by unfold ownT; rw [if_neg h]
    rw [e]
    go_enter Try.func97, Try.ntmps97
    go_wp2
    go_ret
    exact ⟨rfl, rfl⟩
theorem dueR_any (t now : Int) (w : World) : Calls Try.prog 105 #[.int .i64 t, .int .i64 now] w fun e w' => e = .returned (.bool (dueT t now)) ∧ w = w' := by
  by_cases h : t = 9223372036854775807
  · have e : dueT t now = false := by unfold dueT neverT; simp [h]
    rw [e]
    have hb : (t != 9223372036854775807) = false := by simp [h]
    clear h e
    go_enter Try.func105, Try.ntmps105
    go_wp2
    go_ret
    exact ⟨rfl, rfl⟩
  · have e : dueT t now = decide (ownT t ≤ ownT now) := by unfold dueT neverT; simp [h]
    rw [e]
    have hb : (t != 9223372036854775807) = true := by simp [h]
    clear h e
    go_enter Try.func105, Try.ntmps105
    go_wp2_with (go_at_call 97; refine (ownR_any _ _).mono ?_; rintro e w1 ⟨rfl, rfl⟩)
    go_ret
    exact ⟨rfl, rfl⟩

theorem rd_ent {w : World} {b off : Nat} {l : List Ent} (hc : ∀ j u, (entCells l)[j]? = some u → w.cell? ⟨b, off + j, none⟩ = some u) (k : Nat) (h : k < l.length) :
    w.cell? ⟨b, off + k * 2, none⟩ = some (.int .i64 (eg l k).t) ∧ w.cell? ⟨b, off + k * 2 + 1, none⟩ = some (.int .i64 ((eg l k).id : Int)) := by
  refine ⟨hc (k * 2) _ ((entCells_get l k h 0 (by omega)).trans rfl), ?_⟩
  have := hc (k * 2 + 1) _ ((entCells_get l k h 1 (by omega)).trans rfl)
  rwa [← Nat.add_assoc] at this

def sameE (a b : List Ent) : Bool := decide (a = b)
set_option maxRecDepth 20000 in
set_option maxHeartbeats 400000 in
theorem sameE_any (A B : Option Addr) (n m c d : Nat) (a b : List Ent) (w : World) (ha : a.length = n) (hb : b.length = m) (hn : n ≤ 100000) (hm : m ≤ 100000) (hra : Rd w A (entCells a)) (hrb : Rd w B (entCells b)) :
    Calls Try.prog 63 #[.slice A n c, .slice B m d] w fun e w' => e = .returned (.bool (sameE a b)) ∧ Below w.heap.size w w' := by
  by_cases hnm : n = m
  · subst hnm
    have HA := hid ha; have HB := hid hb
    clear ha hb
    go_enter Try.func63, Try.ntmps63
    go_wp2_with fail
    go_loopw [5] (fun i wr => ∃ k, k ≤ n ∧ i = .int .i64 k ∧ Hid (a.take k = b.take k) ∧ Below w.heap.size w wr) (fun i _ => n - (intOf i).toNat)
    case atStart => exact ⟨0, by omega, rfl, by simp [Hid], Below.refl _ _⟩
    case round =>
      obtain ⟨k, hk, rfl, HT, hbw⟩ := hrel
      have HBW := hid hbw
      by_cases hlt : k < n
      · obtain ⟨p, o1, rfl, hp, hc1⟩ := (hra.below hbw).at (by rw [entCells_length, HA.out]; omega)
        obtain ⟨q, o2, rfl, hq, hc2⟩ := (hrb.below hbw).at (by rw [entCells_length, HB.out]; omega)
        have hka : k < a.length := by rw [HA.out]; exact hlt
        have hkb : k < b.length := by rw [HB.out]; exact hlt
        obtain ⟨x1, x2⟩ := rd_ent hc1 k hka
        obtain ⟨y1, y2⟩ := rd_ent hc2 k hkb
        have HEa : Hid (a.take (k + 1) = a.take k ++ [eg a k]) := by rw [Hid, List.take_succ_eq_append_getElem hka, eg_of hka]
        have HEb : Hid (b.take (k + 1) = b.take k ++ [eg b k]) := by rw [Hid, List.take_succ_eq_append_getElem hkb, eg_of hkb]
        have HX := hid (eg_of hka); have HY := hid (eg_of hkb)
        generalize eg a k = x at *
        generalize eg b k = y at *
        clear hc1 hc2 hra hrb hbw
        by_cases hxy : x = y
        · have heq : ∀ W, (Op.equalIn 10000 114 (.agg #[.int .i64 x.t, .int .i64 (x.id : Int)]) (.agg #[.int .i64 y.t, .int .i64 (y.id : Int)])).run Try.prog W = .ok true W := by
            intro W; rw [Try.eqEnt, decide_eq_true hxy]
          have HXY := hid hxy
          clear hxy
          go_wp2_with fail
          go_quiet (fail)
          go_wp2_with fail
          go_roundw
          case rel => exact ⟨k + 1, by omega, by go_num, by rw [Hid, HEa.out, HEb.out, HT.out, HXY.out], HBW.out.trans ((drewN_below _ _).mono HBW.out.size)⟩
          case measure => simp [intOf]; omega
        · have heq : ∀ W, (Op.equalIn 10000 114 (.agg #[.int .i64 x.t, .int .i64 (x.id : Int)]) (.agg #[.int .i64 y.t, .int .i64 (y.id : Int)])).run Try.prog W = .ok false W := by
            intro W; rw [Try.eqEnt, decide_eq_false hxy]
          have HS : Hid (sameE a b = false) := by
            rw [Hid, sameE, decide_eq_false_iff_not]
            intro e
            subst e
            exact hxy (HX.out.trans HY.out.symm)
          clear hxy
          go_wp2_with fail
          go_quiet (fail)
          go_wp2_with fail
          go_ret
          exact ⟨by rw [HS.out]; rfl, HBW.out.trans ((drewN_below _ _).mono HBW.out.size)⟩
      · have HS : Hid (sameE a b = true) := by
          have h1 := HT.out
          rw [List.take_of_length_le (by rw [HA.out]; omega), List.take_of_length_le (by rw [HB.out]; omega)] at h1
          rw [Hid, sameE, decide_eq_true h1]
        clear hra hrb
        go_wp2_with fail
        go_ret
        exact ⟨by rw [HS.out]; rfl, HBW.out⟩
  · have HS : Hid (sameE a b = false) := by
      rw [Hid, sameE, decide_eq_false_iff_not]; rintro rfl; omega
    have hne : ((n : Int) != (m : Int)) = true := by simp; omega
    clear hra hrb ha hb
    go_enter Try.func63, Try.ntmps63
    go_wp2_with fail
    go_ret
    exact ⟨by rw [HS.out]; rfl, Below.refl _ _⟩

theorem live5_a : setE (setE (setE (setE [] 2 5) 0 5) 1 4) 2 3 = [⟨3, 2⟩, ⟨4, 1⟩, ⟨5, 0⟩] := by decide
theorem live5_b : duesE 4 [⟨3, 2⟩, ⟨4, 1⟩, ⟨5, 0⟩] = [⟨3, 2⟩, ⟨4, 1⟩] := by decide
theorem live5_c : restE 4 [⟨3, 2⟩, ⟨4, 1⟩, ⟨5, 0⟩] = [⟨5, 0⟩] := by decide

set_option maxRecDepth 20000 in
set_option maxHeartbeats 800000 in
theorem lives5_any (w : World) : Calls Try.prog 65 #[] w fun e w' => e = .returned (.bool true) ∧ Below w.heap.size w w' := by
  go_enter Try.func65, Try.ntmps65
  go_wp2_with fail
  refine (hNew_any 3 (by omega) (by omega) _).mono ?_
  rintro e w1 ⟨g, gw, rfl, hi1, hb1, hg, hgw⟩
  have HB1 := hid hb1
  have F1 : Hid (∀ k, HpF g gw (.slice none 0 0) k → w.heap.size ≤ k) := by
    rintro k (h | h | h)
    · omega
    · omega
    · simp [Value.ownBlock] at h
  have C1 := hid (setH_any g gw 3 _ _ 2 5 w1 hi1 (by omega))
  clear hi1 hb1
  go_wp2_with fail
  refine C1.out.mono ?_
  rintro e w2 ⟨rfl, hp2⟩
  obtain ⟨b2, v2, hi2, f2⟩ := hp2.lower HB1.out.size F1.out
  have HB2 := hid (HB1.out.trans b2); have F2 := hid f2
  have C2 := hid (setH_any g gw 3 _ _ 0 5 w2 hi2 (by omega))
  clear hi2 b2 f2 hp2 C1
  go_wp2_with fail
  refine C2.out.mono ?_
  rintro e w3 ⟨rfl, hp3⟩
  obtain ⟨b3, v3, hi3, f3⟩ := hp3.lower HB2.out.size F2.out
  have HB3 := hid (HB2.out.trans b3); have F3 := hid f3
  have C3 := hid (setH_any g gw 3 _ _ 1 4 w3 hi3 (by omega))
  clear hi3 b3 f3 hp3 C2
  go_wp2_with fail
  refine C3.out.mono ?_
  rintro e w4 ⟨rfl, hp4⟩
  obtain ⟨b4, v4, hi4, f4⟩ := hp4.lower HB3.out.size F3.out
  have HB4 := hid (HB3.out.trans b4); have F4 := hid f4
  have C4 := hid (setH_any g gw 3 _ _ 2 3 w4 hi4 (by omega))
  clear hi4 b4 f4 hp4 C3
  go_wp2_with fail
  refine C4.out.mono ?_
  rintro e w5 ⟨rfl, hp5⟩
  rw [live5_a] at hp5
  obtain ⟨b5, v5, hi5, f5⟩ := hp5.lower HB4.out.size F4.out
  have HB5 := hid (HB4.out.trans b5); have F5 := hid f5
  have C5 := hid (hDue_any g gw 3 _ _ 4 w5 hi5)
  rw [live5_b, live5_c] at C5
  clear hi5 b5 f5 hp5 C4
  go_wp2_with fail
  refine C5.out.mono ?_
  rintro e w6 ⟨A, c, he, v6, hi6, hk6, hv6, ho6, hd6⟩
  have he2 : e = .returned (.slice A 2 c) := he
  subst he2
  have HB6 := hid (HB5.out.trans (hk6.below HB5.out.size F5.out))
  have HR6 : Hid (Rd w6 A (entCells [⟨3, 2⟩, ⟨4, 1⟩])) := Rd_of_own ho6
  have HI6 := hid hi6
  have C6 := hid (sameE_any A (some ⟨w6.heap.size, 0, none⟩) 2 2 c 2 [⟨3, 2⟩, ⟨4, 1⟩] [⟨3, 2⟩, ⟨4, 1⟩] (w6.alloc (.cells #[.int .i64 3, .int .i64 2, .int .i64 4, .int .i64 1] 114)) rfl rfl (by omega) (by omega)
    (HR6.out.below ((Below.refl _ _).alloc (Nat.le_refl _) _)) (Rd_lit w6 _ _))
  rw [show sameE [⟨3, 2⟩, ⟨4, 1⟩] [⟨3, 2⟩, ⟨4, 1⟩] = true from by decide] at C6
  clear hi6 hk6 hv6 ho6 hd6 C5 he
  go_wp2_with fail
  refine C6.out.mono ?_
  rintro e w7 ⟨rfl, hb7⟩
  have HB7 : Hid (Below w6.heap.size w6 w7) := ((Below.refl _ _).alloc (Nat.le_refl _) _).trans (hb7.mono (by simp))
  have C7 := hid (len_any g gw 3 _ _ w7 (HI6.out.below HB7.out))
  clear hb7 C6
  go_wp2_with fail
  refine C7.out.mono ?_
  rintro e w8 ⟨rfl, rfl⟩
  go_wp2_with fail
  go_ret
  exact ⟨rfl, HB6.out.trans (HB7.out.mono HB6.out.size)⟩
end Go.Proofs.Ytdbiodofofnpgaa
namespace Go.Proofs.Ytdbiodofofnpgaa
open Go.RowKit

def cutZ (l : List Ent) (id : Int) : List Ent := l.filter fun e => (e.id : Int) != id
theorem cutZ_nat (l : List Ent) (k : Nat) : cutZ l (k : Int) = cutE l k := by
  unfold cutZ cutE; congr 1; funext e
  rw [Bool.eq_iff_iff]; simp; omega
theorem cutZ_le (l : List Ent) (id : Int) : (cutZ l id).length ≤ l.length := List.length_filter_le _ _

set_option maxRecDepth 20000 in
set_option maxHeartbeats 400000 in
theorem cutR_any (A : Option Addr) (n c : Nat) (l : List Ent) (id : Int) (w : World) (hl : l.length = n) (hn : n ≤ 100000) (hr : Rd w A (entCells l)) :
    Calls Try.prog 60 #[.slice A n c, .int .i64 id] w fun e w' => ∃ g c', e = .returned (.slice (some ⟨g, 0, none⟩) (cutZ l id).length c') ∧
      w'.ownsRow w.heap.size 114 2 (.slice (some ⟨g, 0, none⟩) (cutZ l id).length c') (cutZ l id).length (entCells (cutZ l id)) ∧ Below w.heap.size w w' := by
  have HL := hid hl; clear hl
  go_enter Try.func60, Try.ntmps60
  go_wp2
  go_loopw [5, 6] (fun v i wr => ∃ (k g c' m : Nat), k ≤ n ∧ i = .int .i64 k ∧ v = .slice (some ⟨g, 0, none⟩) m c' ∧ Hid (m = (cutZ (l.take k) id).length) ∧ m ≤ k ∧ wr.ownsRow w.heap.size 114 2 (.slice (some ⟨g, 0, none⟩) m c') m (entCells (cutZ (l.take k) id)) ∧ Below w.heap.size w wr) (fun _ i _ => n - (intOf i).toNat)
  case atStart => exact ⟨0, _, _, 0, by omega, rfl, rfl, rfl, by omega, World.ownsRow_made _ _ _ (Nat.le_refl _) (by simp [maxLen]) (by simp), (Below.refl _ _).alloc (Nat.le_refl _) _⟩
  case round =>
    obtain ⟨k, A', c', m, hk, rfl, rfl, HM, hmk, hown, hb⟩ := hrel
    have hsz := hb.size
    have HB := hid hb
    by_cases hlt : k < n
    · obtain ⟨b, off, rfl, hbl, hc⟩ := (hr.below hb).at (by rw [entCells_length, HL.out]; omega)
      have hkl : k < l.length := by rw [HL.out]; exact hlt
      obtain ⟨x1, x2⟩ := rd_ent hc k hkl
      have HT : Hid (cutZ (l.take (k + 1)) id = cutZ (l.take k) id ++ (if (eg l k).id != id then [eg l k] else [])) := by
        rw [Hid, List.take_succ_eq_append_getElem hkl, ← eg_of hkl]
        unfold cutZ; rw [List.filter_append]
        congr 1
        by_cases h : ((eg l k).id : Int) != id <;> simp [h]
      generalize eg l k = x at *
      clear hc hr hb
      by_cases hx : (x.id : Int) = id
      · have hx1 : ((x.id : Int) != id) = false := by simp [hx]
        have HT2 : Hid (cutZ (l.take (k + 1)) id = cutZ (l.take k) id) := by rw [Hid, HT.out, hx1]; simp
        have HO := hid hown
        clear hx HT hown
        go_wp2_with fail
        go_roundw
        case rel => exact ⟨k + 1, A', c', m, by omega, by go_num, rfl, by rw [Hid, HT2.out]; exact HM.out, by omega, by rw [HT2.out]; exact HO.out, HB.out⟩
        case measure => simp [intOf]; omega
      · have hx1 : ((x.id : Int) != id) = true := by simp [hx]
        have HT2 : Hid (cutZ (l.take (k + 1)) id = cutZ (l.take k) id ++ [x]) := by rw [Hid, HT.out, hx1]; simp
        clear hx HT
        go_wp2_with (at_builtin; refine wpList_append1g _ rfl _ _ 104 rfl w.heap.size 114 _ 2 16 Try.underlying104 Try.infoEntry rfl (by decide) _ _ _ rfl hown 1 (Ent.cells x) rfl rfl rfl ?_ (by decide) hsz ?_)
        · omega
        intro A2 d2 w1 hown1 hg1
        have hb1 := below_grown HB.out hown hg1 (Nat.le_refl _) hsz
        have HO1 : Hid (w1.ownsRow w.heap.size 114 2 (.slice (some ⟨A2, 0, none⟩) (m + 1) d2) (m + 1) (entCells (cutZ (l.take (k + 1)) id))) := by
          rw [Hid, HT2.out, entCells_append]; simpa [entCells] using hown1
        clear hown HB x1 x2 hg1 hown1
        go_wp2_with fail
        go_roundw
        case rel => exact ⟨k + 1, A2, d2, m + 1, by omega, by go_num, rfl, by rw [Hid, HT2.out, List.length_append, ← HM.out]; rfl, by omega, HO1.out, hb1⟩
        case measure => simp [intOf]; omega
    · have e : l.take k = l := List.take_of_length_le (by rw [HL.out]; omega)
      rw [e] at HM hown
      obtain rfl := HM.out
      have HO := hid hown
      clear hown hr hb
      go_wp2_with fail
      go_ret
      exact ⟨A', c', rfl, HO.out, HB.out⟩

def ltE (a b : Ent) : Bool := decide (a.lt b)
set_option maxRecDepth 20000 in
set_option maxHeartbeats 400000 in
theorem before_any (a b : Ent) (w : World) :
    Calls Try.prog 98 #[.agg #[.int .i64 a.t, .int .i64 (a.id : Int)], .agg #[.int .i64 b.t, .int .i64 (b.id : Int)]] w fun e w' => e = .returned (.bool (ltE a b)) ∧ Below w.heap.size w w' := by
  obtain ⟨ta, ia⟩ := a
  obtain ⟨tb, ib⟩ := b
  have HB : Hid (∀ o1 o2, Below w.heap.size w ((w.alloc o1).alloc o2)) := fun o1 o2 => ((Below.refl _ _).alloc (Nat.le_refl _) _).alloc (by simp) _
  by_cases h1 : ta < tb
  · have HE : Hid (ltE ⟨ta, ia⟩ ⟨tb, ib⟩ = true) := decide_eq_true (Or.inl h1)
    go_enter Try.func98, Try.ntmps98
    go_wp2_with fail
    go_ret
    exact ⟨by rw [HE.out]; rfl, HB.out _ _⟩
  · have h1d : decide (ta < tb) = false := decide_eq_false h1
    by_cases h2 : ta = tb
    · have h2d : (ta == tb) = true := by simp [h2]
      have HE : Hid (ltE ⟨ta, ia⟩ ⟨tb, ib⟩ = decide (ia < ib)) := decide_eq_decide.2 ⟨fun h => by rcases h with h | h; exact absurd h h1; exact h.2, fun h => Or.inr ⟨h2, h⟩⟩
      clear h2 h1
      by_cases h3 : ia < ib
      · have h3d : decide (ia < ib) = true := decide_eq_true h3
        go_enter Try.func98, Try.ntmps98
        go_wp2_with fail
        go_ret
        exact ⟨by rw [HE.out, h3d]; rfl, HB.out _ _⟩
      · have h3d : decide (ia < ib) = false := decide_eq_false h3
        go_enter Try.func98, Try.ntmps98
        go_wp2_with fail
        go_ret
        exact ⟨by rw [HE.out, h3d]; rfl, HB.out _ _⟩
    · have h2d : (ta == tb) = false := by simp [h2]
      have HE : Hid (ltE ⟨ta, ia⟩ ⟨tb, ib⟩ = false) := decide_eq_false (fun h => by rcases h with h | h; exact h1 h; exact h2 h.1)
      clear h2 h1
      go_enter Try.func98, Try.ntmps98
      go_wp2_with fail
      go_ret
      exact ⟨by rw [HE.out]; rfl, HB.out _ _⟩

theorem insE_at (x : Ent) (l : List Ent) (k : Nat) (hk : k ≤ l.length) (h1 : ∀ j, j < k → (eg l j).lt x) (h2 : k < l.length → ¬ (eg l k).lt x) : insE x l = l.take k ++ x :: l.drop k := by
  induction l generalizing k with
  | nil => simp at hk; subst hk; rfl
  | cons y l ih =>
    cases k with
    | zero =>
      have := h2 (by simp)
      simp only [eg, List.getD_cons_zero] at this
      unfold insE; rw [if_neg this]; rfl
    | succ k =>
      have h0 := h1 0 (by omega)
      simp only [eg, List.getD_cons_zero] at h0
      unfold insE; rw [if_pos h0, List.take_succ_cons, List.drop_succ_cons, List.cons_append]
      rw [ih k (by simpa using hk) (fun j hj => by have := h1 (j + 1) (by omega); simpa [eg] using this) (fun hkl => by have := h2 (by simpa using hkl); simpa [eg] using this)]
end Go.Proofs.Ytdbiodofofnpgaa
namespace Go.Proofs.Ytdbiodofofnpgaa
open Go.RowKit

theorem addr_add (b o j : Nat) : ((⟨b, o, none⟩ : Addr).add j) = ⟨b, o + j, none⟩ := by unfold Addr.add; split <;> simp_all
theorem x_below {W V : World} {bx : Nat} {cs : List Value} (K : Below W.heap.size W V) (h : bx < W.heap.size) (X : ∀ j u, cs[j]? = some u → W.cell? ((⟨bx, 0, none⟩ : Addr).add j) = some u) : ∀ j u, cs[j]? = some u → V.cell? ((⟨bx, 0, none⟩ : Addr).add j) = some u := by
  intro j u hu
  have := X j u hu
  rw [addr_add] at this ⊢
  exact (K.cell (p := ⟨bx, 0 + j, none⟩) h).trans this
theorem x_keep {F : Nat → Prop} {W V : World} {bx : Nat} {cs : List Value} (K : Keep F W V) (h : bx < W.heap.size) (hf : ¬ F bx) (X : ∀ j u, cs[j]? = some u → W.cell? ((⟨bx, 0, none⟩ : Addr).add j) = some u) : ∀ j u, cs[j]? = some u → V.cell? ((⟨bx, 0, none⟩ : Addr).add j) = some u := by
  intro j u hu
  have := X j u hu
  rw [addr_add] at this ⊢
  exact (K.cell (o := 0 + j) h hf).trans this
theorem entCells_one (l : List Ent) : ∀ u ∈ entCells l, u.oneCell' = true := by
  intro u hu
  obtain ⟨x, _, hx⟩ := List.mem_flatMap.1 hu
  simp only [Ent.cells, List.mem_cons, List.not_mem_nil, or_false] at hx
  rcases hx with rfl | rfl <;> rfl
theorem entCells_drop (l : List Ent) (k : Nat) : entCells (l.drop k) = (entCells l).drop (k * 2) := by
  induction l generalizing k with
  | nil => simp [entCells]
  | cons x l ih =>
    cases k with
    | zero => rfl
    | succ k =>
      rw [List.drop_succ_cons, show entCells (x :: l) = .int .i64 x.t :: .int .i64 (x.id : Int) :: entCells l from rfl, show (k + 1) * 2 = k * 2 + 1 + 1 from by omega, ih k]
      simp only [List.drop_succ_cons]
theorem fin_row {V : World} {B B' m : Nat} {v : Value} {xs : List Value} {L : List Ent} (h : V.ownsRow B 114 2 v m xs) (hB : B' ≤ B) (hx : xs = entCells L) : V.ownsRow B' 114 2 v L.length (entCells L) := by
  have h1 := h.1
  rw [hx, entCells_length] at h1
  obtain rfl : L.length = m := by omega
  rw [← hx]; exact own_base h hB
theorem ent_take_cells {W : World} {B n c g1 : Nat} {L1 : List Ent} (h : W.ownsRow B 114 2 (.slice (some ⟨g1, 0, none⟩) n c) n (entCells L1)) (i : Nat) : ∀ j u, (entCells (L1.take i))[j]? = some u → W.cell? ((⟨g1, 0, none⟩ : Addr).add j) = some u := by
  intro j u hu
  rw [entCells_take, List.getElem?_take] at hu
  split at hu
  · exact h.cells (g := g1) rfl j u hu
  · cases hu
theorem ent_drop_cells {W : World} {B n c g1 : Nat} {L1 : List Ent} (h : W.ownsRow B 114 2 (.slice (some ⟨g1, 0, none⟩) n c) n (entCells L1)) (i : Nat) : ∀ j u, (entCells (L1.drop i))[j]? = some u → W.cell? ((⟨g1, i * 2, none⟩ : Addr).add j) = some u := by
  intro j u hu
  rw [entCells_drop, List.getElem?_drop] at hu
  have := h.cells (g := g1) rfl _ u hu
  rw [addr_add] at this ⊢
  rwa [Nat.zero_add] at this

set_option maxRecDepth 20000 in
set_option maxHeartbeats 400000 in
theorem setR_never (A : Option Addr) (n c : Nat) (l : List Ent) (most k : Nat) (at_ : Int) (w : World) (hl : l.length = n) (hn : n ≤ 100000) (hr : Rd w A (entCells l)) (hk : k < most) (hat : (at_ == 9223372036854775807) = true) :
    Calls Try.prog 56 #[.slice A n c, .int .i64 (most : Int), .int .i64 (k : Int), .int .i64 at_] w fun e w' => ∃ v, e = .returned (.tuple #[v, .bool true]) ∧ w'.ownsRow w.heap.size 114 2 v (cutE l k).length (entCells (cutE l k)) ∧ Below w.heap.size w w' := by
  have HC := hid (cutR_any A n c l (k : Int) w hl hn hr)
  rw [cutZ_nat] at HC
  have hkm : decide (most ≤ k) = false := by simp; omega
  clear hl hr
  go_enter Try.func56, Try.ntmps56
  go_wp2_with fail
  refine HC.out.mono ?_
  rintro e w1 ⟨g1, c1, rfl, ho, hb⟩
  have HO := hid ho; have HB := hid hb
  clear ho hb HC
  go_wp2_with fail
  go_ret2
  exact ⟨_, rfl, HO.out, HB.out⟩

set_option maxRecDepth 20000 in
set_option maxHeartbeats 4000000 in
theorem setR_some (A : Option Addr) (n c : Nat) (l : List Ent) (most k : Nat) (at_ : Int) (w : World) (hl : l.length = n) (hn : n ≤ 100000) (hr : Rd w A (entCells l)) (hk : k < most) (hat : (at_ == 9223372036854775807) = false) :
    Calls Try.prog 56 #[.slice A n c, .int .i64 (most : Int), .int .i64 (k : Int), .int .i64 at_] w fun e w' => ∃ v, e = .returned (.tuple #[v, .bool true]) ∧ w'.ownsRow w.heap.size 114 2 v (insE ⟨ownT at_, k⟩ (cutE l k)).length (entCells (insE ⟨ownT at_, k⟩ (cutE l k))) ∧ Below w.heap.size w w' := by
  have HC := hid (cutR_any A n c l (k : Int) w hl hn hr)
  rw [cutZ_nat] at HC
  have hkm : decide (most ≤ k) = false := by simp; omega
  have hle : (cutE l k).length ≤ n := by rw [← hl]; exact List.length_filter_le _ _
  obtain ⟨L1, hL1⟩ : ∃ L1, cutE l k = L1 := ⟨_, rfl⟩
  obtain ⟨n1, hn1⟩ : ∃ n1, L1.length = n1 := ⟨_, rfl⟩
  obtain ⟨tx, htx⟩ : ∃ tx : Int, ownT at_ = tx := ⟨_, rfl⟩
  rw [hL1, hn1] at HC hle
  rw [hL1, htx]
  have HTX := hid htx
  have HN1 := hid hn1
  clear hl hr hL1 hn1 htx
  go_enter Try.func56, Try.ntmps56
  go_wp2_with fail
  refine HC.out.mono ?_
  rintro e w1 ⟨g1, c1, rfl, ho, hb⟩
  have hc1 : n1 ≤ c1 := by
    rcases ho.2 with ⟨hv, _⟩ | ⟨_, _, _, hv, _, _, hnc, _⟩
    · injection hv with h1 _ _; cases h1
    · injection hv with _ _ h3; omega
  have HO1 := hid ho; have HB1 := hid hb
  have hg1 := (ho.lt g1 rfl)
  clear ho hb HC
  have hs1 := HB1.out.size
  have HW2 := hid (show Below w1.heap.size w1 (w1.alloc (.cells (Ent.cells ⟨tx, k⟩).toArray 114)) from (Below.refl _ _).alloc (Nat.le_refl _) _)
  go_wp2_with (go_at_call 97; refine (ownR_any _ _).mono ?_; rw [HTX.out]; rintro e w2 ⟨rfl, rfl⟩)
  go_loopw [11] (fun iv wr => ∃ i : Nat, i ≤ n1 ∧ iv = .int .i64 (i : Int) ∧ Hid (∀ j, j < i → (eg L1 j).lt ⟨tx, k⟩) ∧ Below w1.heap.size w1 wr ∧ wr.cell? ⟨w1.heap.size, 0, none⟩ = some (.int .i64 tx) ∧ wr.cell? ⟨w1.heap.size, 1, none⟩ = some (.int .i64 (k : Int)) ∧ w1.heap.size < wr.heap.size) (fun iv _ => n1 - (intOf iv).toNat)
  case atStart => exact ⟨0, by omega, rfl, fun j hj => by omega, HW2.out, by go_simp, by go_simp, by simp⟩
  case round =>
    obtain ⟨i, hi, rfl, HJ, hbr, b0, b1, hlr⟩ := hrel
    have HBR := hid hbr
    clear hbr HW2
    have HO2 := hid (own_below HO1.out HBR.out)
    by_cases hin : i < n1
    · have hiL : i < L1.length := by rw [HN1.out]; exact hin
      have e1 := (HO2.out.cellAt (i * 2) (by omega)).trans (entCells_get L1 i hiL 0 (by omega))
      have e2 := (HO2.out.cellAt (i * 2 + 1) (by omega)).trans (entCells_get L1 i hiL 1 (by omega))
      obtain ⟨y, hy⟩ : ∃ y, eg L1 i = y := ⟨_, rfl⟩
      rw [hy] at e1 e2
      have e1' : wr.cell? ⟨g1, i * 2, none⟩ = some (.int .i64 y.t) := e1
      have e2' : wr.cell? ⟨g1, i * 2 + 1, none⟩ = some (.int .i64 (y.id : Int)) := e2
      have HY := hid hy
      clear e1 e2 hy hiL
      have hg1r : g1 < wr.heap.size := by have := HBR.out.size; omega
      have hinD : decide (i < n1) = true := decide_eq_true hin
      go_wp2_with fail
      refine wp_region_tail 10 (by kernel_rfl) (by kernel_rfl) ?_
      simp only [List.take_succ_cons, List.take_zero, List.drop_succ_cons, List.drop_zero]
      repeat still_step
      refine wpStill_nil ?_
      go_wp2_with fail
      refine (before_any y ⟨tx, k⟩ _).mono ?_
      rintro e w9 ⟨rfl, hb9⟩
      have hb9' := below_drewN hb9
      have x09 := (hb9'.cell (p := ⟨w1.heap.size, 0, none⟩) hlr).trans b0
      have x19 := (hb9'.cell (p := ⟨w1.heap.size, 1, none⟩) hlr).trans b1
      have hbx : w1.heap.size < w9.heap.size := Nat.lt_of_lt_of_le hlr hb9'.size
      have HB19 := hid (HBR.out.trans (hb9'.mono HBR.out.size))
      have HB9 := hid (HB1.out.trans (HB19.out.mono HB1.out.size))
      have HO9 := hid (own_below HO2.out hb9')
      clear hb9 hb9' b0 b1 e1' e2'
      by_cases hlt : y.lt ⟨tx, k⟩
      · have hLT : ltE y ⟨tx, k⟩ = true := decide_eq_true hlt
        have HLT := hid (show (eg L1 i).lt ⟨tx, k⟩ from by rw [HY.out]; exact hlt)
        rw [hLT]
        clear hlt hLT
        go_wp2_with fail
        go_roundw
        case rel => exact ⟨i + 1, by omega, by go_num, fun j hj => by
          by_cases e : j = i
          · rw [e]; exact HLT.out
          · exact HJ.out j (by omega), HB19.out, x09, x19, hbx⟩
        case measure => simp [intOf]; omega
      · have hLT : ltE y ⟨tx, k⟩ = false := decide_eq_false hlt
        have HINS : Hid (insE ⟨tx, k⟩ L1 = L1.take i ++ ⟨tx, k⟩ :: L1.drop i) := insE_at ⟨tx, k⟩ L1 i (by have := HN1.out; omega) HJ.out (fun _ => by rw [HY.out]; exact hlt)
        rw [hLT]
        clear hlt hLT
        have hic : i ≤ c1 := by omega
        go_wp2_with fail
        refine wp_region_ord (.val 1 (.val 2 (.val 3 (.val 8 (.val 9 (.val 10 (.two 0 (.two 4 (.op 5 (.op 6 (.op 7 (.op 11 (.val 12 (.val 13 (.nil))))))) 5 (.two 4 (.op 6 (.op 7 (.op 11 (.val 12 (.val 13 (.nil)))))) 6 (.op 4 (.op 7 (.op 11 (.val 12 (.val 13 (.nil)))))))) 5 (.two 0 (.two 4 (.op 6 (.op 7 (.op 11 (.val 12 (.val 13 (.nil)))))) 6 (.op 4 (.op 7 (.op 11 (.val 12 (.val 13 (.nil))))))) 6 (.op 0 (.op 4 (.op 7 (.op 11 (.val 12 (.val 13 (.nil))))))))))))))) (by kernel_rfl) (by kernel_rfl) ?_
        obtain ⟨wd, hwd⟩ : ∃ q, w9.drewN 1 = q := ⟨_, rfl⟩
        have HBd : Hid (Below w9.heap.size w9 wd) := by rw [← hwd]; exact drewN_below _ 1
        have hzd : w9.heap.size ≤ wd.heap.size := HBd.out.size
        rw [hwd]
        clear hwd
        have HOd := hid (own_below HO9.out HBd.out)
        have x0d := (HBd.out.cell (p := ⟨w1.heap.size, 0, none⟩) hbx).trans x09
        have x1d := (HBd.out.cell (p := ⟨w1.heap.size, 1, none⟩) hbx).trans x19
        clear x09 x19
        have hz9 := HB9.out.size
        have hbxd : w1.heap.size < wd.heap.size := by omega
        repeat (refine wpOrd_val rfl ?_; go_big_quiet_step (fail); refine wpQuiet_nil ?_)
        refine wpOrd_two rfl rfl ?_ ?_
        · go_wp2_with fail
          obtain ⟨v1, hw⟩ : ∃ q, wd.alloc (.cells #[] 114) = q := ⟨_, rfl⟩
          have K1 := hid (show Below wd.heap.size wd v1 from by rw [← hw]; exact (Below.refl _ _).alloc (Nat.le_refl _) _)
          have Z1 : wd.heap.size < v1.heap.size := by rw [← hw]; simp
          have R1 := hid (show v1.ownsRow wd.heap.size 114 2 (.slice (some ⟨wd.heap.size, 0, none⟩) 0 0) 0 [] from by rw [← hw]; exact World.ownsRow_made _ _ _ ((Below.refl wd.heap.size wd)).size (by simp [maxLen]) (by simp))
          first | rw [hw] | (simp only [Ent.cells] at hw; rw [hw])
          clear hw
          have T1 := hid (((Below.refl wd.heap.size wd)).trans (K1.out.mono ((Below.refl wd.heap.size wd)).size))
          refine wpOrd_two rfl rfl ?_ ?_
          · have A2 := hid (ent_take_cells (own_below HOd.out T1.out) i)
            go_wp2_with (at_builtin; refine wpList_appendK _ rfl _ _ 104 rfl wd.heap.size 114 _ 2 16 Try.underlying104 Try.infoEntry rfl (by decide) _ _ _ rfl R1.out ⟨g1, 0, none⟩ i c1 (entCells (L1.take i)) (by go_simp) (by rw [entCells_length, List.length_take]; have := HN1.out; omega) A2.out (entCells_one _) (by omega) (by decide) (T1.out).size ?_)
            intro B2 d2 v2 o2 k2 f2
            have T2 := hid ((T1.out).trans (k2.below (B := wd.heap.size) (T1.out).size (fun q h => (World.ownsRow.lt R1.out q h).1)))
            have R2 := hid o2
            clear o2 k2 f2
            refine wpOrd_op rfl ?_
            have y0 := ((T2.out).cell (p := ⟨w1.heap.size, 0, none⟩) hbxd).trans x0d
            have y1 := ((T2.out).cell (p := ⟨w1.heap.size, 1, none⟩) hbxd).trans x1d
            go_wp2_with fail
            refine wpOrd_op rfl ?_
            go_wp2_with fail
            obtain ⟨v4, hw⟩ : ∃ q, v2.alloc (.cells (Ent.cells ⟨tx, k⟩).toArray 114) = q := ⟨_, rfl⟩
            have K4 := hid (show Below v2.heap.size v2 v4 from by rw [← hw]; exact (Below.refl _ _).alloc (Nat.le_refl _) _)
            have Z4 : v2.heap.size < v4.heap.size := by rw [← hw]; simp
            have X4 := hid (show ∀ j u, (Ent.cells ⟨tx, k⟩)[j]? = some u → v4.cell? ((⟨v2.heap.size, 0, none⟩ : Addr).add j) = some u from by rw [← hw]; exact cells_new)
            first | rw [hw] | (simp only [Ent.cells] at hw; rw [hw])
            clear hw
            have T4 := hid ((T2.out).trans (K4.out.mono (T2.out).size))
            have R4 := hid (own_below R2.out K4.out)
            refine wpOrd_op rfl ?_
            go_wp2_with (at_builtin; refine wpList_appendK _ rfl _ _ 104 rfl wd.heap.size 114 _ 2 16 Try.underlying104 Try.infoEntry rfl (by decide) _ _ _ rfl R4.out ⟨v2.heap.size, 0, none⟩ 1 1 (Ent.cells ⟨tx, k⟩) (by go_simp) rfl X4.out (by intro u hu; simp [Ent.cells] at hu; rcases hu with rfl | rfl <;> rfl) (by omega) (by decide) (T4.out).size ?_)
            intro B5 d5 v5 o5 k5 f5
            have T5 := hid ((T4.out).trans (k5.below (B := wd.heap.size) (T4.out).size (fun q h => (World.ownsRow.lt R4.out q h).1)))
            have R5 := hid o5
            clear o5 k5 f5
            refine wpOrd_op rfl ?_
            have A6 := hid (ent_drop_cells (own_below HOd.out T5.out) i)
            go_wp2_with (at_builtin; refine wpList_appendK _ rfl _ _ 104 rfl wd.heap.size 114 _ 2 16 Try.underlying104 Try.infoEntry rfl (by decide) _ _ _ rfl R5.out ⟨g1, i * 2, none⟩ (n1 - i) (c1 - i) (entCells (L1.drop i)) (by go_simp) (by rw [entCells_length, List.length_drop, HN1.out]) A6.out (entCells_one _) (by omega) (by decide) (T5.out).size ?_)
            intro B6 d6 v6 o6 k6 f6
            have T6 := hid ((T5.out).trans (k6.below (B := wd.heap.size) (T5.out).size (fun q h => (World.ownsRow.lt R5.out q h).1)))
            have R6 := hid o6
            clear o6 k6 f6
            repeat (refine wpOrd_val rfl ?_; go_big_quiet_step (fail); refine wpQuiet_nil ?_)
            refine wpOrd_nil ?_
            have HX : Hid (∀ xs, xs = entCells (L1.take i) ++ ((Ent.cells ⟨tx, k⟩) ++ entCells (L1.drop i)) → xs = entCells (insE ⟨tx, k⟩ L1)) := by
              intro xs h
              rw [h, HINS.out, entCells_append]; simp [entCells]
            have HBF := hid (HB9.out.trans ((HBd.out.trans (T6.out.mono hzd)).mono HB9.out.size))
            have HLE : Hid (w.heap.size ≤ wd.heap.size) := by rw [Hid]; omega
            go_wp2_with fail
            go_ret2
            exact ⟨_, rfl, fin_row R6.out HLE.out (HX.out _ (by simp [entCells])), HBF.out⟩
          · have y0 := ((T1.out).cell (p := ⟨w1.heap.size, 0, none⟩) hbxd).trans x0d
            have y1 := ((T1.out).cell (p := ⟨w1.heap.size, 1, none⟩) hbxd).trans x1d
            go_wp2_with fail
            refine wpOrd_two rfl rfl ?_ ?_
            · have A3 := hid (ent_take_cells (own_below HOd.out T1.out) i)
              go_wp2_with (at_builtin; refine wpList_appendK _ rfl _ _ 104 rfl wd.heap.size 114 _ 2 16 Try.underlying104 Try.infoEntry rfl (by decide) _ _ _ rfl R1.out ⟨g1, 0, none⟩ i c1 (entCells (L1.take i)) (by go_simp) (by rw [entCells_length, List.length_take]; have := HN1.out; omega) A3.out (entCells_one _) (by omega) (by decide) (T1.out).size ?_)
              intro B3 d3 v3 o3 k3 f3
              have T3 := hid ((T1.out).trans (k3.below (B := wd.heap.size) (T1.out).size (fun q h => (World.ownsRow.lt R1.out q h).1)))
              have R3 := hid o3
              clear o3 k3 f3
              refine wpOrd_op rfl ?_
              go_wp2_with fail
              obtain ⟨v4, hw⟩ : ∃ q, v3.alloc (.cells (Ent.cells ⟨tx, k⟩).toArray 114) = q := ⟨_, rfl⟩
              have K4 := hid (show Below v3.heap.size v3 v4 from by rw [← hw]; exact (Below.refl _ _).alloc (Nat.le_refl _) _)
              have Z4 : v3.heap.size < v4.heap.size := by rw [← hw]; simp
              have X4 := hid (show ∀ j u, (Ent.cells ⟨tx, k⟩)[j]? = some u → v4.cell? ((⟨v3.heap.size, 0, none⟩ : Addr).add j) = some u from by rw [← hw]; exact cells_new)
              first | rw [hw] | (simp only [Ent.cells] at hw; rw [hw])
              clear hw
              have T4 := hid ((T3.out).trans (K4.out.mono (T3.out).size))
              have R4 := hid (own_below R3.out K4.out)
              refine wpOrd_op rfl ?_
              go_wp2_with (at_builtin; refine wpList_appendK _ rfl _ _ 104 rfl wd.heap.size 114 _ 2 16 Try.underlying104 Try.infoEntry rfl (by decide) _ _ _ rfl R4.out ⟨v3.heap.size, 0, none⟩ 1 1 (Ent.cells ⟨tx, k⟩) (by go_simp) rfl X4.out (by intro u hu; simp [Ent.cells] at hu; rcases hu with rfl | rfl <;> rfl) (by omega) (by decide) (T4.out).size ?_)
              intro B5 d5 v5 o5 k5 f5
              have T5 := hid ((T4.out).trans (k5.below (B := wd.heap.size) (T4.out).size (fun q h => (World.ownsRow.lt R4.out q h).1)))
              have R5 := hid o5
              clear o5 k5 f5
              refine wpOrd_op rfl ?_
              have A6 := hid (ent_drop_cells (own_below HOd.out T5.out) i)
              go_wp2_with (at_builtin; refine wpList_appendK _ rfl _ _ 104 rfl wd.heap.size 114 _ 2 16 Try.underlying104 Try.infoEntry rfl (by decide) _ _ _ rfl R5.out ⟨g1, i * 2, none⟩ (n1 - i) (c1 - i) (entCells (L1.drop i)) (by go_simp) (by rw [entCells_length, List.length_drop, HN1.out]) A6.out (entCells_one _) (by omega) (by decide) (T5.out).size ?_)
              intro B6 d6 v6 o6 k6 f6
              have T6 := hid ((T5.out).trans (k6.below (B := wd.heap.size) (T5.out).size (fun q h => (World.ownsRow.lt R5.out q h).1)))
              have R6 := hid o6
              clear o6 k6 f6
              repeat (refine wpOrd_val rfl ?_; go_big_quiet_step (fail); refine wpQuiet_nil ?_)
              refine wpOrd_nil ?_
              have HX : Hid (∀ xs, xs = entCells (L1.take i) ++ ((Ent.cells ⟨tx, k⟩) ++ entCells (L1.drop i)) → xs = entCells (insE ⟨tx, k⟩ L1)) := by
                intro xs h
                rw [h, HINS.out, entCells_append]; simp [entCells]
              have HBF := hid (HB9.out.trans ((HBd.out.trans (T6.out.mono hzd)).mono HB9.out.size))
              have HLE : Hid (w.heap.size ≤ wd.heap.size) := by rw [Hid]; omega
              go_wp2_with fail
              go_ret2
              exact ⟨_, rfl, fin_row R6.out HLE.out (HX.out _ (by simp [entCells])), HBF.out⟩
            · go_wp2_with fail
              obtain ⟨v3, hw⟩ : ∃ q, v1.alloc (.cells (Ent.cells ⟨tx, k⟩).toArray 114) = q := ⟨_, rfl⟩
              have K3 := hid (show Below v1.heap.size v1 v3 from by rw [← hw]; exact (Below.refl _ _).alloc (Nat.le_refl _) _)
              have Z3 : v1.heap.size < v3.heap.size := by rw [← hw]; simp
              have X3 := hid (show ∀ j u, (Ent.cells ⟨tx, k⟩)[j]? = some u → v3.cell? ((⟨v1.heap.size, 0, none⟩ : Addr).add j) = some u from by rw [← hw]; exact cells_new)
              first | rw [hw] | (simp only [Ent.cells] at hw; rw [hw])
              clear hw
              have T3 := hid ((T1.out).trans (K3.out.mono (T1.out).size))
              have R3 := hid (own_below R1.out K3.out)
              refine wpOrd_op rfl ?_
              have A4 := hid (ent_take_cells (own_below HOd.out T3.out) i)
              go_wp2_with (at_builtin; refine wpList_appendK _ rfl _ _ 104 rfl wd.heap.size 114 _ 2 16 Try.underlying104 Try.infoEntry rfl (by decide) _ _ _ rfl R3.out ⟨g1, 0, none⟩ i c1 (entCells (L1.take i)) (by go_simp) (by rw [entCells_length, List.length_take]; have := HN1.out; omega) A4.out (entCells_one _) (by omega) (by decide) (T3.out).size ?_)
              intro B4 d4 v4 o4 k4 f4
              have T4 := hid ((T3.out).trans (k4.below (B := wd.heap.size) (T3.out).size (fun q h => (World.ownsRow.lt R3.out q h).1)))
              have X4 := hid (x_keep k4 Z3 (fun h => by simp only [Value.ownBlock, Option.some.injEq] at h; omega) X3.out)
              have Y4 : v1.heap.size < v4.heap.size := Nat.lt_of_lt_of_le Z3 k4.size
              have R4 := hid o4
              clear o4 k4 f4
              refine wpOrd_op rfl ?_
              go_wp2_with (at_builtin; refine wpList_appendK _ rfl _ _ 104 rfl wd.heap.size 114 _ 2 16 Try.underlying104 Try.infoEntry rfl (by decide) _ _ _ rfl R4.out ⟨v1.heap.size, 0, none⟩ 1 1 (Ent.cells ⟨tx, k⟩) (by go_simp) rfl X4.out (by intro u hu; simp [Ent.cells] at hu; rcases hu with rfl | rfl <;> rfl) (by omega) (by decide) (T4.out).size ?_)
              intro B5 d5 v5 o5 k5 f5
              have T5 := hid ((T4.out).trans (k5.below (B := wd.heap.size) (T4.out).size (fun q h => (World.ownsRow.lt R4.out q h).1)))
              have R5 := hid o5
              clear o5 k5 f5
              refine wpOrd_op rfl ?_
              have A6 := hid (ent_drop_cells (own_below HOd.out T5.out) i)
              go_wp2_with (at_builtin; refine wpList_appendK _ rfl _ _ 104 rfl wd.heap.size 114 _ 2 16 Try.underlying104 Try.infoEntry rfl (by decide) _ _ _ rfl R5.out ⟨g1, i * 2, none⟩ (n1 - i) (c1 - i) (entCells (L1.drop i)) (by go_simp) (by rw [entCells_length, List.length_drop, HN1.out]) A6.out (entCells_one _) (by omega) (by decide) (T5.out).size ?_)
              intro B6 d6 v6 o6 k6 f6
              have T6 := hid ((T5.out).trans (k6.below (B := wd.heap.size) (T5.out).size (fun q h => (World.ownsRow.lt R5.out q h).1)))
              have R6 := hid o6
              clear o6 k6 f6
              repeat (refine wpOrd_val rfl ?_; go_big_quiet_step (fail); refine wpQuiet_nil ?_)
              refine wpOrd_nil ?_
              have HX : Hid (∀ xs, xs = entCells (L1.take i) ++ ((Ent.cells ⟨tx, k⟩) ++ entCells (L1.drop i)) → xs = entCells (insE ⟨tx, k⟩ L1)) := by
                intro xs h
                rw [h, HINS.out, entCells_append]; simp [entCells]
              have HBF := hid (HB9.out.trans ((HBd.out.trans (T6.out.mono hzd)).mono HB9.out.size))
              have HLE : Hid (w.heap.size ≤ wd.heap.size) := by rw [Hid]; omega
              go_wp2_with fail
              go_ret2
              exact ⟨_, rfl, fin_row R6.out HLE.out (HX.out _ (by simp [entCells])), HBF.out⟩
        · have y0 := (((Below.refl wd.heap.size wd)).cell (p := ⟨w1.heap.size, 0, none⟩) hbxd).trans x0d
          have y1 := (((Below.refl wd.heap.size wd)).cell (p := ⟨w1.heap.size, 1, none⟩) hbxd).trans x1d
          go_wp2_with fail
          refine wpOrd_two rfl rfl ?_ ?_
          · go_wp2_with fail
            obtain ⟨v2, hw⟩ : ∃ q, wd.alloc (.cells #[] 114) = q := ⟨_, rfl⟩
            have K2 := hid (show Below wd.heap.size wd v2 from by rw [← hw]; exact (Below.refl _ _).alloc (Nat.le_refl _) _)
            have Z2 : wd.heap.size < v2.heap.size := by rw [← hw]; simp
            have R2 := hid (show v2.ownsRow wd.heap.size 114 2 (.slice (some ⟨wd.heap.size, 0, none⟩) 0 0) 0 [] from by rw [← hw]; exact World.ownsRow_made _ _ _ ((Below.refl wd.heap.size wd)).size (by simp [maxLen]) (by simp))
            first | rw [hw] | (simp only [Ent.cells] at hw; rw [hw])
            clear hw
            have T2 := hid (((Below.refl wd.heap.size wd)).trans (K2.out.mono ((Below.refl wd.heap.size wd)).size))
            refine wpOrd_two rfl rfl ?_ ?_
            · have A3 := hid (ent_take_cells (own_below HOd.out T2.out) i)
              go_wp2_with (at_builtin; refine wpList_appendK _ rfl _ _ 104 rfl wd.heap.size 114 _ 2 16 Try.underlying104 Try.infoEntry rfl (by decide) _ _ _ rfl R2.out ⟨g1, 0, none⟩ i c1 (entCells (L1.take i)) (by go_simp) (by rw [entCells_length, List.length_take]; have := HN1.out; omega) A3.out (entCells_one _) (by omega) (by decide) (T2.out).size ?_)
              intro B3 d3 v3 o3 k3 f3
              have T3 := hid ((T2.out).trans (k3.below (B := wd.heap.size) (T2.out).size (fun q h => (World.ownsRow.lt R2.out q h).1)))
              have R3 := hid o3
              clear o3 k3 f3
              refine wpOrd_op rfl ?_
              go_wp2_with fail
              obtain ⟨v4, hw⟩ : ∃ q, v3.alloc (.cells (Ent.cells ⟨tx, k⟩).toArray 114) = q := ⟨_, rfl⟩
              have K4 := hid (show Below v3.heap.size v3 v4 from by rw [← hw]; exact (Below.refl _ _).alloc (Nat.le_refl _) _)
              have Z4 : v3.heap.size < v4.heap.size := by rw [← hw]; simp
              have X4 := hid (show ∀ j u, (Ent.cells ⟨tx, k⟩)[j]? = some u → v4.cell? ((⟨v3.heap.size, 0, none⟩ : Addr).add j) = some u from by rw [← hw]; exact cells_new)
              first | rw [hw] | (simp only [Ent.cells] at hw; rw [hw])
              clear hw
              have T4 := hid ((T3.out).trans (K4.out.mono (T3.out).size))
              have R4 := hid (own_below R3.out K4.out)
              refine wpOrd_op rfl ?_
              go_wp2_with (at_builtin; refine wpList_appendK _ rfl _ _ 104 rfl wd.heap.size 114 _ 2 16 Try.underlying104 Try.infoEntry rfl (by decide) _ _ _ rfl R4.out ⟨v3.heap.size, 0, none⟩ 1 1 (Ent.cells ⟨tx, k⟩) (by go_simp) rfl X4.out (by intro u hu; simp [Ent.cells] at hu; rcases hu with rfl | rfl <;> rfl) (by omega) (by decide) (T4.out).size ?_)
              intro B5 d5 v5 o5 k5 f5
              have T5 := hid ((T4.out).trans (k5.below (B := wd.heap.size) (T4.out).size (fun q h => (World.ownsRow.lt R4.out q h).1)))
              have R5 := hid o5
              clear o5 k5 f5
              refine wpOrd_op rfl ?_
              have A6 := hid (ent_drop_cells (own_below HOd.out T5.out) i)
              go_wp2_with (at_builtin; refine wpList_appendK _ rfl _ _ 104 rfl wd.heap.size 114 _ 2 16 Try.underlying104 Try.infoEntry rfl (by decide) _ _ _ rfl R5.out ⟨g1, i * 2, none⟩ (n1 - i) (c1 - i) (entCells (L1.drop i)) (by go_simp) (by rw [entCells_length, List.length_drop, HN1.out]) A6.out (entCells_one _) (by omega) (by decide) (T5.out).size ?_)
              intro B6 d6 v6 o6 k6 f6
              have T6 := hid ((T5.out).trans (k6.below (B := wd.heap.size) (T5.out).size (fun q h => (World.ownsRow.lt R5.out q h).1)))
              have R6 := hid o6
              clear o6 k6 f6
              repeat (refine wpOrd_val rfl ?_; go_big_quiet_step (fail); refine wpQuiet_nil ?_)
              refine wpOrd_nil ?_
              have HX : Hid (∀ xs, xs = entCells (L1.take i) ++ ((Ent.cells ⟨tx, k⟩) ++ entCells (L1.drop i)) → xs = entCells (insE ⟨tx, k⟩ L1)) := by
                intro xs h
                rw [h, HINS.out, entCells_append]; simp [entCells]
              have HBF := hid (HB9.out.trans ((HBd.out.trans (T6.out.mono hzd)).mono HB9.out.size))
              have HLE : Hid (w.heap.size ≤ wd.heap.size) := by rw [Hid]; omega
              go_wp2_with fail
              go_ret2
              exact ⟨_, rfl, fin_row R6.out HLE.out (HX.out _ (by simp [entCells])), HBF.out⟩
            · go_wp2_with fail
              obtain ⟨v3, hw⟩ : ∃ q, v2.alloc (.cells (Ent.cells ⟨tx, k⟩).toArray 114) = q := ⟨_, rfl⟩
              have K3 := hid (show Below v2.heap.size v2 v3 from by rw [← hw]; exact (Below.refl _ _).alloc (Nat.le_refl _) _)
              have Z3 : v2.heap.size < v3.heap.size := by rw [← hw]; simp
              have X3 := hid (show ∀ j u, (Ent.cells ⟨tx, k⟩)[j]? = some u → v3.cell? ((⟨v2.heap.size, 0, none⟩ : Addr).add j) = some u from by rw [← hw]; exact cells_new)
              first | rw [hw] | (simp only [Ent.cells] at hw; rw [hw])
              clear hw
              have T3 := hid ((T2.out).trans (K3.out.mono (T2.out).size))
              have R3 := hid (own_below R2.out K3.out)
              refine wpOrd_op rfl ?_
              have A4 := hid (ent_take_cells (own_below HOd.out T3.out) i)
              go_wp2_with (at_builtin; refine wpList_appendK _ rfl _ _ 104 rfl wd.heap.size 114 _ 2 16 Try.underlying104 Try.infoEntry rfl (by decide) _ _ _ rfl R3.out ⟨g1, 0, none⟩ i c1 (entCells (L1.take i)) (by go_simp) (by rw [entCells_length, List.length_take]; have := HN1.out; omega) A4.out (entCells_one _) (by omega) (by decide) (T3.out).size ?_)
              intro B4 d4 v4 o4 k4 f4
              have T4 := hid ((T3.out).trans (k4.below (B := wd.heap.size) (T3.out).size (fun q h => (World.ownsRow.lt R3.out q h).1)))
              have X4 := hid (x_keep k4 Z3 (fun h => by simp only [Value.ownBlock, Option.some.injEq] at h; omega) X3.out)
              have Y4 : v2.heap.size < v4.heap.size := Nat.lt_of_lt_of_le Z3 k4.size
              have R4 := hid o4
              clear o4 k4 f4
              refine wpOrd_op rfl ?_
              go_wp2_with (at_builtin; refine wpList_appendK _ rfl _ _ 104 rfl wd.heap.size 114 _ 2 16 Try.underlying104 Try.infoEntry rfl (by decide) _ _ _ rfl R4.out ⟨v2.heap.size, 0, none⟩ 1 1 (Ent.cells ⟨tx, k⟩) (by go_simp) rfl X4.out (by intro u hu; simp [Ent.cells] at hu; rcases hu with rfl | rfl <;> rfl) (by omega) (by decide) (T4.out).size ?_)
              intro B5 d5 v5 o5 k5 f5
              have T5 := hid ((T4.out).trans (k5.below (B := wd.heap.size) (T4.out).size (fun q h => (World.ownsRow.lt R4.out q h).1)))
              have R5 := hid o5
              clear o5 k5 f5
              refine wpOrd_op rfl ?_
              have A6 := hid (ent_drop_cells (own_below HOd.out T5.out) i)
              go_wp2_with (at_builtin; refine wpList_appendK _ rfl _ _ 104 rfl wd.heap.size 114 _ 2 16 Try.underlying104 Try.infoEntry rfl (by decide) _ _ _ rfl R5.out ⟨g1, i * 2, none⟩ (n1 - i) (c1 - i) (entCells (L1.drop i)) (by go_simp) (by rw [entCells_length, List.length_drop, HN1.out]) A6.out (entCells_one _) (by omega) (by decide) (T5.out).size ?_)
              intro B6 d6 v6 o6 k6 f6
              have T6 := hid ((T5.out).trans (k6.below (B := wd.heap.size) (T5.out).size (fun q h => (World.ownsRow.lt R5.out q h).1)))
              have R6 := hid o6
              clear o6 k6 f6
              repeat (refine wpOrd_val rfl ?_; go_big_quiet_step (fail); refine wpQuiet_nil ?_)
              refine wpOrd_nil ?_
              have HX : Hid (∀ xs, xs = entCells (L1.take i) ++ ((Ent.cells ⟨tx, k⟩) ++ entCells (L1.drop i)) → xs = entCells (insE ⟨tx, k⟩ L1)) := by
                intro xs h
                rw [h, HINS.out, entCells_append]; simp [entCells]
              have HBF := hid (HB9.out.trans ((HBd.out.trans (T6.out.mono hzd)).mono HB9.out.size))
              have HLE : Hid (w.heap.size ≤ wd.heap.size) := by rw [Hid]; omega
              go_wp2_with fail
              go_ret2
              exact ⟨_, rfl, fin_row R6.out HLE.out (HX.out _ (by simp [entCells])), HBF.out⟩
          · go_wp2_with fail
            obtain ⟨v2, hw⟩ : ∃ q, wd.alloc (.cells (Ent.cells ⟨tx, k⟩).toArray 114) = q := ⟨_, rfl⟩
            have K2 := hid (show Below wd.heap.size wd v2 from by rw [← hw]; exact (Below.refl _ _).alloc (Nat.le_refl _) _)
            have Z2 : wd.heap.size < v2.heap.size := by rw [← hw]; simp
            have X2 := hid (show ∀ j u, (Ent.cells ⟨tx, k⟩)[j]? = some u → v2.cell? ((⟨wd.heap.size, 0, none⟩ : Addr).add j) = some u from by rw [← hw]; exact cells_new)
            first | rw [hw] | (simp only [Ent.cells] at hw; rw [hw])
            clear hw
            have T2 := hid (((Below.refl wd.heap.size wd)).trans (K2.out.mono ((Below.refl wd.heap.size wd)).size))
            refine wpOrd_op rfl ?_
            go_wp2_with fail
            obtain ⟨v3, hw⟩ : ∃ q, v2.alloc (.cells #[] 114) = q := ⟨_, rfl⟩
            have K3 := hid (show Below v2.heap.size v2 v3 from by rw [← hw]; exact (Below.refl _ _).alloc (Nat.le_refl _) _)
            have Z3 : v2.heap.size < v3.heap.size := by rw [← hw]; simp
            have R3 := hid (show v3.ownsRow wd.heap.size 114 2 (.slice (some ⟨v2.heap.size, 0, none⟩) 0 0) 0 [] from by rw [← hw]; exact World.ownsRow_made _ _ _ (T2.out).size (by simp [maxLen]) (by simp))
            first | rw [hw] | (simp only [Ent.cells] at hw; rw [hw])
            clear hw
            have T3 := hid ((T2.out).trans (K3.out.mono (T2.out).size))
            have X3 := hid (x_below K3.out Z2 X2.out)
            have Y3 : wd.heap.size < v3.heap.size := by omega
            refine wpOrd_op rfl ?_
            have A4 := hid (ent_take_cells (own_below HOd.out T3.out) i)
            go_wp2_with (at_builtin; refine wpList_appendK _ rfl _ _ 104 rfl wd.heap.size 114 _ 2 16 Try.underlying104 Try.infoEntry rfl (by decide) _ _ _ rfl R3.out ⟨g1, 0, none⟩ i c1 (entCells (L1.take i)) (by go_simp) (by rw [entCells_length, List.length_take]; have := HN1.out; omega) A4.out (entCells_one _) (by omega) (by decide) (T3.out).size ?_)
            intro B4 d4 v4 o4 k4 f4
            have T4 := hid ((T3.out).trans (k4.below (B := wd.heap.size) (T3.out).size (fun q h => (World.ownsRow.lt R3.out q h).1)))
            have X4 := hid (x_keep k4 Y3 (fun h => by simp only [Value.ownBlock, Option.some.injEq] at h; omega) X3.out)
            have Y4 : wd.heap.size < v4.heap.size := Nat.lt_of_lt_of_le Y3 k4.size
            have R4 := hid o4
            clear o4 k4 f4
            refine wpOrd_op rfl ?_
            go_wp2_with (at_builtin; refine wpList_appendK _ rfl _ _ 104 rfl wd.heap.size 114 _ 2 16 Try.underlying104 Try.infoEntry rfl (by decide) _ _ _ rfl R4.out ⟨wd.heap.size, 0, none⟩ 1 1 (Ent.cells ⟨tx, k⟩) (by go_simp) rfl X4.out (by intro u hu; simp [Ent.cells] at hu; rcases hu with rfl | rfl <;> rfl) (by omega) (by decide) (T4.out).size ?_)
            intro B5 d5 v5 o5 k5 f5
            have T5 := hid ((T4.out).trans (k5.below (B := wd.heap.size) (T4.out).size (fun q h => (World.ownsRow.lt R4.out q h).1)))
            have R5 := hid o5
            clear o5 k5 f5
            refine wpOrd_op rfl ?_
            have A6 := hid (ent_drop_cells (own_below HOd.out T5.out) i)
            go_wp2_with (at_builtin; refine wpList_appendK _ rfl _ _ 104 rfl wd.heap.size 114 _ 2 16 Try.underlying104 Try.infoEntry rfl (by decide) _ _ _ rfl R5.out ⟨g1, i * 2, none⟩ (n1 - i) (c1 - i) (entCells (L1.drop i)) (by go_simp) (by rw [entCells_length, List.length_drop, HN1.out]) A6.out (entCells_one _) (by omega) (by decide) (T5.out).size ?_)
            intro B6 d6 v6 o6 k6 f6
            have T6 := hid ((T5.out).trans (k6.below (B := wd.heap.size) (T5.out).size (fun q h => (World.ownsRow.lt R5.out q h).1)))
            have R6 := hid o6
            clear o6 k6 f6
            repeat (refine wpOrd_val rfl ?_; go_big_quiet_step (fail); refine wpQuiet_nil ?_)
            refine wpOrd_nil ?_
            have HX : Hid (∀ xs, xs = entCells (L1.take i) ++ ((Ent.cells ⟨tx, k⟩) ++ entCells (L1.drop i)) → xs = entCells (insE ⟨tx, k⟩ L1)) := by
              intro xs h
              rw [h, HINS.out, entCells_append]; simp [entCells]
            have HBF := hid (HB9.out.trans ((HBd.out.trans (T6.out.mono hzd)).mono HB9.out.size))
            have HLE : Hid (w.heap.size ≤ wd.heap.size) := by rw [Hid]; omega
            go_wp2_with fail
            go_ret2
            exact ⟨_, rfl, fin_row R6.out HLE.out (HX.out _ (by simp [entCells])), HBF.out⟩
    · obtain rfl : n1 = i := by omega
      have hinD : decide (n1 < n1) = false := by simp
      have HINS : Hid (insE ⟨tx, k⟩ L1 = L1.take n1 ++ ⟨tx, k⟩ :: L1.drop n1) := insE_at ⟨tx, k⟩ L1 n1 (by have := HN1.out; omega) HJ.out (fun h => by have := HN1.out; omega)
      go_wp2_with fail
      go_quiet (fail)
      obtain ⟨w9, hw9⟩ : ∃ q, wr.drewN nq = q := ⟨_, rfl⟩
      have hb9' : Below wr.heap.size wr w9 := by rw [← hw9]; exact drewN_below _ _
      rw [hw9]
      clear hw9
      have x09 := (hb9'.cell (p := ⟨w1.heap.size, 0, none⟩) hlr).trans b0
      have x19 := (hb9'.cell (p := ⟨w1.heap.size, 1, none⟩) hlr).trans b1
      have hbx : w1.heap.size < w9.heap.size := Nat.lt_of_lt_of_le hlr hb9'.size
      have HB19 := hid (HBR.out.trans (hb9'.mono HBR.out.size))
      have HB9 := hid (HB1.out.trans (HB19.out.mono HB1.out.size))
      have HO9 := hid (own_below HO2.out hb9')
      clear hb9' b0 b1
      by_cases hcc : c1 = n1
      · subst hcc
        go_wp2_with fail
        refine wp_region_ord (.val 1 (.val 2 (.val 3 (.val 8 (.val 9 (.val 10 (.two 0 (.two 4 (.op 5 (.op 6 (.op 7 (.op 11 (.val 12 (.val 13 (.nil))))))) 5 (.two 4 (.op 6 (.op 7 (.op 11 (.val 12 (.val 13 (.nil)))))) 6 (.op 4 (.op 7 (.op 11 (.val 12 (.val 13 (.nil)))))))) 5 (.two 0 (.two 4 (.op 6 (.op 7 (.op 11 (.val 12 (.val 13 (.nil)))))) 6 (.op 4 (.op 7 (.op 11 (.val 12 (.val 13 (.nil))))))) 6 (.op 0 (.op 4 (.op 7 (.op 11 (.val 12 (.val 13 (.nil))))))))))))))) (by kernel_rfl) (by kernel_rfl) ?_
        obtain ⟨wd, hwd⟩ : ∃ q, w9.drewN 1 = q := ⟨_, rfl⟩
        have HBd : Hid (Below w9.heap.size w9 wd) := by rw [← hwd]; exact drewN_below _ 1
        have hzd : w9.heap.size ≤ wd.heap.size := HBd.out.size
        rw [hwd]
        clear hwd
        have HOd := hid (own_below HO9.out HBd.out)
        have x0d := (HBd.out.cell (p := ⟨w1.heap.size, 0, none⟩) hbx).trans x09
        have x1d := (HBd.out.cell (p := ⟨w1.heap.size, 1, none⟩) hbx).trans x19
        clear x09 x19
        have hz9 := HB9.out.size
        have hbxd : w1.heap.size < wd.heap.size := by omega
        repeat (refine wpOrd_val rfl ?_; go_big_quiet_step (fail); refine wpQuiet_nil ?_)
        refine wpOrd_two rfl rfl ?_ ?_
        · go_wp2_with fail
          obtain ⟨v1, hw⟩ : ∃ q, wd.alloc (.cells #[] 114) = q := ⟨_, rfl⟩
          have K1 := hid (show Below wd.heap.size wd v1 from by rw [← hw]; exact (Below.refl _ _).alloc (Nat.le_refl _) _)
          have Z1 : wd.heap.size < v1.heap.size := by rw [← hw]; simp
          have R1 := hid (show v1.ownsRow wd.heap.size 114 2 (.slice (some ⟨wd.heap.size, 0, none⟩) 0 0) 0 [] from by rw [← hw]; exact World.ownsRow_made _ _ _ ((Below.refl wd.heap.size wd)).size (by simp [maxLen]) (by simp))
          first | rw [hw] | (simp only [Ent.cells] at hw; rw [hw])
          clear hw
          have T1 := hid (((Below.refl wd.heap.size wd)).trans (K1.out.mono ((Below.refl wd.heap.size wd)).size))
          refine wpOrd_two rfl rfl ?_ ?_
          · have A2 := hid (ent_take_cells (own_below HOd.out T1.out) c1)
            go_wp2_with (at_builtin; refine wpList_appendK _ rfl _ _ 104 rfl wd.heap.size 114 _ 2 16 Try.underlying104 Try.infoEntry rfl (by decide) _ _ _ rfl R1.out ⟨g1, 0, none⟩ c1 c1 (entCells (L1.take c1)) (by go_simp) (by rw [entCells_length, List.length_take]; have := HN1.out; omega) A2.out (entCells_one _) (by omega) (by decide) (T1.out).size ?_)
            intro B2 d2 v2 o2 k2 f2
            have T2 := hid ((T1.out).trans (k2.below (B := wd.heap.size) (T1.out).size (fun q h => (World.ownsRow.lt R1.out q h).1)))
            have R2 := hid o2
            clear o2 k2 f2
            refine wpOrd_op rfl ?_
            have y0 := ((T2.out).cell (p := ⟨w1.heap.size, 0, none⟩) hbxd).trans x0d
            have y1 := ((T2.out).cell (p := ⟨w1.heap.size, 1, none⟩) hbxd).trans x1d
            go_wp2_with fail
            refine wpOrd_op rfl ?_
            go_wp2_with fail
            obtain ⟨v4, hw⟩ : ∃ q, v2.alloc (.cells (Ent.cells ⟨tx, k⟩).toArray 114) = q := ⟨_, rfl⟩
            have K4 := hid (show Below v2.heap.size v2 v4 from by rw [← hw]; exact (Below.refl _ _).alloc (Nat.le_refl _) _)
            have Z4 : v2.heap.size < v4.heap.size := by rw [← hw]; simp
            have X4 := hid (show ∀ j u, (Ent.cells ⟨tx, k⟩)[j]? = some u → v4.cell? ((⟨v2.heap.size, 0, none⟩ : Addr).add j) = some u from by rw [← hw]; exact cells_new)
            first | rw [hw] | (simp only [Ent.cells] at hw; rw [hw])
            clear hw
            have T4 := hid ((T2.out).trans (K4.out.mono (T2.out).size))
            have R4 := hid (own_below R2.out K4.out)
            refine wpOrd_op rfl ?_
            go_wp2_with (at_builtin; refine wpList_appendK _ rfl _ _ 104 rfl wd.heap.size 114 _ 2 16 Try.underlying104 Try.infoEntry rfl (by decide) _ _ _ rfl R4.out ⟨v2.heap.size, 0, none⟩ 1 1 (Ent.cells ⟨tx, k⟩) (by go_simp) rfl X4.out (by intro u hu; simp [Ent.cells] at hu; rcases hu with rfl | rfl <;> rfl) (by omega) (by decide) (T4.out).size ?_)
            intro B5 d5 v5 o5 k5 f5
            have T5 := hid ((T4.out).trans (k5.below (B := wd.heap.size) (T4.out).size (fun q h => (World.ownsRow.lt R4.out q h).1)))
            have R5 := hid o5
            clear o5 k5 f5
            refine wpOrd_op rfl ?_
            go_wp2_with (at_builtin; refine wpList_appendK _ rfl _ _ 104 rfl wd.heap.size 114 _ 2 16 Try.underlying104 Try.infoEntry rfl (by decide) _ _ _ rfl R5.out ⟨g1, 0, none⟩ 0 0 [] (by go_simp) rfl (by intro j u hu; simp at hu) (by intro u hu; simp at hu) (by omega) (by decide) (T5.out).size ?_)
            intro B6 d6 v6 o6 k6 f6
            have T6 := hid ((T5.out).trans (k6.below (B := wd.heap.size) (T5.out).size (fun q h => (World.ownsRow.lt R5.out q h).1)))
            have R6 := hid o6
            clear o6 k6 f6
            repeat (refine wpOrd_val rfl ?_; go_big_quiet_step (fail); refine wpQuiet_nil ?_)
            refine wpOrd_nil ?_
            have HX : Hid (∀ xs, xs = entCells (L1.take c1) ++ ((Ent.cells ⟨tx, k⟩) ++ entCells (L1.drop c1)) → xs = entCells (insE ⟨tx, k⟩ L1)) := by
              intro xs h
              rw [h, HINS.out, entCells_append]; simp [entCells]
            have HBF := hid (HB9.out.trans ((HBd.out.trans (T6.out.mono hzd)).mono HB9.out.size))
            have HLE : Hid (w.heap.size ≤ wd.heap.size) := by rw [Hid]; omega
            go_wp2_with fail
            go_ret2
            exact ⟨_, rfl, fin_row R6.out HLE.out (HX.out _ (by rw [show L1.drop c1 = [] from List.drop_of_length_le (by rw [HN1.out]; omega)]; simp [entCells])), HBF.out⟩
          · have y0 := ((T1.out).cell (p := ⟨w1.heap.size, 0, none⟩) hbxd).trans x0d
            have y1 := ((T1.out).cell (p := ⟨w1.heap.size, 1, none⟩) hbxd).trans x1d
            go_wp2_with fail
            refine wpOrd_two rfl rfl ?_ ?_
            · have A3 := hid (ent_take_cells (own_below HOd.out T1.out) c1)
              go_wp2_with (at_builtin; refine wpList_appendK _ rfl _ _ 104 rfl wd.heap.size 114 _ 2 16 Try.underlying104 Try.infoEntry rfl (by decide) _ _ _ rfl R1.out ⟨g1, 0, none⟩ c1 c1 (entCells (L1.take c1)) (by go_simp) (by rw [entCells_length, List.length_take]; have := HN1.out; omega) A3.out (entCells_one _) (by omega) (by decide) (T1.out).size ?_)
              intro B3 d3 v3 o3 k3 f3
              have T3 := hid ((T1.out).trans (k3.below (B := wd.heap.size) (T1.out).size (fun q h => (World.ownsRow.lt R1.out q h).1)))
              have R3 := hid o3
              clear o3 k3 f3
              refine wpOrd_op rfl ?_
              go_wp2_with fail
              obtain ⟨v4, hw⟩ : ∃ q, v3.alloc (.cells (Ent.cells ⟨tx, k⟩).toArray 114) = q := ⟨_, rfl⟩
              have K4 := hid (show Below v3.heap.size v3 v4 from by rw [← hw]; exact (Below.refl _ _).alloc (Nat.le_refl _) _)
              have Z4 : v3.heap.size < v4.heap.size := by rw [← hw]; simp
              have X4 := hid (show ∀ j u, (Ent.cells ⟨tx, k⟩)[j]? = some u → v4.cell? ((⟨v3.heap.size, 0, none⟩ : Addr).add j) = some u from by rw [← hw]; exact cells_new)
              first | rw [hw] | (simp only [Ent.cells] at hw; rw [hw])
              clear hw
              have T4 := hid ((T3.out).trans (K4.out.mono (T3.out).size))
              have R4 := hid (own_below R3.out K4.out)
              refine wpOrd_op rfl ?_
              go_wp2_with (at_builtin; refine wpList_appendK _ rfl _ _ 104 rfl wd.heap.size 114 _ 2 16 Try.underlying104 Try.infoEntry rfl (by decide) _ _ _ rfl R4.out ⟨v3.heap.size, 0, none⟩ 1 1 (Ent.cells ⟨tx, k⟩) (by go_simp) rfl X4.out (by intro u hu; simp [Ent.cells] at hu; rcases hu with rfl | rfl <;> rfl) (by omega) (by decide) (T4.out).size ?_)
              intro B5 d5 v5 o5 k5 f5
              have T5 := hid ((T4.out).trans (k5.below (B := wd.heap.size) (T4.out).size (fun q h => (World.ownsRow.lt R4.out q h).1)))
              have R5 := hid o5
              clear o5 k5 f5
              refine wpOrd_op rfl ?_
              go_wp2_with (at_builtin; refine wpList_appendK _ rfl _ _ 104 rfl wd.heap.size 114 _ 2 16 Try.underlying104 Try.infoEntry rfl (by decide) _ _ _ rfl R5.out ⟨g1, 0, none⟩ 0 0 [] (by go_simp) rfl (by intro j u hu; simp at hu) (by intro u hu; simp at hu) (by omega) (by decide) (T5.out).size ?_)
              intro B6 d6 v6 o6 k6 f6
              have T6 := hid ((T5.out).trans (k6.below (B := wd.heap.size) (T5.out).size (fun q h => (World.ownsRow.lt R5.out q h).1)))
              have R6 := hid o6
              clear o6 k6 f6
              repeat (refine wpOrd_val rfl ?_; go_big_quiet_step (fail); refine wpQuiet_nil ?_)
              refine wpOrd_nil ?_
              have HX : Hid (∀ xs, xs = entCells (L1.take c1) ++ ((Ent.cells ⟨tx, k⟩) ++ entCells (L1.drop c1)) → xs = entCells (insE ⟨tx, k⟩ L1)) := by
                intro xs h
                rw [h, HINS.out, entCells_append]; simp [entCells]
              have HBF := hid (HB9.out.trans ((HBd.out.trans (T6.out.mono hzd)).mono HB9.out.size))
              have HLE : Hid (w.heap.size ≤ wd.heap.size) := by rw [Hid]; omega
              go_wp2_with fail
              go_ret2
              exact ⟨_, rfl, fin_row R6.out HLE.out (HX.out _ (by rw [show L1.drop c1 = [] from List.drop_of_length_le (by rw [HN1.out]; omega)]; simp [entCells])), HBF.out⟩
            · go_wp2_with fail
              obtain ⟨v3, hw⟩ : ∃ q, v1.alloc (.cells (Ent.cells ⟨tx, k⟩).toArray 114) = q := ⟨_, rfl⟩
              have K3 := hid (show Below v1.heap.size v1 v3 from by rw [← hw]; exact (Below.refl _ _).alloc (Nat.le_refl _) _)
              have Z3 : v1.heap.size < v3.heap.size := by rw [← hw]; simp
              have X3 := hid (show ∀ j u, (Ent.cells ⟨tx, k⟩)[j]? = some u → v3.cell? ((⟨v1.heap.size, 0, none⟩ : Addr).add j) = some u from by rw [← hw]; exact cells_new)
              first | rw [hw] | (simp only [Ent.cells] at hw; rw [hw])
              clear hw
              have T3 := hid ((T1.out).trans (K3.out.mono (T1.out).size))
              have R3 := hid (own_below R1.out K3.out)
              refine wpOrd_op rfl ?_
              have A4 := hid (ent_take_cells (own_below HOd.out T3.out) c1)
              go_wp2_with (at_builtin; refine wpList_appendK _ rfl _ _ 104 rfl wd.heap.size 114 _ 2 16 Try.underlying104 Try.infoEntry rfl (by decide) _ _ _ rfl R3.out ⟨g1, 0, none⟩ c1 c1 (entCells (L1.take c1)) (by go_simp) (by rw [entCells_length, List.length_take]; have := HN1.out; omega) A4.out (entCells_one _) (by omega) (by decide) (T3.out).size ?_)
              intro B4 d4 v4 o4 k4 f4
              have T4 := hid ((T3.out).trans (k4.below (B := wd.heap.size) (T3.out).size (fun q h => (World.ownsRow.lt R3.out q h).1)))
              have X4 := hid (x_keep k4 Z3 (fun h => by simp only [Value.ownBlock, Option.some.injEq] at h; omega) X3.out)
              have Y4 : v1.heap.size < v4.heap.size := Nat.lt_of_lt_of_le Z3 k4.size
              have R4 := hid o4
              clear o4 k4 f4
              refine wpOrd_op rfl ?_
              go_wp2_with (at_builtin; refine wpList_appendK _ rfl _ _ 104 rfl wd.heap.size 114 _ 2 16 Try.underlying104 Try.infoEntry rfl (by decide) _ _ _ rfl R4.out ⟨v1.heap.size, 0, none⟩ 1 1 (Ent.cells ⟨tx, k⟩) (by go_simp) rfl X4.out (by intro u hu; simp [Ent.cells] at hu; rcases hu with rfl | rfl <;> rfl) (by omega) (by decide) (T4.out).size ?_)
              intro B5 d5 v5 o5 k5 f5
              have T5 := hid ((T4.out).trans (k5.below (B := wd.heap.size) (T4.out).size (fun q h => (World.ownsRow.lt R4.out q h).1)))
              have R5 := hid o5
              clear o5 k5 f5
              refine wpOrd_op rfl ?_
              go_wp2_with (at_builtin; refine wpList_appendK _ rfl _ _ 104 rfl wd.heap.size 114 _ 2 16 Try.underlying104 Try.infoEntry rfl (by decide) _ _ _ rfl R5.out ⟨g1, 0, none⟩ 0 0 [] (by go_simp) rfl (by intro j u hu; simp at hu) (by intro u hu; simp at hu) (by omega) (by decide) (T5.out).size ?_)
              intro B6 d6 v6 o6 k6 f6
              have T6 := hid ((T5.out).trans (k6.below (B := wd.heap.size) (T5.out).size (fun q h => (World.ownsRow.lt R5.out q h).1)))
              have R6 := hid o6
              clear o6 k6 f6
              repeat (refine wpOrd_val rfl ?_; go_big_quiet_step (fail); refine wpQuiet_nil ?_)
              refine wpOrd_nil ?_
              have HX : Hid (∀ xs, xs = entCells (L1.take c1) ++ ((Ent.cells ⟨tx, k⟩) ++ entCells (L1.drop c1)) → xs = entCells (insE ⟨tx, k⟩ L1)) := by
                intro xs h
                rw [h, HINS.out, entCells_append]; simp [entCells]
              have HBF := hid (HB9.out.trans ((HBd.out.trans (T6.out.mono hzd)).mono HB9.out.size))
              have HLE : Hid (w.heap.size ≤ wd.heap.size) := by rw [Hid]; omega
              go_wp2_with fail
              go_ret2
              exact ⟨_, rfl, fin_row R6.out HLE.out (HX.out _ (by rw [show L1.drop c1 = [] from List.drop_of_length_le (by rw [HN1.out]; omega)]; simp [entCells])), HBF.out⟩
        · have y0 := (((Below.refl wd.heap.size wd)).cell (p := ⟨w1.heap.size, 0, none⟩) hbxd).trans x0d
          have y1 := (((Below.refl wd.heap.size wd)).cell (p := ⟨w1.heap.size, 1, none⟩) hbxd).trans x1d
          go_wp2_with fail
          refine wpOrd_two rfl rfl ?_ ?_
          · go_wp2_with fail
            obtain ⟨v2, hw⟩ : ∃ q, wd.alloc (.cells #[] 114) = q := ⟨_, rfl⟩
            have K2 := hid (show Below wd.heap.size wd v2 from by rw [← hw]; exact (Below.refl _ _).alloc (Nat.le_refl _) _)
            have Z2 : wd.heap.size < v2.heap.size := by rw [← hw]; simp
            have R2 := hid (show v2.ownsRow wd.heap.size 114 2 (.slice (some ⟨wd.heap.size, 0, none⟩) 0 0) 0 [] from by rw [← hw]; exact World.ownsRow_made _ _ _ ((Below.refl wd.heap.size wd)).size (by simp [maxLen]) (by simp))
            first | rw [hw] | (simp only [Ent.cells] at hw; rw [hw])
            clear hw
            have T2 := hid (((Below.refl wd.heap.size wd)).trans (K2.out.mono ((Below.refl wd.heap.size wd)).size))
            refine wpOrd_two rfl rfl ?_ ?_
            · have A3 := hid (ent_take_cells (own_below HOd.out T2.out) c1)
              go_wp2_with (at_builtin; refine wpList_appendK _ rfl _ _ 104 rfl wd.heap.size 114 _ 2 16 Try.underlying104 Try.infoEntry rfl (by decide) _ _ _ rfl R2.out ⟨g1, 0, none⟩ c1 c1 (entCells (L1.take c1)) (by go_simp) (by rw [entCells_length, List.length_take]; have := HN1.out; omega) A3.out (entCells_one _) (by omega) (by decide) (T2.out).size ?_)
              intro B3 d3 v3 o3 k3 f3
              have T3 := hid ((T2.out).trans (k3.below (B := wd.heap.size) (T2.out).size (fun q h => (World.ownsRow.lt R2.out q h).1)))
              have R3 := hid o3
              clear o3 k3 f3
              refine wpOrd_op rfl ?_
              go_wp2_with fail
              obtain ⟨v4, hw⟩ : ∃ q, v3.alloc (.cells (Ent.cells ⟨tx, k⟩).toArray 114) = q := ⟨_, rfl⟩
              have K4 := hid (show Below v3.heap.size v3 v4 from by rw [← hw]; exact (Below.refl _ _).alloc (Nat.le_refl _) _)
              have Z4 : v3.heap.size < v4.heap.size := by rw [← hw]; simp
              have X4 := hid (show ∀ j u, (Ent.cells ⟨tx, k⟩)[j]? = some u → v4.cell? ((⟨v3.heap.size, 0, none⟩ : Addr).add j) = some u from by rw [← hw]; exact cells_new)
              first | rw [hw] | (simp only [Ent.cells] at hw; rw [hw])
              clear hw
              have T4 := hid ((T3.out).trans (K4.out.mono (T3.out).size))
              have R4 := hid (own_below R3.out K4.out)
              refine wpOrd_op rfl ?_
              go_wp2_with (at_builtin; refine wpList_appendK _ rfl _ _ 104 rfl wd.heap.size 114 _ 2 16 Try.underlying104 Try.infoEntry rfl (by decide) _ _ _ rfl R4.out ⟨v3.heap.size, 0, none⟩ 1 1 (Ent.cells ⟨tx, k⟩) (by go_simp) rfl X4.out (by intro u hu; simp [Ent.cells] at hu; rcases hu with rfl | rfl <;> rfl) (by omega) (by decide) (T4.out).size ?_)
              intro B5 d5 v5 o5 k5 f5
              have T5 := hid ((T4.out).trans (k5.below (B := wd.heap.size) (T4.out).size (fun q h => (World.ownsRow.lt R4.out q h).1)))
              have R5 := hid o5
              clear o5 k5 f5
              refine wpOrd_op rfl ?_
              go_wp2_with (at_builtin; refine wpList_appendK _ rfl _ _ 104 rfl wd.heap.size 114 _ 2 16 Try.underlying104 Try.infoEntry rfl (by decide) _ _ _ rfl R5.out ⟨g1, 0, none⟩ 0 0 [] (by go_simp) rfl (by intro j u hu; simp at hu) (by intro u hu; simp at hu) (by omega) (by decide) (T5.out).size ?_)
              intro B6 d6 v6 o6 k6 f6
              have T6 := hid ((T5.out).trans (k6.below (B := wd.heap.size) (T5.out).size (fun q h => (World.ownsRow.lt R5.out q h).1)))
              have R6 := hid o6
              clear o6 k6 f6
              repeat (refine wpOrd_val rfl ?_; go_big_quiet_step (fail); refine wpQuiet_nil ?_)
              refine wpOrd_nil ?_
              have HX : Hid (∀ xs, xs = entCells (L1.take c1) ++ ((Ent.cells ⟨tx, k⟩) ++ entCells (L1.drop c1)) → xs = entCells (insE ⟨tx, k⟩ L1)) := by
                intro xs h
                rw [h, HINS.out, entCells_append]; simp [entCells]
              have HBF := hid (HB9.out.trans ((HBd.out.trans (T6.out.mono hzd)).mono HB9.out.size))
              have HLE : Hid (w.heap.size ≤ wd.heap.size) := by rw [Hid]; omega
              go_wp2_with fail
              go_ret2
              exact ⟨_, rfl, fin_row R6.out HLE.out (HX.out _ (by rw [show L1.drop c1 = [] from List.drop_of_length_le (by rw [HN1.out]; omega)]; simp [entCells])), HBF.out⟩
            · go_wp2_with fail
              obtain ⟨v3, hw⟩ : ∃ q, v2.alloc (.cells (Ent.cells ⟨tx, k⟩).toArray 114) = q := ⟨_, rfl⟩
              have K3 := hid (show Below v2.heap.size v2 v3 from by rw [← hw]; exact (Below.refl _ _).alloc (Nat.le_refl _) _)
              have Z3 : v2.heap.size < v3.heap.size := by rw [← hw]; simp
              have X3 := hid (show ∀ j u, (Ent.cells ⟨tx, k⟩)[j]? = some u → v3.cell? ((⟨v2.heap.size, 0, none⟩ : Addr).add j) = some u from by rw [← hw]; exact cells_new)
              first | rw [hw] | (simp only [Ent.cells] at hw; rw [hw])
              clear hw
              have T3 := hid ((T2.out).trans (K3.out.mono (T2.out).size))
              have R3 := hid (own_below R2.out K3.out)
              refine wpOrd_op rfl ?_
              have A4 := hid (ent_take_cells (own_below HOd.out T3.out) c1)
              go_wp2_with (at_builtin; refine wpList_appendK _ rfl _ _ 104 rfl wd.heap.size 114 _ 2 16 Try.underlying104 Try.infoEntry rfl (by decide) _ _ _ rfl R3.out ⟨g1, 0, none⟩ c1 c1 (entCells (L1.take c1)) (by go_simp) (by rw [entCells_length, List.length_take]; have := HN1.out; omega) A4.out (entCells_one _) (by omega) (by decide) (T3.out).size ?_)
              intro B4 d4 v4 o4 k4 f4
              have T4 := hid ((T3.out).trans (k4.below (B := wd.heap.size) (T3.out).size (fun q h => (World.ownsRow.lt R3.out q h).1)))
              have X4 := hid (x_keep k4 Z3 (fun h => by simp only [Value.ownBlock, Option.some.injEq] at h; omega) X3.out)
              have Y4 : v2.heap.size < v4.heap.size := Nat.lt_of_lt_of_le Z3 k4.size
              have R4 := hid o4
              clear o4 k4 f4
              refine wpOrd_op rfl ?_
              go_wp2_with (at_builtin; refine wpList_appendK _ rfl _ _ 104 rfl wd.heap.size 114 _ 2 16 Try.underlying104 Try.infoEntry rfl (by decide) _ _ _ rfl R4.out ⟨v2.heap.size, 0, none⟩ 1 1 (Ent.cells ⟨tx, k⟩) (by go_simp) rfl X4.out (by intro u hu; simp [Ent.cells] at hu; rcases hu with rfl | rfl <;> rfl) (by omega) (by decide) (T4.out).size ?_)
              intro B5 d5 v5 o5 k5 f5
              have T5 := hid ((T4.out).trans (k5.below (B := wd.heap.size) (T4.out).size (fun q h => (World.ownsRow.lt R4.out q h).1)))
              have R5 := hid o5
              clear o5 k5 f5
              refine wpOrd_op rfl ?_
              go_wp2_with (at_builtin; refine wpList_appendK _ rfl _ _ 104 rfl wd.heap.size 114 _ 2 16 Try.underlying104 Try.infoEntry rfl (by decide) _ _ _ rfl R5.out ⟨g1, 0, none⟩ 0 0 [] (by go_simp) rfl (by intro j u hu; simp at hu) (by intro u hu; simp at hu) (by omega) (by decide) (T5.out).size ?_)
              intro B6 d6 v6 o6 k6 f6
              have T6 := hid ((T5.out).trans (k6.below (B := wd.heap.size) (T5.out).size (fun q h => (World.ownsRow.lt R5.out q h).1)))
              have R6 := hid o6
              clear o6 k6 f6
              repeat (refine wpOrd_val rfl ?_; go_big_quiet_step (fail); refine wpQuiet_nil ?_)
              refine wpOrd_nil ?_
              have HX : Hid (∀ xs, xs = entCells (L1.take c1) ++ ((Ent.cells ⟨tx, k⟩) ++ entCells (L1.drop c1)) → xs = entCells (insE ⟨tx, k⟩ L1)) := by
                intro xs h
                rw [h, HINS.out, entCells_append]; simp [entCells]
              have HBF := hid (HB9.out.trans ((HBd.out.trans (T6.out.mono hzd)).mono HB9.out.size))
              have HLE : Hid (w.heap.size ≤ wd.heap.size) := by rw [Hid]; omega
              go_wp2_with fail
              go_ret2
              exact ⟨_, rfl, fin_row R6.out HLE.out (HX.out _ (by rw [show L1.drop c1 = [] from List.drop_of_length_le (by rw [HN1.out]; omega)]; simp [entCells])), HBF.out⟩
          · go_wp2_with fail
            obtain ⟨v2, hw⟩ : ∃ q, wd.alloc (.cells (Ent.cells ⟨tx, k⟩).toArray 114) = q := ⟨_, rfl⟩
            have K2 := hid (show Below wd.heap.size wd v2 from by rw [← hw]; exact (Below.refl _ _).alloc (Nat.le_refl _) _)
            have Z2 : wd.heap.size < v2.heap.size := by rw [← hw]; simp
            have X2 := hid (show ∀ j u, (Ent.cells ⟨tx, k⟩)[j]? = some u → v2.cell? ((⟨wd.heap.size, 0, none⟩ : Addr).add j) = some u from by rw [← hw]; exact cells_new)
            first | rw [hw] | (simp only [Ent.cells] at hw; rw [hw])
            clear hw
            have T2 := hid (((Below.refl wd.heap.size wd)).trans (K2.out.mono ((Below.refl wd.heap.size wd)).size))
            refine wpOrd_op rfl ?_
            go_wp2_with fail
            obtain ⟨v3, hw⟩ : ∃ q, v2.alloc (.cells #[] 114) = q := ⟨_, rfl⟩
            have K3 := hid (show Below v2.heap.size v2 v3 from by rw [← hw]; exact (Below.refl _ _).alloc (Nat.le_refl _) _)
            have Z3 : v2.heap.size < v3.heap.size := by rw [← hw]; simp
            have R3 := hid (show v3.ownsRow wd.heap.size 114 2 (.slice (some ⟨v2.heap.size, 0, none⟩) 0 0) 0 [] from by rw [← hw]; exact World.ownsRow_made _ _ _ (T2.out).size (by simp [maxLen]) (by simp))
            first | rw [hw] | (simp only [Ent.cells] at hw; rw [hw])
            clear hw
            have T3 := hid ((T2.out).trans (K3.out.mono (T2.out).size))
            have X3 := hid (x_below K3.out Z2 X2.out)
            have Y3 : wd.heap.size < v3.heap.size := by omega
            refine wpOrd_op rfl ?_
            have A4 := hid (ent_take_cells (own_below HOd.out T3.out) c1)
            go_wp2_with (at_builtin; refine wpList_appendK _ rfl _ _ 104 rfl wd.heap.size 114 _ 2 16 Try.underlying104 Try.infoEntry rfl (by decide) _ _ _ rfl R3.out ⟨g1, 0, none⟩ c1 c1 (entCells (L1.take c1)) (by go_simp) (by rw [entCells_length, List.length_take]; have := HN1.out; omega) A4.out (entCells_one _) (by omega) (by decide) (T3.out).size ?_)
            intro B4 d4 v4 o4 k4 f4
            have T4 := hid ((T3.out).trans (k4.below (B := wd.heap.size) (T3.out).size (fun q h => (World.ownsRow.lt R3.out q h).1)))
            have X4 := hid (x_keep k4 Y3 (fun h => by simp only [Value.ownBlock, Option.some.injEq] at h; omega) X3.out)
            have Y4 : wd.heap.size < v4.heap.size := Nat.lt_of_lt_of_le Y3 k4.size
            have R4 := hid o4
            clear o4 k4 f4
            refine wpOrd_op rfl ?_
            go_wp2_with (at_builtin; refine wpList_appendK _ rfl _ _ 104 rfl wd.heap.size 114 _ 2 16 Try.underlying104 Try.infoEntry rfl (by decide) _ _ _ rfl R4.out ⟨wd.heap.size, 0, none⟩ 1 1 (Ent.cells ⟨tx, k⟩) (by go_simp) rfl X4.out (by intro u hu; simp [Ent.cells] at hu; rcases hu with rfl | rfl <;> rfl) (by omega) (by decide) (T4.out).size ?_)
            intro B5 d5 v5 o5 k5 f5
            have T5 := hid ((T4.out).trans (k5.below (B := wd.heap.size) (T4.out).size (fun q h => (World.ownsRow.lt R4.out q h).1)))
            have R5 := hid o5
            clear o5 k5 f5
            refine wpOrd_op rfl ?_
            go_wp2_with (at_builtin; refine wpList_appendK _ rfl _ _ 104 rfl wd.heap.size 114 _ 2 16 Try.underlying104 Try.infoEntry rfl (by decide) _ _ _ rfl R5.out ⟨g1, 0, none⟩ 0 0 [] (by go_simp) rfl (by intro j u hu; simp at hu) (by intro u hu; simp at hu) (by omega) (by decide) (T5.out).size ?_)
            intro B6 d6 v6 o6 k6 f6
            have T6 := hid ((T5.out).trans (k6.below (B := wd.heap.size) (T5.out).size (fun q h => (World.ownsRow.lt R5.out q h).1)))
            have R6 := hid o6
            clear o6 k6 f6
            repeat (refine wpOrd_val rfl ?_; go_big_quiet_step (fail); refine wpQuiet_nil ?_)
            refine wpOrd_nil ?_
            have HX : Hid (∀ xs, xs = entCells (L1.take c1) ++ ((Ent.cells ⟨tx, k⟩) ++ entCells (L1.drop c1)) → xs = entCells (insE ⟨tx, k⟩ L1)) := by
              intro xs h
              rw [h, HINS.out, entCells_append]; simp [entCells]
            have HBF := hid (HB9.out.trans ((HBd.out.trans (T6.out.mono hzd)).mono HB9.out.size))
            have HLE : Hid (w.heap.size ≤ wd.heap.size) := by rw [Hid]; omega
            go_wp2_with fail
            go_ret2
            exact ⟨_, rfl, fin_row R6.out HLE.out (HX.out _ (by rw [show L1.drop c1 = [] from List.drop_of_length_le (by rw [HN1.out]; omega)]; simp [entCells])), HBF.out⟩
      · have hcc2 : n1 < c1 := by omega
        go_wp2_with fail
        refine wp_region_ord (.val 1 (.val 2 (.val 3 (.val 8 (.val 9 (.val 10 (.two 0 (.two 4 (.op 5 (.op 6 (.op 7 (.op 11 (.val 12 (.val 13 (.nil))))))) 5 (.two 4 (.op 6 (.op 7 (.op 11 (.val 12 (.val 13 (.nil)))))) 6 (.op 4 (.op 7 (.op 11 (.val 12 (.val 13 (.nil)))))))) 5 (.two 0 (.two 4 (.op 6 (.op 7 (.op 11 (.val 12 (.val 13 (.nil)))))) 6 (.op 4 (.op 7 (.op 11 (.val 12 (.val 13 (.nil))))))) 6 (.op 0 (.op 4 (.op 7 (.op 11 (.val 12 (.val 13 (.nil))))))))))))))) (by kernel_rfl) (by kernel_rfl) ?_
        obtain ⟨wd, hwd⟩ : ∃ q, w9.drewN 1 = q := ⟨_, rfl⟩
        have HBd : Hid (Below w9.heap.size w9 wd) := by rw [← hwd]; exact drewN_below _ 1
        have hzd : w9.heap.size ≤ wd.heap.size := HBd.out.size
        rw [hwd]
        clear hwd
        have HOd := hid (own_below HO9.out HBd.out)
        have x0d := (HBd.out.cell (p := ⟨w1.heap.size, 0, none⟩) hbx).trans x09
        have x1d := (HBd.out.cell (p := ⟨w1.heap.size, 1, none⟩) hbx).trans x19
        clear x09 x19
        have hz9 := HB9.out.size
        have hbxd : w1.heap.size < wd.heap.size := by omega
        repeat (refine wpOrd_val rfl ?_; go_big_quiet_step (fail); refine wpQuiet_nil ?_)
        refine wpOrd_two rfl rfl ?_ ?_
        · go_wp2_with fail
          obtain ⟨v1, hw⟩ : ∃ q, wd.alloc (.cells #[] 114) = q := ⟨_, rfl⟩
          have K1 := hid (show Below wd.heap.size wd v1 from by rw [← hw]; exact (Below.refl _ _).alloc (Nat.le_refl _) _)
          have Z1 : wd.heap.size < v1.heap.size := by rw [← hw]; simp
          have R1 := hid (show v1.ownsRow wd.heap.size 114 2 (.slice (some ⟨wd.heap.size, 0, none⟩) 0 0) 0 [] from by rw [← hw]; exact World.ownsRow_made _ _ _ ((Below.refl wd.heap.size wd)).size (by simp [maxLen]) (by simp))
          first | rw [hw] | (simp only [Ent.cells] at hw; rw [hw])
          clear hw
          have T1 := hid (((Below.refl wd.heap.size wd)).trans (K1.out.mono ((Below.refl wd.heap.size wd)).size))
          refine wpOrd_two rfl rfl ?_ ?_
          · have A2 := hid (ent_take_cells (own_below HOd.out T1.out) n1)
            go_wp2_with (at_builtin; refine wpList_appendK _ rfl _ _ 104 rfl wd.heap.size 114 _ 2 16 Try.underlying104 Try.infoEntry rfl (by decide) _ _ _ rfl R1.out ⟨g1, 0, none⟩ n1 c1 (entCells (L1.take n1)) (by go_simp) (by rw [entCells_length, List.length_take]; have := HN1.out; omega) A2.out (entCells_one _) (by omega) (by decide) (T1.out).size ?_)
            intro B2 d2 v2 o2 k2 f2
            have T2 := hid ((T1.out).trans (k2.below (B := wd.heap.size) (T1.out).size (fun q h => (World.ownsRow.lt R1.out q h).1)))
            have R2 := hid o2
            clear o2 k2 f2
            refine wpOrd_op rfl ?_
            have y0 := ((T2.out).cell (p := ⟨w1.heap.size, 0, none⟩) hbxd).trans x0d
            have y1 := ((T2.out).cell (p := ⟨w1.heap.size, 1, none⟩) hbxd).trans x1d
            go_wp2_with fail
            refine wpOrd_op rfl ?_
            go_wp2_with fail
            obtain ⟨v4, hw⟩ : ∃ q, v2.alloc (.cells (Ent.cells ⟨tx, k⟩).toArray 114) = q := ⟨_, rfl⟩
            have K4 := hid (show Below v2.heap.size v2 v4 from by rw [← hw]; exact (Below.refl _ _).alloc (Nat.le_refl _) _)
            have Z4 : v2.heap.size < v4.heap.size := by rw [← hw]; simp
            have X4 := hid (show ∀ j u, (Ent.cells ⟨tx, k⟩)[j]? = some u → v4.cell? ((⟨v2.heap.size, 0, none⟩ : Addr).add j) = some u from by rw [← hw]; exact cells_new)
            first | rw [hw] | (simp only [Ent.cells] at hw; rw [hw])
            clear hw
            have T4 := hid ((T2.out).trans (K4.out.mono (T2.out).size))
            have R4 := hid (own_below R2.out K4.out)
            refine wpOrd_op rfl ?_
            go_wp2_with (at_builtin; refine wpList_appendK _ rfl _ _ 104 rfl wd.heap.size 114 _ 2 16 Try.underlying104 Try.infoEntry rfl (by decide) _ _ _ rfl R4.out ⟨v2.heap.size, 0, none⟩ 1 1 (Ent.cells ⟨tx, k⟩) (by go_simp) rfl X4.out (by intro u hu; simp [Ent.cells] at hu; rcases hu with rfl | rfl <;> rfl) (by omega) (by decide) (T4.out).size ?_)
            intro B5 d5 v5 o5 k5 f5
            have T5 := hid ((T4.out).trans (k5.below (B := wd.heap.size) (T4.out).size (fun q h => (World.ownsRow.lt R4.out q h).1)))
            have R5 := hid o5
            clear o5 k5 f5
            refine wpOrd_op rfl ?_
            go_wp2_with (at_builtin; refine wpList_appendK _ rfl _ _ 104 rfl wd.heap.size 114 _ 2 16 Try.underlying104 Try.infoEntry rfl (by decide) _ _ _ rfl R5.out ⟨g1, n1 * 2, none⟩ 0 (c1 - n1) [] (by go_simp) rfl (by intro j u hu; simp at hu) (by intro u hu; simp at hu) (by omega) (by decide) (T5.out).size ?_)
            intro B6 d6 v6 o6 k6 f6
            have T6 := hid ((T5.out).trans (k6.below (B := wd.heap.size) (T5.out).size (fun q h => (World.ownsRow.lt R5.out q h).1)))
            have R6 := hid o6
            clear o6 k6 f6
            repeat (refine wpOrd_val rfl ?_; go_big_quiet_step (fail); refine wpQuiet_nil ?_)
            refine wpOrd_nil ?_
            have HX : Hid (∀ xs, xs = entCells (L1.take n1) ++ ((Ent.cells ⟨tx, k⟩) ++ entCells (L1.drop n1)) → xs = entCells (insE ⟨tx, k⟩ L1)) := by
              intro xs h
              rw [h, HINS.out, entCells_append]; simp [entCells]
            have HBF := hid (HB9.out.trans ((HBd.out.trans (T6.out.mono hzd)).mono HB9.out.size))
            have HLE : Hid (w.heap.size ≤ wd.heap.size) := by rw [Hid]; omega
            go_wp2_with fail
            go_ret2
            exact ⟨_, rfl, fin_row R6.out HLE.out (HX.out _ (by rw [show L1.drop n1 = [] from List.drop_of_length_le (by rw [HN1.out]; omega)]; simp [entCells])), HBF.out⟩
          · have y0 := ((T1.out).cell (p := ⟨w1.heap.size, 0, none⟩) hbxd).trans x0d
            have y1 := ((T1.out).cell (p := ⟨w1.heap.size, 1, none⟩) hbxd).trans x1d
            go_wp2_with fail
            refine wpOrd_two rfl rfl ?_ ?_
            · have A3 := hid (ent_take_cells (own_below HOd.out T1.out) n1)
              go_wp2_with (at_builtin; refine wpList_appendK _ rfl _ _ 104 rfl wd.heap.size 114 _ 2 16 Try.underlying104 Try.infoEntry rfl (by decide) _ _ _ rfl R1.out ⟨g1, 0, none⟩ n1 c1 (entCells (L1.take n1)) (by go_simp) (by rw [entCells_length, List.length_take]; have := HN1.out; omega) A3.out (entCells_one _) (by omega) (by decide) (T1.out).size ?_)
              intro B3 d3 v3 o3 k3 f3
              have T3 := hid ((T1.out).trans (k3.below (B := wd.heap.size) (T1.out).size (fun q h => (World.ownsRow.lt R1.out q h).1)))
              have R3 := hid o3
              clear o3 k3 f3
              refine wpOrd_op rfl ?_
              go_wp2_with fail
              obtain ⟨v4, hw⟩ : ∃ q, v3.alloc (.cells (Ent.cells ⟨tx, k⟩).toArray 114) = q := ⟨_, rfl⟩
              have K4 := hid (show Below v3.heap.size v3 v4 from by rw [← hw]; exact (Below.refl _ _).alloc (Nat.le_refl _) _)
              have Z4 : v3.heap.size < v4.heap.size := by rw [← hw]; simp
              have X4 := hid (show ∀ j u, (Ent.cells ⟨tx, k⟩)[j]? = some u → v4.cell? ((⟨v3.heap.size, 0, none⟩ : Addr).add j) = some u from by rw [← hw]; exact cells_new)
              first | rw [hw] | (simp only [Ent.cells] at hw; rw [hw])
              clear hw
              have T4 := hid ((T3.out).trans (K4.out.mono (T3.out).size))
              have R4 := hid (own_below R3.out K4.out)
              refine wpOrd_op rfl ?_
              go_wp2_with (at_builtin; refine wpList_appendK _ rfl _ _ 104 rfl wd.heap.size 114 _ 2 16 Try.underlying104 Try.infoEntry rfl (by decide) _ _ _ rfl R4.out ⟨v3.heap.size, 0, none⟩ 1 1 (Ent.cells ⟨tx, k⟩) (by go_simp) rfl X4.out (by intro u hu; simp [Ent.cells] at hu; rcases hu with rfl | rfl <;> rfl) (by omega) (by decide) (T4.out).size ?_)
              intro B5 d5 v5 o5 k5 f5
              have T5 := hid ((T4.out).trans (k5.below (B := wd.heap.size) (T4.out).size (fun q h => (World.ownsRow.lt R4.out q h).1)))
              have R5 := hid o5
              clear o5 k5 f5
              refine wpOrd_op rfl ?_
              go_wp2_with (at_builtin; refine wpList_appendK _ rfl _ _ 104 rfl wd.heap.size 114 _ 2 16 Try.underlying104 Try.infoEntry rfl (by decide) _ _ _ rfl R5.out ⟨g1, n1 * 2, none⟩ 0 (c1 - n1) [] (by go_simp) rfl (by intro j u hu; simp at hu) (by intro u hu; simp at hu) (by omega) (by decide) (T5.out).size ?_)
              intro B6 d6 v6 o6 k6 f6
              have T6 := hid ((T5.out).trans (k6.below (B := wd.heap.size) (T5.out).size (fun q h => (World.ownsRow.lt R5.out q h).1)))
              have R6 := hid o6
              clear o6 k6 f6
              repeat (refine wpOrd_val rfl ?_; go_big_quiet_step (fail); refine wpQuiet_nil ?_)
              refine wpOrd_nil ?_
              have HX : Hid (∀ xs, xs = entCells (L1.take n1) ++ ((Ent.cells ⟨tx, k⟩) ++ entCells (L1.drop n1)) → xs = entCells (insE ⟨tx, k⟩ L1)) := by
                intro xs h
                rw [h, HINS.out, entCells_append]; simp [entCells]
              have HBF := hid (HB9.out.trans ((HBd.out.trans (T6.out.mono hzd)).mono HB9.out.size))
              have HLE : Hid (w.heap.size ≤ wd.heap.size) := by rw [Hid]; omega
              go_wp2_with fail
              go_ret2
              exact ⟨_, rfl, fin_row R6.out HLE.out (HX.out _ (by rw [show L1.drop n1 = [] from List.drop_of_length_le (by rw [HN1.out]; omega)]; simp [entCells])), HBF.out⟩
            · go_wp2_with fail
              obtain ⟨v3, hw⟩ : ∃ q, v1.alloc (.cells (Ent.cells ⟨tx, k⟩).toArray 114) = q := ⟨_, rfl⟩
              have K3 := hid (show Below v1.heap.size v1 v3 from by rw [← hw]; exact (Below.refl _ _).alloc (Nat.le_refl _) _)
              have Z3 : v1.heap.size < v3.heap.size := by rw [← hw]; simp
              have X3 := hid (show ∀ j u, (Ent.cells ⟨tx, k⟩)[j]? = some u → v3.cell? ((⟨v1.heap.size, 0, none⟩ : Addr).add j) = some u from by rw [← hw]; exact cells_new)
              first | rw [hw] | (simp only [Ent.cells] at hw; rw [hw])
              clear hw
              have T3 := hid ((T1.out).trans (K3.out.mono (T1.out).size))
              have R3 := hid (own_below R1.out K3.out)
              refine wpOrd_op rfl ?_
              have A4 := hid (ent_take_cells (own_below HOd.out T3.out) n1)
              go_wp2_with (at_builtin; refine wpList_appendK _ rfl _ _ 104 rfl wd.heap.size 114 _ 2 16 Try.underlying104 Try.infoEntry rfl (by decide) _ _ _ rfl R3.out ⟨g1, 0, none⟩ n1 c1 (entCells (L1.take n1)) (by go_simp) (by rw [entCells_length, List.length_take]; have := HN1.out; omega) A4.out (entCells_one _) (by omega) (by decide) (T3.out).size ?_)
              intro B4 d4 v4 o4 k4 f4
              have T4 := hid ((T3.out).trans (k4.below (B := wd.heap.size) (T3.out).size (fun q h => (World.ownsRow.lt R3.out q h).1)))
              have X4 := hid (x_keep k4 Z3 (fun h => by simp only [Value.ownBlock, Option.some.injEq] at h; omega) X3.out)
              have Y4 : v1.heap.size < v4.heap.size := Nat.lt_of_lt_of_le Z3 k4.size
              have R4 := hid o4
              clear o4 k4 f4
              refine wpOrd_op rfl ?_
              go_wp2_with (at_builtin; refine wpList_appendK _ rfl _ _ 104 rfl wd.heap.size 114 _ 2 16 Try.underlying104 Try.infoEntry rfl (by decide) _ _ _ rfl R4.out ⟨v1.heap.size, 0, none⟩ 1 1 (Ent.cells ⟨tx, k⟩) (by go_simp) rfl X4.out (by intro u hu; simp [Ent.cells] at hu; rcases hu with rfl | rfl <;> rfl) (by omega) (by decide) (T4.out).size ?_)
              intro B5 d5 v5 o5 k5 f5
              have T5 := hid ((T4.out).trans (k5.below (B := wd.heap.size) (T4.out).size (fun q h => (World.ownsRow.lt R4.out q h).1)))
              have R5 := hid o5
              clear o5 k5 f5
              refine wpOrd_op rfl ?_
              go_wp2_with (at_builtin; refine wpList_appendK _ rfl _ _ 104 rfl wd.heap.size 114 _ 2 16 Try.underlying104 Try.infoEntry rfl (by decide) _ _ _ rfl R5.out ⟨g1, n1 * 2, none⟩ 0 (c1 - n1) [] (by go_simp) rfl (by intro j u hu; simp at hu) (by intro u hu; simp at hu) (by omega) (by decide) (T5.out).size ?_)
              intro B6 d6 v6 o6 k6 f6
              have T6 := hid ((T5.out).trans (k6.below (B := wd.heap.size) (T5.out).size (fun q h => (World.ownsRow.lt R5.out q h).1)))
              have R6 := hid o6
              clear o6 k6 f6
              repeat (refine wpOrd_val rfl ?_; go_big_quiet_step (fail); refine wpQuiet_nil ?_)
              refine wpOrd_nil ?_
              have HX : Hid (∀ xs, xs = entCells (L1.take n1) ++ ((Ent.cells ⟨tx, k⟩) ++ entCells (L1.drop n1)) → xs = entCells (insE ⟨tx, k⟩ L1)) := by
                intro xs h
                rw [h, HINS.out, entCells_append]; simp [entCells]
              have HBF := hid (HB9.out.trans ((HBd.out.trans (T6.out.mono hzd)).mono HB9.out.size))
              have HLE : Hid (w.heap.size ≤ wd.heap.size) := by rw [Hid]; omega
              go_wp2_with fail
              go_ret2
              exact ⟨_, rfl, fin_row R6.out HLE.out (HX.out _ (by rw [show L1.drop n1 = [] from List.drop_of_length_le (by rw [HN1.out]; omega)]; simp [entCells])), HBF.out⟩
        · have y0 := (((Below.refl wd.heap.size wd)).cell (p := ⟨w1.heap.size, 0, none⟩) hbxd).trans x0d
          have y1 := (((Below.refl wd.heap.size wd)).cell (p := ⟨w1.heap.size, 1, none⟩) hbxd).trans x1d
          go_wp2_with fail
          refine wpOrd_two rfl rfl ?_ ?_
          · go_wp2_with fail
            obtain ⟨v2, hw⟩ : ∃ q, wd.alloc (.cells #[] 114) = q := ⟨_, rfl⟩
            have K2 := hid (show Below wd.heap.size wd v2 from by rw [← hw]; exact (Below.refl _ _).alloc (Nat.le_refl _) _)
            have Z2 : wd.heap.size < v2.heap.size := by rw [← hw]; simp
            have R2 := hid (show v2.ownsRow wd.heap.size 114 2 (.slice (some ⟨wd.heap.size, 0, none⟩) 0 0) 0 [] from by rw [← hw]; exact World.ownsRow_made _ _ _ ((Below.refl wd.heap.size wd)).size (by simp [maxLen]) (by simp))
            first | rw [hw] | (simp only [Ent.cells] at hw; rw [hw])
            clear hw
            have T2 := hid (((Below.refl wd.heap.size wd)).trans (K2.out.mono ((Below.refl wd.heap.size wd)).size))
            refine wpOrd_two rfl rfl ?_ ?_
            · have A3 := hid (ent_take_cells (own_below HOd.out T2.out) n1)
              go_wp2_with (at_builtin; refine wpList_appendK _ rfl _ _ 104 rfl wd.heap.size 114 _ 2 16 Try.underlying104 Try.infoEntry rfl (by decide) _ _ _ rfl R2.out ⟨g1, 0, none⟩ n1 c1 (entCells (L1.take n1)) (by go_simp) (by rw [entCells_length, List.length_take]; have := HN1.out; omega) A3.out (entCells_one _) (by omega) (by decide) (T2.out).size ?_)
              intro B3 d3 v3 o3 k3 f3
              have T3 := hid ((T2.out).trans (k3.below (B := wd.heap.size) (T2.out).size (fun q h => (World.ownsRow.lt R2.out q h).1)))
              have R3 := hid o3
              clear o3 k3 f3
              refine wpOrd_op rfl ?_
              go_wp2_with fail
              obtain ⟨v4, hw⟩ : ∃ q, v3.alloc (.cells (Ent.cells ⟨tx, k⟩).toArray 114) = q := ⟨_, rfl⟩
              have K4 := hid (show Below v3.heap.size v3 v4 from by rw [← hw]; exact (Below.refl _ _).alloc (Nat.le_refl _) _)
              have Z4 : v3.heap.size < v4.heap.size := by rw [← hw]; simp
              have X4 := hid (show ∀ j u, (Ent.cells ⟨tx, k⟩)[j]? = some u → v4.cell? ((⟨v3.heap.size, 0, none⟩ : Addr).add j) = some u from by rw [← hw]; exact cells_new)
              first | rw [hw] | (simp only [Ent.cells] at hw; rw [hw])
              clear hw
              have T4 := hid ((T3.out).trans (K4.out.mono (T3.out).size))
              have R4 := hid (own_below R3.out K4.out)
              refine wpOrd_op rfl ?_
              go_wp2_with (at_builtin; refine wpList_appendK _ rfl _ _ 104 rfl wd.heap.size 114 _ 2 16 Try.underlying104 Try.infoEntry rfl (by decide) _ _ _ rfl R4.out ⟨v3.heap.size, 0, none⟩ 1 1 (Ent.cells ⟨tx, k⟩) (by go_simp) rfl X4.out (by intro u hu; simp [Ent.cells] at hu; rcases hu with rfl | rfl <;> rfl) (by omega) (by decide) (T4.out).size ?_)
              intro B5 d5 v5 o5 k5 f5
              have T5 := hid ((T4.out).trans (k5.below (B := wd.heap.size) (T4.out).size (fun q h => (World.ownsRow.lt R4.out q h).1)))
              have R5 := hid o5
              clear o5 k5 f5
              refine wpOrd_op rfl ?_
              go_wp2_with (at_builtin; refine wpList_appendK _ rfl _ _ 104 rfl wd.heap.size 114 _ 2 16 Try.underlying104 Try.infoEntry rfl (by decide) _ _ _ rfl R5.out ⟨g1, n1 * 2, none⟩ 0 (c1 - n1) [] (by go_simp) rfl (by intro j u hu; simp at hu) (by intro u hu; simp at hu) (by omega) (by decide) (T5.out).size ?_)
              intro B6 d6 v6 o6 k6 f6
              have T6 := hid ((T5.out).trans (k6.below (B := wd.heap.size) (T5.out).size (fun q h => (World.ownsRow.lt R5.out q h).1)))
              have R6 := hid o6
              clear o6 k6 f6
              repeat (refine wpOrd_val rfl ?_; go_big_quiet_step (fail); refine wpQuiet_nil ?_)
              refine wpOrd_nil ?_
              have HX : Hid (∀ xs, xs = entCells (L1.take n1) ++ ((Ent.cells ⟨tx, k⟩) ++ entCells (L1.drop n1)) → xs = entCells (insE ⟨tx, k⟩ L1)) := by
                intro xs h
                rw [h, HINS.out, entCells_append]; simp [entCells]
              have HBF := hid (HB9.out.trans ((HBd.out.trans (T6.out.mono hzd)).mono HB9.out.size))
              have HLE : Hid (w.heap.size ≤ wd.heap.size) := by rw [Hid]; omega
              go_wp2_with fail
              go_ret2
              exact ⟨_, rfl, fin_row R6.out HLE.out (HX.out _ (by rw [show L1.drop n1 = [] from List.drop_of_length_le (by rw [HN1.out]; omega)]; simp [entCells])), HBF.out⟩
            · go_wp2_with fail
              obtain ⟨v3, hw⟩ : ∃ q, v2.alloc (.cells (Ent.cells ⟨tx, k⟩).toArray 114) = q := ⟨_, rfl⟩
              have K3 := hid (show Below v2.heap.size v2 v3 from by rw [← hw]; exact (Below.refl _ _).alloc (Nat.le_refl _) _)
              have Z3 : v2.heap.size < v3.heap.size := by rw [← hw]; simp
              have X3 := hid (show ∀ j u, (Ent.cells ⟨tx, k⟩)[j]? = some u → v3.cell? ((⟨v2.heap.size, 0, none⟩ : Addr).add j) = some u from by rw [← hw]; exact cells_new)
              first | rw [hw] | (simp only [Ent.cells] at hw; rw [hw])
              clear hw
              have T3 := hid ((T2.out).trans (K3.out.mono (T2.out).size))
              have R3 := hid (own_below R2.out K3.out)
              refine wpOrd_op rfl ?_
              have A4 := hid (ent_take_cells (own_below HOd.out T3.out) n1)
              go_wp2_with (at_builtin; refine wpList_appendK _ rfl _ _ 104 rfl wd.heap.size 114 _ 2 16 Try.underlying104 Try.infoEntry rfl (by decide) _ _ _ rfl R3.out ⟨g1, 0, none⟩ n1 c1 (entCells (L1.take n1)) (by go_simp) (by rw [entCells_length, List.length_take]; have := HN1.out; omega) A4.out (entCells_one _) (by omega) (by decide) (T3.out).size ?_)
              intro B4 d4 v4 o4 k4 f4
              have T4 := hid ((T3.out).trans (k4.below (B := wd.heap.size) (T3.out).size (fun q h => (World.ownsRow.lt R3.out q h).1)))
              have X4 := hid (x_keep k4 Z3 (fun h => by simp only [Value.ownBlock, Option.some.injEq] at h; omega) X3.out)
              have Y4 : v2.heap.size < v4.heap.size := Nat.lt_of_lt_of_le Z3 k4.size
              have R4 := hid o4
              clear o4 k4 f4
              refine wpOrd_op rfl ?_
              go_wp2_with (at_builtin; refine wpList_appendK _ rfl _ _ 104 rfl wd.heap.size 114 _ 2 16 Try.underlying104 Try.infoEntry rfl (by decide) _ _ _ rfl R4.out ⟨v2.heap.size, 0, none⟩ 1 1 (Ent.cells ⟨tx, k⟩) (by go_simp) rfl X4.out (by intro u hu; simp [Ent.cells] at hu; rcases hu with rfl | rfl <;> rfl) (by omega) (by decide) (T4.out).size ?_)
              intro B5 d5 v5 o5 k5 f5
              have T5 := hid ((T4.out).trans (k5.below (B := wd.heap.size) (T4.out).size (fun q h => (World.ownsRow.lt R4.out q h).1)))
              have R5 := hid o5
              clear o5 k5 f5
              refine wpOrd_op rfl ?_
              go_wp2_with (at_builtin; refine wpList_appendK _ rfl _ _ 104 rfl wd.heap.size 114 _ 2 16 Try.underlying104 Try.infoEntry rfl (by decide) _ _ _ rfl R5.out ⟨g1, n1 * 2, none⟩ 0 (c1 - n1) [] (by go_simp) rfl (by intro j u hu; simp at hu) (by intro u hu; simp at hu) (by omega) (by decide) (T5.out).size ?_)
              intro B6 d6 v6 o6 k6 f6
              have T6 := hid ((T5.out).trans (k6.below (B := wd.heap.size) (T5.out).size (fun q h => (World.ownsRow.lt R5.out q h).1)))
              have R6 := hid o6
              clear o6 k6 f6
              repeat (refine wpOrd_val rfl ?_; go_big_quiet_step (fail); refine wpQuiet_nil ?_)
              refine wpOrd_nil ?_
              have HX : Hid (∀ xs, xs = entCells (L1.take n1) ++ ((Ent.cells ⟨tx, k⟩) ++ entCells (L1.drop n1)) → xs = entCells (insE ⟨tx, k⟩ L1)) := by
                intro xs h
                rw [h, HINS.out, entCells_append]; simp [entCells]
              have HBF := hid (HB9.out.trans ((HBd.out.trans (T6.out.mono hzd)).mono HB9.out.size))
              have HLE : Hid (w.heap.size ≤ wd.heap.size) := by rw [Hid]; omega
              go_wp2_with fail
              go_ret2
              exact ⟨_, rfl, fin_row R6.out HLE.out (HX.out _ (by rw [show L1.drop n1 = [] from List.drop_of_length_le (by rw [HN1.out]; omega)]; simp [entCells])), HBF.out⟩
          · go_wp2_with fail
            obtain ⟨v2, hw⟩ : ∃ q, wd.alloc (.cells (Ent.cells ⟨tx, k⟩).toArray 114) = q := ⟨_, rfl⟩
            have K2 := hid (show Below wd.heap.size wd v2 from by rw [← hw]; exact (Below.refl _ _).alloc (Nat.le_refl _) _)
            have Z2 : wd.heap.size < v2.heap.size := by rw [← hw]; simp
            have X2 := hid (show ∀ j u, (Ent.cells ⟨tx, k⟩)[j]? = some u → v2.cell? ((⟨wd.heap.size, 0, none⟩ : Addr).add j) = some u from by rw [← hw]; exact cells_new)
            first | rw [hw] | (simp only [Ent.cells] at hw; rw [hw])
            clear hw
            have T2 := hid (((Below.refl wd.heap.size wd)).trans (K2.out.mono ((Below.refl wd.heap.size wd)).size))
            refine wpOrd_op rfl ?_
            go_wp2_with fail
            obtain ⟨v3, hw⟩ : ∃ q, v2.alloc (.cells #[] 114) = q := ⟨_, rfl⟩
            have K3 := hid (show Below v2.heap.size v2 v3 from by rw [← hw]; exact (Below.refl _ _).alloc (Nat.le_refl _) _)
            have Z3 : v2.heap.size < v3.heap.size := by rw [← hw]; simp
            have R3 := hid (show v3.ownsRow wd.heap.size 114 2 (.slice (some ⟨v2.heap.size, 0, none⟩) 0 0) 0 [] from by rw [← hw]; exact World.ownsRow_made _ _ _ (T2.out).size (by simp [maxLen]) (by simp))
            first | rw [hw] | (simp only [Ent.cells] at hw; rw [hw])
            clear hw
            have T3 := hid ((T2.out).trans (K3.out.mono (T2.out).size))
            have X3 := hid (x_below K3.out Z2 X2.out)
            have Y3 : wd.heap.size < v3.heap.size := by omega
            refine wpOrd_op rfl ?_
            have A4 := hid (ent_take_cells (own_below HOd.out T3.out) n1)
            go_wp2_with (at_builtin; refine wpList_appendK _ rfl _ _ 104 rfl wd.heap.size 114 _ 2 16 Try.underlying104 Try.infoEntry rfl (by decide) _ _ _ rfl R3.out ⟨g1, 0, none⟩ n1 c1 (entCells (L1.take n1)) (by go_simp) (by rw [entCells_length, List.length_take]; have := HN1.out; omega) A4.out (entCells_one _) (by omega) (by decide) (T3.out).size ?_)
            intro B4 d4 v4 o4 k4 f4
            have T4 := hid ((T3.out).trans (k4.below (B := wd.heap.size) (T3.out).size (fun q h => (World.ownsRow.lt R3.out q h).1)))
            have X4 := hid (x_keep k4 Y3 (fun h => by simp only [Value.ownBlock, Option.some.injEq] at h; omega) X3.out)
            have Y4 : wd.heap.size < v4.heap.size := Nat.lt_of_lt_of_le Y3 k4.size
            have R4 := hid o4
            clear o4 k4 f4
            refine wpOrd_op rfl ?_
            go_wp2_with (at_builtin; refine wpList_appendK _ rfl _ _ 104 rfl wd.heap.size 114 _ 2 16 Try.underlying104 Try.infoEntry rfl (by decide) _ _ _ rfl R4.out ⟨wd.heap.size, 0, none⟩ 1 1 (Ent.cells ⟨tx, k⟩) (by go_simp) rfl X4.out (by intro u hu; simp [Ent.cells] at hu; rcases hu with rfl | rfl <;> rfl) (by omega) (by decide) (T4.out).size ?_)
            intro B5 d5 v5 o5 k5 f5
            have T5 := hid ((T4.out).trans (k5.below (B := wd.heap.size) (T4.out).size (fun q h => (World.ownsRow.lt R4.out q h).1)))
            have R5 := hid o5
            clear o5 k5 f5
            refine wpOrd_op rfl ?_
            go_wp2_with (at_builtin; refine wpList_appendK _ rfl _ _ 104 rfl wd.heap.size 114 _ 2 16 Try.underlying104 Try.infoEntry rfl (by decide) _ _ _ rfl R5.out ⟨g1, n1 * 2, none⟩ 0 (c1 - n1) [] (by go_simp) rfl (by intro j u hu; simp at hu) (by intro u hu; simp at hu) (by omega) (by decide) (T5.out).size ?_)
            intro B6 d6 v6 o6 k6 f6
            have T6 := hid ((T5.out).trans (k6.below (B := wd.heap.size) (T5.out).size (fun q h => (World.ownsRow.lt R5.out q h).1)))
            have R6 := hid o6
            clear o6 k6 f6
            repeat (refine wpOrd_val rfl ?_; go_big_quiet_step (fail); refine wpQuiet_nil ?_)
            refine wpOrd_nil ?_
            have HX : Hid (∀ xs, xs = entCells (L1.take n1) ++ ((Ent.cells ⟨tx, k⟩) ++ entCells (L1.drop n1)) → xs = entCells (insE ⟨tx, k⟩ L1)) := by
              intro xs h
              rw [h, HINS.out, entCells_append]; simp [entCells]
            have HBF := hid (HB9.out.trans ((HBd.out.trans (T6.out.mono hzd)).mono HB9.out.size))
            have HLE : Hid (w.heap.size ≤ wd.heap.size) := by rw [Hid]; omega
            go_wp2_with fail
            go_ret2
            exact ⟨_, rfl, fin_row R6.out HLE.out (HX.out _ (by rw [show L1.drop n1 = [] from List.drop_of_length_le (by rw [HN1.out]; omega)]; simp [entCells])), HBF.out⟩

end Go.Proofs.Ytdbiodofofnpgaa
namespace Go.Proofs.Ytdbiodofofnpgaa
open Go.RowKit

theorem setR_any (A : Option Addr) (n c : Nat) (l : List Ent) (most k : Nat) (at_ : Int) (w : World) (hl : l.length = n) (hn : n ≤ 100000) (hr : Rd w A (entCells l)) (hk : k < most) :
    Calls Try.prog 56 #[.slice A n c, .int .i64 (most : Int), .int .i64 (k : Int), .int .i64 at_] w fun e w' => ∃ v, e = .returned (.tuple #[v, .bool true]) ∧ w'.ownsRow w.heap.size 114 2 v (setE l k at_).length (entCells (setE l k at_)) ∧ Below w.heap.size w w' := by
  by_cases ha : at_ = neverT
  · have hat : (at_ == 9223372036854775807) = true := by rw [neverB]; simp [ha]
    unfold setE; rw [if_pos ha]
    exact setR_never A n c l most k at_ w hl hn hr hk hat
  · have hat : (at_ == 9223372036854775807) = false := by rw [neverB]; simp [ha]
    unfold setE; rw [if_neg ha]
    exact setR_some A n c l most k at_ w hl hn hr hk hat

end Go.Proofs.Ytdbiodofofnpgaa
