/- Walks: package heap: Due. -/
import Derived.Test.YtdhoedohchbagaaHo
namespace Go.Proofs.Ytdhoedohchbagaa
open Go.RowKit

theorem dues_split {now : Int} {done rest : List Ent} (hd : ∀ e ∈ done, dueT e.t now = true) (hr : ∀ x r, rest = x :: r → dueT x.t now = false) : duesE now (done ++ rest) = done ∧ restE now (done ++ rest) = rest := by
  induction done with
  | nil =>
    cases rest with
    | nil => exact ⟨rfl, rfl⟩
    | cons x r =>
      have := hr x r rfl
      simp only [List.nil_append]
      rw [duesE_cons, restE_cons, this]; exact ⟨rfl, rfl⟩
  | cons y d ih =>
    have hy := hd y (by simp)
    obtain ⟨i1, i2⟩ := ih (fun e he => hd e (by simp [he]))
    rw [List.cons_append, duesE_cons, restE_cons, hy, i1, i2]; exact ⟨rfl, rfl⟩

def headT (l : List Ent) : Int := match l with | [] => 0 | x :: _ => x.t
def headI (l : List Ent) : Int := match l with | [] => 0 | x :: _ => (x.id : Int)
theorem minH_any (g gw m : Nat) (v : Value) (l : List Ent) (w : World) (h : HpI w g gw m v l) :
    Calls Try.prog 71 #[.pointer (some ⟨g, 0, none⟩)] w fun e w' => e = .returned (.tuple #[.agg #[.int .i64 (headT l), .int .i64 (headI l)], .bool (!l.isEmpty)]) ∧ Below w.heap.size w w' := by
  cases l with
  | nil => exact minNone_any g gw m v w h
  | cons x r => exact min_any g gw m v x r w h

def sliceLen : Value → Nat
  | .slice _ n _ => n
  | _ => 0

/-- What Due leaves: the heap, and the row of those that are told. -/
def DuePost (g gw m : Nat) (v : Value) (dues rest : List Ent) (A : Option Addr) (c : Nat) (w w' : World) : Prop :=
  ∃ v', HpI w' g gw m v' rest ∧ Keep (HpF g gw v) w w' ∧ (∀ k, v'.ownBlock = some k → v.ownBlock = some k ∨ w.heap.size ≤ k) ∧
    w'.ownsRow w.heap.size 38 2 (.slice A dues.length c) dues.length (entCells dues) ∧ ∀ k, (Value.slice A dues.length c).ownBlock = some k → ¬ HpF g gw v' k

set_option maxRecDepth 20000 in
set_option maxHeartbeats 800000 in
theorem hDue_any (g gw m : Nat) (v : Value) (l : List Ent) (now : Int) (w : World) (h : HpI w g gw m v l) :
    Calls Try.prog 21 #[.pointer (some ⟨g, 0, none⟩), .int .i64 now] w fun e w' => ∃ A c, e = .returned (.slice A (duesE now l).length c) ∧ DuePost g gw m v (duesE now l) (restE now l) A c w w' := by
  have HI := hid h
  have hm : l.length ≤ 1024 := by obtain ⟨n, L, wh, hr, hh, hn, hm, hnm⟩ := h; omega
  clear h
  go_enter Try.func21, Try.ntmps21
  go_wp2_with fail
  refine (minH_any g gw m v l _ HI.out).mono ?_
  rintro en w1 ⟨rfl, hb1⟩
  have HI1 := hid ((HI.out.below hb1).below ((Below.refl _ _).alloc (Nat.le_refl _) (.cells #[.int .i64 (headT l), .int .i64 (headI l)] 38)))
  have hlt1 := fun x hx => HI.out.lt x hx
  have hs1 := hb1.size
  have HK1 : Hid (Keep (HpF g gw v) w (w1.alloc (.cells #[.int .i64 (headT l), .int .i64 (headI l)] 38))) := (Keep.of_below hb1).trans (Keep.alloc (HpF g gw v) w1 _) (fun _ => .inl)
  have HN1 : Hid (∀ x, HpF g gw v x → x < w.heap.size) := hlt1
  have c0 : (w1.alloc (.cells #[.int .i64 (headT l), .int .i64 (headI l)] 38)).cell? ⟨w1.heap.size, 0, none⟩ = some (.int .i64 (headT l)) := (Blk.new w1 _ _).cell 0
  have c1 : (w1.alloc (.cells #[.int .i64 (headT l), .int .i64 (headI l)] 38)).cell? ⟨w1.heap.size, 1, none⟩ = some (.int .i64 (headI l)) := (Blk.new w1 _ _).cell 1
  have HC0 := hid c0
  have HC1 := hid c1
  clear hb1 hlt1 c0 c1
  go_wp2_with fail
  go_loopw [5, 6, 7] (fun o p ok wr => ∃ (done rest : List Ent) (v' : Value) (A : Option Addr) (c b : Nat), Hid (l = done ++ rest ∧ ∀ e ∈ done, dueT e.t now = true) ∧ o = .slice A done.length c ∧ p = .pointer (some ⟨b, 0, none⟩) ∧ ok = .bool (!rest.isEmpty) ∧
      HpI wr g gw m v' rest ∧ Keep (HpF g gw v) w wr ∧ Hid (∀ k, v'.ownBlock = some k → v.ownBlock = some k ∨ w.heap.size ≤ k) ∧ wr.ownsRow w.heap.size 38 2 (.slice A done.length c) done.length (entCells done) ∧
      Hid (∀ k, (Value.slice A done.length c).ownBlock = some k → ¬ HpF g gw v' k ∧ k ≠ b) ∧ w.heap.size ≤ b ∧ b < wr.heap.size ∧ Hid (¬ HpF g gw v' b) ∧
      wr.cell? ⟨b, 0, none⟩ = some (.int .i64 (headT rest)) ∧ wr.cell? ⟨b, 1, none⟩ = some (.int .i64 (headI rest)))
    (fun o _ _ _ => l.length - sliceLen o)
  case atStart => exact ⟨[], l, v, none, 0, w1.heap.size, ⟨rfl, by simp⟩, rfl, rfl, rfl, HI1.out, HK1.out, fun k hk => .inl hk, World.ownsRow_nil _ _ _ _, fun k hk => by simp [Value.ownBlock] at hk, by omega, by simp, fun hf => absurd (HN1.out _ hf) (by omega), HC0.out, HC1.out⟩
  case round =>
    obtain ⟨done, rest, v', A, c, b, HSP, rfl, rfl, rfl, hi, hk, HV, ho, HO, hwb, hb, HB, b0, b1⟩ := hrel
    have HHI := hid hi
    have HK := hid hk
    have HOW := hid ho
    clear HI1 HK1 HC0 HC1 hi hk ho
    cases rest with
    | nil =>
      have HR : Hid (duesE now l = done ∧ restE now l = []) := by
        obtain ⟨h1, h2⟩ := HSP.out
        rw [h1]; exact dues_split h2 (fun x r h => by cases h)
      go_wp2_with fail
      go_ret
      refine ⟨A, c, by rw [HR.out.1]; rfl, ?_⟩
      rw [HR.out.1, HR.out.2]
      exact ⟨v', HHI.out, HK.out, HV.out, HOW.out, fun k hk => (HO.out k hk).1⟩
    | cons x r =>
      simp only [headT, headI] at b0 b1
      have hle : done.length < l.length := by rw [HSP.out.1]; simp
      cases hdue : dueT x.t now
      · have HR : Hid (duesE now l = done ∧ restE now l = x :: r) := by
          obtain ⟨h1, h2⟩ := HSP.out
          rw [h1]; exact dues_split h2 (fun x' r' h => by injection h with h3 _; rw [← h3]; exact hdue)
        go_wp2_with (go_at_call 79; refine (due_any _ _ _).mono ?_; rw [hdue]; rintro en w2 ⟨rfl, rfl⟩)
        go_ret
        refine ⟨A, c, by rw [HR.out.1]; rfl, ?_⟩
        rw [HR.out.1, HR.out.2]
        exact ⟨v', HHI.out, HK.out, HV.out, HOW.out, fun k hk => (HO.out k hk).1⟩
      · have HD := hid hdue
        have HCUT := hid HHI.out.cutHead
        go_wp2_with (first
          | (go_at_call 79; refine (due_any _ _ _).mono ?_; rw [HD.out]; rintro en w2 ⟨rfl, rfl⟩))
        refine HCUT.out.mono ?_
        rintro en w2 ⟨rfl, hp⟩
        obtain ⟨v2, hi2, hk2, hv2⟩ := hp
        have d0 := (hk2.cell (o := 0) hb HB.out).trans b0
        have d1 := (hk2.cell (o := 1) hb HB.out).trans b1
        have hs2 := hk2.size
        have HOW2 := hid (hk2.own HOW.out (fun k hk => (HO.out k hk).1))
        have hb2 : b < w2.heap.size := by omega
        have HI2 := hid hi2
        have HK2 := hid hk2
        have HV2 := hid hv2
        have HLT2 := hid HI2.out.lt
        have hAb : Hid (∀ k, (Value.slice A done.length c).ownBlock = some k → w.heap.size ≤ k ∧ k < wr.heap.size) := HOW.out.lt
        have HO2 : Hid (∀ k, (Value.slice A done.length c).ownBlock = some k → ¬ HpF g gw v2 k) := by
          intro k hk hf
          rcases hf with hf | hf | hf
          · exact (HO.out k hk).1 (.inl hf)
          · exact (HO.out k hk).1 (.inr (.inl hf))
          · rcases HV2.out k hf with h | h
            · exact (HO.out k hk).1 (.inr (.inr h))
            · have := (hAb.out k hk).2; omega
        clear b0 b1 HCUT hi2 hk2 hv2
        have hwb2 : w.heap.size ≤ w2.heap.size := by omega
        go_wp2_with (at_builtin; refine wpList_append1K _ rfl _ _ 33 rfl w.heap.size 38 _ 2 16 Try.underlying33 Try.infoEntry rfl (by decide) _ _ _ rfl HOW2.out 1 x.cells rfl rfl rfl ?_ (by decide) hwb2 ?_)
        · omega
        intro ge c3 w3 hown3 hk3 hf3
        have hs3 := hk3.size
        have f0 := (hk3.cell (o := 0) hb2 (fun h => (HO.out b h).2 rfl)).trans d0
        have f1 := (hk3.cell (o := 1) hb2 (fun h => (HO.out b h).2 rfl)).trans d1
        have HI3 := hid (HI2.out.keep hk3 (fun x hx h => HO2.out x h hx))
        have hgelt : ge < w3.heap.size := (hown3.lt ge rfl).2
        have hgew : w.heap.size ≤ ge := (hown3.lt ge rfl).1
        have HGE : Hid (¬ HpF g gw v2 ge) := by
          rcases hf3 with h | h
          · exact HO2.out ge h
          · exact fun hf => by have := HLT2.out ge hf; omega
        have HK3 : Hid (Keep (HpF g gw v) w w3) := by
          have k2 := HK.out.trans HK2.out (fun k hk => by
            rcases hk with h | h | h
            · exact .inl (.inl h)
            · exact .inl (.inr (.inl h))
            · exact (HV.out k h).imp (fun h => .inr (.inr h)) id)
          exact k2.trans hk3 (fun k hk => .inr (hAb.out k hk).1)
        have HOW3 := hid hown3
        have HI4 := hid (HI3.out.below ((Below.refl _ _).alloc (Nat.le_refl _) (.cells x.cells.toArray 38)))
        have hb3 : b < w3.heap.size := by omega
        clear d0 d1 hown3 hk3 hf3
        go_wp2_with fail
        refine (minH_any g gw m v2 r _ HI4.out).mono ?_
        rintro en w5 ⟨rfl, hb5⟩
        have hs5 := hb5.size
        rw [World.size_alloc] at hs5
        have HB5 : Hid (Below w3.heap.size w3 w5) := ((Below.refl _ _).alloc (Nat.le_refl _) _).trans (hb5.mono (by simp))
        have HI5 := hid (HI4.out.below hb5)
        have g0 : w5.cell? ⟨w3.heap.size, 0, none⟩ = some (.int .i64 x.t) := (hb5.cell (p := ⟨w3.heap.size, 0, none⟩) (by simp)).trans ((Blk.new w3 _ _).cell 0)
        have g1 : w5.cell? ⟨w3.heap.size, 1, none⟩ = some (.int .i64 (x.id : Int)) := (hb5.cell (p := ⟨w3.heap.size, 1, none⟩) (by simp)).trans ((Blk.new w3 _ _).cell 1)
        have g2 := (hb5.frozen (p := ⟨w3.heap.size, 0, none⟩) (by simp)).trans ((Blk.new w3 _ _).frozen 0)
        have g3 := (hb5.frozen (p := ⟨w3.heap.size, 1, none⟩) (by simp)).trans ((Blk.new w3 _ _).frozen 1)
        have HN3 : Hid (¬ HpF g gw v2 w3.heap.size) := fun h => absurd (HI3.out.lt _ h) (Nat.lt_irrefl _)
        have HK6 := hid (keep_box2 w3.heap.size w5 (.int .i64 (headT r)) (.int .i64 (headI r)))
        have HI6 := hid (HI5.out.keep HK6.out (fun x hx h => HN3.out (h ▸ hx)))
        have HOW6 := hid (HK6.out.own (own_below HOW3.out HB5.out) (fun k hk h => by simp only [Value.ownBlock, Option.some.injEq] at hk; omega))
        have HKK : Hid (Keep (HpF g gw v) w ((w5.setCell ⟨w3.heap.size, 0, none⟩ (.int .i64 (headT r))).setCell ⟨w3.heap.size, 1, none⟩ (.int .i64 (headI r)))) :=
          (HK3.out.trans (Keep.of_below (F := HpF g gw v) HB5.out) (fun _ => .inl)).trans HK6.out (fun k hk => .inr (by omega))
        have s0 : ((w5.setCell ⟨w3.heap.size, 0, none⟩ (.int .i64 (headT r))).setCell ⟨w3.heap.size, 1, none⟩ (.int .i64 (headI r))).cell? ⟨w3.heap.size, 0, none⟩ = some (.int .i64 (headT r)) :=
          (World.cell?_setCell_other _ ⟨w3.heap.size, 1, none⟩ ⟨w3.heap.size, 0, none⟩ _ (by simp)).trans (cell_set_same g0)
        have s1 : ((w5.setCell ⟨w3.heap.size, 0, none⟩ (.int .i64 (headT r))).setCell ⟨w3.heap.size, 1, none⟩ (.int .i64 (headI r))).cell? ⟨w3.heap.size, 1, none⟩ = some (.int .i64 (headI r)) :=
          cell_set_same ((World.cell?_setCell_other _ ⟨w3.heap.size, 0, none⟩ ⟨w3.heap.size, 1, none⟩ _ (by simp)).trans g1)
        have HS0 := hid s0
        have HS1 := hid s1
        have HSP2 : Hid (l = (done ++ [x]) ++ r ∧ ∀ e ∈ done ++ [x], dueT e.t now = true) := by
          refine ⟨by rw [HSP.out.1]; simp, fun e he => ?_⟩
          rcases List.mem_append.1 he with h | h
          · exact HSP.out.2 e h
          · rw [List.mem_singleton.1 h]; exact HD.out
        have HVV : Hid (∀ k, v2.ownBlock = some k → v.ownBlock = some k ∨ w.heap.size ≤ k) := by
          intro k hk
          rcases HV2.out k hk with h | h
          · exact HV.out k h
          · right; have := HK.out.size; omega
        have HOW7 : Hid (((w5.setCell ⟨w3.heap.size, 0, none⟩ (.int .i64 (headT r))).setCell ⟨w3.heap.size, 1, none⟩ (.int .i64 (headI r))).ownsRow w.heap.size 38 2 (.slice (some ⟨ge, 0, none⟩) (done ++ [x]).length c3) (done ++ [x]).length (entCells (done ++ [x]))) := by
          have := HOW6.out
          rw [Hid, entCells_append, List.length_append]
          simpa [entCells] using this
        have HOO : Hid (∀ k, (Value.slice (some ⟨ge, 0, none⟩) (done ++ [x]).length c3).ownBlock = some k → ¬ HpF g gw v2 k ∧ k ≠ w3.heap.size) := by
          intro k hk
          simp only [Value.ownBlock, Option.some.injEq] at hk
          subst hk
          exact ⟨HGE.out, by omega⟩
        clear hb5 s0 s1 f0 f1 HI3 HI4 HI5 HOW6 HOW3
        go_wp2_with fail
        go_roundw
        case rel => exact ⟨done ++ [x], r, v2, some ⟨ge, 0, none⟩, c3, w3.heap.size, HSP2, by simp, rfl, rfl, HI6.out, HKK.out, HVV, HOW7.out, HOO, by omega, by simp; omega, HN3, HS0.out, HS1.out⟩
        case measure => simp [sliceLen]; omega
end Go.Proofs.Ytdhoedohchbagaa
