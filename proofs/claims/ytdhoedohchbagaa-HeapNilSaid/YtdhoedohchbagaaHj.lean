/- Walks: package heap: settle, cut. -/
import Derived.Test.YtdhoedohchbagaaHi
namespace Go.Proofs.Ytdhoedohchbagaa
open Go.RowKit

set_option maxRecDepth 20000 in
set_option maxHeartbeats 800000 in
theorem settle_any (g gw m ge c n : Nat) (A : List Ent) (wh : List Int) (i : Nat) (w : World) (h : HpR w g gw m (.slice (some ⟨ge, 0, none⟩) n c) n A wh) (hi : i < n) (hs : SInv A i) (hw : WhEx A wh m i) (hn : n ≤ 100000) :
    Calls Try.prog 78 #[.pointer (some ⟨g, 0, none⟩), .int .i64 (i : Int)] w fun en w' => en = .returned (.tuple #[]) ∧ DnPost g gw m ge c n A w w' := by
  have hlen := h.len
  have HUP := hid (up_any g gw m ge c n A wh i w h hi hs hw hn)
  have hE := hw.ids i (by omega)
  obtain ⟨e, he⟩ : ∃ e, eg A i = e := ⟨_, rfl⟩
  obtain ⟨e1, e2, -, -⟩ := h.cell_ent hi
  obtain ⟨f0, -, -⟩ := h.fields
  rw [he] at e1 e2 hE
  have HE := hid he
  have HL := hid hlen
  clear h hs hw he hlen
  go_enter Try.func78, Try.ntmps78
  go_wp2_with fail
  refine HUP.out.mono ?_
  rintro en w2 ⟨rfl, A', wh', i', hr2, hp2, hi2, he2, hs2, ho2, hu2, hw2, hk2⟩
  have hl2 := hr2.len
  have HDN := hid (down_any g gw m ge c n A' wh' i' w2 hr2 hi2 ⟨hs2, ho2⟩ (hw2.ex i') hn)
  obtain ⟨f0', f1', -⟩ := hr2.fields
  obtain ⟨q1, -⟩ := hr2.cell_wh (i := e.id) hE
  have hwg : wg wh' e.id = (i' : Int) := by
    have := hw2.at (j := i') (by omega)
    rwa [he2, HE.out] at this
  rw [hwg] at q1
  have HP := hid hp2
  have HK := hid hk2
  clear hr2 hp2 hs2 ho2 hu2 hw2 he2 hwg hl2 hk2 HUP
  go_wp2_with fail
  refine HDN.out.mono ?_
  rintro en w3 ⟨rfl, A3, wh3, hr3, hp3, hh3, hw3, hk3⟩
  have HPOST : DnPost g gw m ge c n A w w3 := ⟨A3, wh3, hr3, hp3.trans HP.out, hh3, hw3, HK.out.trans hk3 (fun _ => .inl)⟩
  clear HDN hr3 hp3 hh3 hw3 hk3
  go_wp2_with fail
  go_end0
  exact ⟨rfl, HPOST⟩

theorem HpR.setL {w : World} {g gw m : Nat} {v v' : Value} {n n' : Nat} {L L' : List Ent} {wh : List Int} (h : HpR w g gw m v n L wh) (hr : w.ownsRow 0 38 2 v' n' (entCells L')) :
    HpR (w.setCell ⟨g, 0, none⟩ v') g gw m v' n' L' wh :=
  ⟨h.blk.set 0 v', own_kept_set hr ⟨g, 0, none⟩ v' (blk_ne h.blk hr (by decide)), own_kept_set h.whe ⟨g, 0, none⟩ v' (blk_ne h.blk h.whe (by decide))⟩

def CutPost (g gw m ge c n : Nat) (l : List Ent) (w w' : World) : Prop :=
  ∃ A' wh', HpR w' g gw m (.slice (some ⟨ge, 0, none⟩) n c) n A' wh' ∧ HeapIs A' wh' m l ∧ Keep (HpF g gw (.slice (some ⟨ge, 0, none⟩) n c)) w w'

set_option maxRecDepth 20000 in
set_option maxHeartbeats 800000 in
theorem cut_last (g gw m ge c N n : Nat) (A : List Ent) (wh : List Int) (l : List Ent) (w : World) (h : HpR w g gw m (.slice (some ⟨ge, 0, none⟩) N c) N A wh) (hh : HeapIs A wh m l) (hc : N ≤ c) (hN : N = n + 1) (hn : N ≤ 100000) :
    Calls Try.prog 76 #[.pointer (some ⟨g, 0, none⟩), .int .i64 (n : Int)] w fun en w' => en = .returned (.tuple #[]) ∧ CutPost g gw m ge c n (cutE l (eg A n).id) w w' := by
  have hlen := h.len
  have hE := hh.where_.ids n (by omega)
  have HI := hid (hh.cutLast (n := n) (by omega))
  obtain ⟨e, he⟩ : ∃ e, eg A n = e := ⟨_, rfl⟩
  obtain ⟨e1, e2, -, -⟩ := h.cell_ent (i := n) (by omega)
  obtain ⟨f0, f1, f2⟩ := h.fields
  obtain ⟨n1, n2, n3, n4, n5, n6⟩ := h.ne
  obtain ⟨q1, q2⟩ := h.cell_wh (i := e.id) (by rw [← he]; exact hE)
  rw [he] at e1 e2 hE HI
  have h2 := h.setWh e.id (-1)
  have hr3 := own_cut h2.row n (by omega) (by omega)
  rw [← entCells_take] at hr3
  have h3 := (h2.setL hr3).below ((Below.refl _ _).alloc (Nat.le_refl _) (.cells #[.int .i64 e.t, .int .i64 (e.id : Int)] 38))
  have H4 := hid h3
  have HE := hid he
  rw [he]
  have hlt : n < N := by omega
  have hcn : n ≤ c := by omega
  have hNn : (N : Int) - 1 = (n : Int) := by omega
  clear h hh he hlen h2 h3 hr3 hN
  go_enter Try.func76, Try.ntmps76
  go_wp2_with fail
  refine wp_region_tail 13 (by kernel_rfl) (by kernel_rfl) ?_
  simp only [List.take_succ_cons, List.take_zero, List.drop_succ_cons, List.drop_zero]
  repeat still_step
  refine wpStill_nil ?_
  go_wp2_with fail
  go_end0
  refine ⟨rfl, _, _, H4.out.below (drewN_below _ 1), HI.out, ?_⟩
  have k1 : Keep (HpF g gw (.slice (some ⟨ge, 0, none⟩) n c)) w _ := Keep.setCell _ w ⟨gw, e.id, none⟩ (.int .i64 (-1)) (.inr (.inl rfl))
  have k2 := k1.trans (Keep.setCell (HpF g gw (.slice (some ⟨ge, 0, none⟩) n c)) _ ⟨g, 0, none⟩ (.slice (some ⟨ge, 0, none⟩) n c) (.inl rfl)) (fun _ => .inl)
  have k3 := k2.trans (Keep.alloc (HpF g gw (.slice (some ⟨ge, 0, none⟩) n c)) _ (.cells #[.int .i64 e.t, .int .i64 (e.id : Int)] 38)) (fun _ => .inl)
  exact k3.trans (Keep.drewN (HpF g gw (.slice (some ⟨ge, 0, none⟩) n c)) _ 1) (fun _ => .inl)

set_option maxRecDepth 20000 in
set_option maxHeartbeats 800000 in
theorem cut_mid (g gw m ge c N n i : Nat) (A : List Ent) (wh : List Int) (l : List Ent) (w : World) (h : HpR w g gw m (.slice (some ⟨ge, 0, none⟩) N c) N A wh) (hh : HeapIs A wh m l) (hc : N ≤ c) (hN : N = n + 1) (hi : i < n) (hn : N ≤ 100000) :
    Calls Try.prog 76 #[.pointer (some ⟨g, 0, none⟩), .int .i64 (i : Int)] w fun en w' => en = .returned (.tuple #[]) ∧ CutPost g gw m ge c n (cutE l (eg A i).id) w w' := by
  have hlen := h.len
  have hE := hh.where_.ids n (by omega)
  have hX := hh.where_.ids i (by omega)
  obtain ⟨hs1, hw1, hp1⟩ := hh.cutMid (n := n) (by omega) hi
  obtain ⟨e, he⟩ : ∃ e, eg A n = e := ⟨_, rfl⟩
  obtain ⟨x, hx⟩ : ∃ x, eg A i = x := ⟨_, rfl⟩
  obtain ⟨e1, e2, -, -⟩ := h.cell_ent (i := n) (by omega)
  obtain ⟨x1, x2, -, -⟩ := h.cell_ent (i := i) (by omega)
  obtain ⟨f0, f1, f2⟩ := h.fields
  obtain ⟨n1, n2, n3, n4, n5, n6⟩ := h.ne
  obtain ⟨q1, q2⟩ := h.cell_wh (i := x.id) (by rw [← hx]; exact hX)
  rw [he] at e1 e2 hE hs1 hw1 hp1
  rw [hx] at x1 x2 hX hw1 hp1
  have HH := hid hh
  have HS1 := hid hs1
  have HW1 := hid hw1
  have HP1 := hid hp1
  have h2 := h.setWh x.id (-1)
  have hr3 := own_cut h2.row n (by omega) (by omega)
  rw [← entCells_take] at hr3
  have h3 := (h2.setL hr3).below ((Below.refl _ _).alloc (Nat.le_refl _) (.cells #[.int .i64 e.t, .int .i64 (e.id : Int)] 38))
  have H4 := hid (h3.below (drewN_below _ 1))
  have HP := hid (put_any g gw m ge c n (A.take n) (wh.set x.id (-1)) i e _ H4.out hi hE)
  have K4 : Hid (Keep (HpF g gw (.slice (some ⟨ge, 0, none⟩) n c)) w ((((w.setCell ⟨gw, x.id, none⟩ (.int .i64 (-1))).setCell ⟨g, 0, none⟩ (.slice (some ⟨ge, 0, none⟩) n c)).alloc (.cells #[.int .i64 e.t, .int .i64 (e.id : Int)] 38)).drewN 1)) := by
    have k1 : Keep (HpF g gw (.slice (some ⟨ge, 0, none⟩) n c)) w _ := Keep.setCell _ w ⟨gw, x.id, none⟩ (.int .i64 (-1)) (.inr (.inl rfl))
    have k2 := k1.trans (Keep.setCell (HpF g gw (.slice (some ⟨ge, 0, none⟩) n c)) _ ⟨g, 0, none⟩ (.slice (some ⟨ge, 0, none⟩) n c) (.inl rfl)) (fun _ => .inl)
    have k3 := k2.trans (Keep.alloc (HpF g gw (.slice (some ⟨ge, 0, none⟩) n c)) _ (.cells #[.int .i64 e.t, .int .i64 (e.id : Int)] 38)) (fun _ => .inl)
    exact k3.trans (Keep.drewN (HpF g gw (.slice (some ⟨ge, 0, none⟩) n c)) _ 1) (fun _ => .inl)
  have HX := hid hx
  have HL := hid hlen
  rw [hx]
  have hlt : n < N := by omega
  have hiN : i < N := by omega
  have hcn : n ≤ c := by omega
  have hNn : (N : Int) - 1 = (n : Int) := by omega
  have HN := hid hN
  clear h hh he hx hlen h2 h3 hr3 hN hs1 hw1 hp1
  go_enter Try.func76, Try.ntmps76
  go_wp2_with fail
  refine wp_region_tail 13 (by kernel_rfl) (by kernel_rfl) ?_
  simp only [List.take_succ_cons, List.take_zero, List.drop_succ_cons, List.drop_zero]
  repeat still_step
  refine wpStill_nil ?_
  go_wp2_with (go_at_call 106; refine HP.out.mono ?_; rintro en w5 ⟨rfl, hr5, hk5⟩; have HC := hid (settle_any g gw m ge c n _ _ i w5 hr5 hi HS1.out (HW1.out.ex i) (by omega)); have HK5 := hid (K4.out.trans hk5 (fun _ => .inl)); clear hr5 hk5 HP)
  refine HC.out.mono ?_
  rintro en w6 ⟨rfl, A6, wh6, hr6, hp6, hh6, hw6, hk6⟩
  have HR : CutPost g gw m ge c n (cutE l x.id) w w6 := by
    have hcut := HeapIs.cut (A' := A6) (wh' := wh6) HH.out (i := i) (by rw [HX.out]; exact hp6.trans HP1.out) hh6 hw6
    rw [HX.out] at hcut
    exact ⟨A6, wh6, hr6, hcut, HK5.out.trans hk6 (fun _ => .inl)⟩
  clear HC hr6 hp6 hh6 hw6 hk6
  go_wp2_with fail
  go_end0
  exact ⟨rfl, HR⟩

theorem cut_any (g gw m ge c N n i : Nat) (A : List Ent) (wh : List Int) (l : List Ent) (w : World) (h : HpR w g gw m (.slice (some ⟨ge, 0, none⟩) N c) N A wh) (hh : HeapIs A wh m l) (hc : N ≤ c) (hN : N = n + 1) (hi : i < N) (hn : N ≤ 100000) :
    Calls Try.prog 76 #[.pointer (some ⟨g, 0, none⟩), .int .i64 (i : Int)] w fun en w' => en = .returned (.tuple #[]) ∧ CutPost g gw m ge c n (cutE l (eg A i).id) w w' := by
  by_cases e : i = n
  · subst e; exact cut_last g gw m ge c N i A wh l w h hh hc hN hn
  · exact cut_mid g gw m ge c N n i A wh l w h hh hc hN (by omega) hn
end Go.Proofs.Ytdhoedohchbagaa
