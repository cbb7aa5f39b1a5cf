/- The law SlotsPlay: what slots tell of any calls, and who is in which one, is as the page says. -/
import Derived.Test.YtdbiodofofnpgaaNf
import Derived.Test.YtdbiodofofnpgaaNd
namespace Go.Proofs.Ytdbiodofofnpgaa
open Go.RowKit Go.Maps

def pairActs (l : List (Int × Int)) : List Value := l.flatMap fun x => [.int .i64 x.1, .int .i64 x.2]
theorem pairActs_get (L : List (Int × Int)) (k : Nat) (h : k < L.length) : (pairActs L)[k * 2]? = some (.int .i64 (L[k]).1) ∧ (pairActs L)[k * 2 + 1]? = some (.int .i64 (L[k]).2) := by
  induction L generalizing k with
  | nil => simp at h
  | cons x L ih =>
    cases k with
    | zero => exact ⟨rfl, rfl⟩
    | succ k =>
      have := ih k (by simpa using h)
      have e : pairActs (x :: L) = [.int .i64 x.1, .int .i64 x.2] ++ pairActs L := rfl
      rw [e, List.getElem?_append_right (by simp; omega), List.getElem?_append_right (by simp; omega)]
      simp only [List.length_cons, List.length_nil]
      rw [show (k + 1) * 2 - (0 + 1 + 1) = k * 2 from by omega, show (k + 1) * 2 + 1 - (0 + 1 + 1) = k * 2 + 1 from by omega]
      simpa using this
theorem pairAct_cells {w : World} {A : Option Addr} {L : List (Int × Int)} {n k : Nat} (hr : Rd w A (pairActs L)) (hl : L.length = n) (hk : k < n) : ∃ b off i s, A = some ⟨b, off, none⟩ ∧ b < w.heap.size ∧ (i, s) ∈ L ∧ w.cell? ⟨b, off + k * 2, none⟩ = some (.int .i64 i) ∧ w.cell? ⟨b, off + k * 2 + 1, none⟩ = some (.int .i64 s) := by
  subst hl
  obtain ⟨h1, h2⟩ := pairActs_get L k hk
  obtain ⟨b, off, rfl, hb, hc⟩ := hr.at (by have := (List.getElem?_eq_some_iff.1 h1).1; omega)
  exact ⟨b, off, _, _, rfl, hb, List.getElem_mem hk, hc _ _ h1, hc _ _ h2⟩

theorem i64_bds {n : Int} (h : (Lit.int .i64 n).wf = true) : -9223372036854775808 ≤ n ∧ n ≤ 9223372036854775807 := by
  simp [Lit.wf, IntKind.min, IntKind.max, IntKind.signed, IntKind.bits] at h
  omega
/-- The slots and the reference's, beside each other. -/
structure SP (B : Nat) (W : World) (g gw gm gx m next : Nat) (L : SlL) (next2 : Nat) (L2 : SlL) (n2 : Nat) (A : Option Addr) (c : Nat) : Prop where
  sl : SL W g gw gm B m L next
  x : Blk W gx 90 #[.slice A n2 c, .int .i64 (m : Int), .int .i64 (next2 : Int)]
  rd : Rd W A (oneCells L2)
  len : L2.length = n2
  nil : A = none → n2 = 0 ∧ c = 0
  far : ∀ a, A = some a → ¬ SlF g gw gm a.block ∧ a.block ≠ gx
  nf : ¬ SlF g gw gm gx
  bx : B ≤ gx
section
variable {B g gw gm gx m next next2 n2 c : Nat} {L L2 : SlL} {A : Option Addr} {W W' : World}
theorem SP.below (H : SP B W g gw gm gx m next L next2 L2 n2 A c) (hb : Below W.heap.size W W') : SP B W' g gw gm gx m next L next2 L2 n2 A c :=
  ⟨H.sl.below hb, H.x.below hb H.x.lt, H.rd.below hb, H.len, H.nil, H.far, H.nf, H.bx⟩
theorem SP.keep {L' : SlL} {next' : Nat} (H : SP B W g gw gm gx m next L next2 L2 n2 A c) (hs : SL W' g gw gm B m L' next') (hk : Keep (SlF g gw gm) W W') : SP B W' g gw gm gx m next' L' next2 L2 n2 A c :=
  ⟨hs, hk.blk H.x H.nf, hk.rd H.rd (fun a ha => (H.far a ha).1), H.len, H.nil, H.far, H.nf, H.bx⟩
theorem set3_keep (w : World) (g : Nat) (a b c : Value) : Keep (fun k => k = g) w (set3 w g a b c) :=
  (Keep.setCell (fun k => k = g) w ⟨g, 0, none⟩ a rfl).trans ((Keep.setCell (fun k => k = g) _ ⟨g, 1, none⟩ b rfl).trans (Keep.setCell (fun k => k = g) _ ⟨g, 2, none⟩ c rfl) (fun _ h => .inl h)) (fun _ h => .inl h)
theorem SP.set0 {next3 : Nat} (H : SP B W g gw gm gx m next L next2 L2 n2 A c) : SP B (set3 W gx (.slice A n2 c) (.int .i64 (m : Int)) (.int .i64 (next3 : Int))) g gw gm gx m next L next3 L2 n2 A c := by
  have hk := set3_keep W gx (.slice A n2 c) (.int .i64 (m : Int)) (.int .i64 (next3 : Int))
  have hg := H.nf
  exact ⟨H.sl.keep hk (fun e => hg (.inl e.symm)) (fun e => hg (.inr (.inl e.symm))) (fun e => hg (.inr (.inr e.symm))), set3_blk H.x _ _ _, hk.rd H.rd (fun a ha => (H.far a ha).2), H.len, H.nil, H.far, H.nf, H.bx⟩
theorem SP.setN {next3 : Nat} (H : SP B W g gw gm gx m next L next2 L2 n2 A c) : SP B (W.setCell ⟨gx, 2, none⟩ (.int .i64 (next3 : Int))) g gw gm gx m next L next3 L2 n2 A c := by
  have hk : Keep (fun k => k = gx) W (W.setCell ⟨gx, 2, none⟩ (.int .i64 (next3 : Int))) := Keep.setCell (fun k => k = gx) W ⟨gx, 2, none⟩ _ rfl
  have hg := H.nf
  exact ⟨H.sl.keep hk (fun e => hg (.inl e.symm)) (fun e => hg (.inr (.inl e.symm))) (fun e => hg (.inr (.inr e.symm))), H.x.set 2 _, hk.rd H.rd (fun a ha => (H.far a ha).2), H.len, H.nil, H.far, H.nf, H.bx⟩
theorem SP.setx {L3 : SlL} {n3 c3 next3 B3 : Nat} {A3 : Option Addr} (H : SP B W g gw gm gx m next L next2 L2 n2 A c) (ho : W.ownsRow B3 95 2 (.slice A3 n3 c3) n3 (oneCells L3)) (hB : g < B3 ∧ gw < B3 ∧ gm < B3 ∧ gx < B3) (hl : L3.length = n3) :
    SP B (set3 W gx (.slice A3 n3 c3) (.int .i64 (m : Int)) (.int .i64 (next3 : Int))) g gw gm gx m next L next3 L3 n3 A3 c3 := by
  have hk := set3_keep W gx (.slice A3 n3 c3) (.int .i64 (m : Int)) (.int .i64 (next3 : Int))
  have hg := H.nf
  have hfar : ∀ a, A3 = some a → ¬ SlF g gw gm a.block ∧ a.block ≠ gx := fun a ha => by
    subst ha
    have hx := (ho.lt a.block (by
      rcases ho.2 with ⟨hv, _⟩ | ⟨g', cap, cur, hv, _⟩
      · cases hv
      · injection hv with hv; injection hv with hv; subst hv; rfl)).1
    exact ⟨fun h => by rcases h with h | h | h <;> omega, by omega⟩
  refine ⟨H.sl.keep hk (fun e => hg (.inl e.symm)) (fun e => hg (.inr (.inl e.symm))) (fun e => hg (.inr (.inr e.symm))), set3_blk H.x _ _ _, hk.rd (Rd_of_own ho) (fun a ha => (hfar a ha).2), hl, fun h => ?_, hfar, H.nf, H.bx⟩
  subst h
  rcases ho.2 with ⟨hv, h0⟩ | ⟨g', cap, cur, hv, _⟩
  · injection hv with _ _ e3; exact ⟨h0, e3⟩
  · cases hv
theorem SP.lts (H : SP B W g gw gm gx m next L next2 L2 n2 A c) : g < W.heap.size ∧ gw < W.heap.size ∧ gm < W.heap.size ∧ gx < W.heap.size := ⟨H.sl.lt.1, H.sl.lt.2.1, H.sl.lt.2.2.1, H.x.lt⟩
theorem SP.slB (H : SP B W g gw gm gx m next L next2 L2 n2 A c) (k : Nat) (h : SlF g gw gm k) : B ≤ k := by
  obtain ⟨_, _, _, h1, h2, h3⟩ := H.sl.lt
  rcases h with rfl | rfl | rfl <;> assumption
theorem sp_told (H : SP B W g gw gm gx m next L next L n2 A c) (z : Int) (hz : (Lit.int .i64 z).wf = true) (hb : Below W.heap.size W W') :
    Calls Try.prog 52 #[.pointer (some ⟨g, 0, none⟩), .agg #[.slice A n2 c, .int .i64 (m : Int), .int .i64 (next : Int)], .int .i64 z] W' fun e w' => e = .returned (.bool true) ∧ Below W'.heap.size W' w' := by
  have := told28_any g gw gm B m next L A c z hz W' (H.sl.below hb) (H.rd.below hb)
  rw [H.len] at this
  exact this
/-- The least free slot, or how many there are. -/
theorem free_low (hL : LOk m L next) : ∃ k0, k0 ≤ m ∧ whoAt L k0 = -1 ∧ (∀ j, j < k0 → whoAt L j ≠ -1) ∧ ((k0 = m ∧ L.length = m) ∨ (k0 ≠ m ∧ freeL m L = some k0)) := by
  have hlow : ∀ k, k ≤ m → (∀ j, j < k → whoAt L j ≠ -1) ∨ ∃ k0, k0 < k ∧ whoAt L k0 = -1 ∧ ∀ j, j < k0 → whoAt L j ≠ -1 := by
    intro k
    induction k with
    | zero => intro _; exact .inl fun j hj => absurd hj (by omega)
    | succ k ih =>
      intro hk
      rcases ih (by omega) with h | ⟨k0, h0, h1, h2⟩
      · by_cases hx : whoAt L k = -1
        · exact .inr ⟨k, by omega, hx, h⟩
        · exact .inl fun j hj => by
            by_cases hjk : j = k
            · subst hjk; exact hx
            · exact h j (by omega)
      · exact .inr ⟨k0, by omega, h1, h2⟩
  rcases hlow m (Nat.le_refl _) with h | ⟨k0, h0, h1, h2⟩
  · refine ⟨m, Nat.le_refl _, whoAt_none.2 (fun x hx => by have := (hL.lt x hx).2; omega), h, .inl ⟨rfl, ?_⟩⟩
    rw [← freeL_none hL]
    unfold freeL
    rw [idxI_none]
    intro x hx
    unfold whoL at hx
    obtain ⟨j, hj, rfl⟩ := List.mem_map.1 hx
    exact h j (List.mem_range.1 hj)
  · refine ⟨k0, by omega, h1, h2, .inr ⟨by omega, ?_⟩⟩
    rcases hf : freeL m L with _ | k
    · unfold freeL at hf
      rw [idxI_none] at hf
      exact absurd h1 (hf _ (by unfold whoL; exact List.mem_map.2 ⟨k0, List.mem_range.2 h0, rfl⟩))
    · have hk := freeL_some hf
      have hw : whoAt L k = -1 := whoAt_none.2 hk.2
      rcases Nat.lt_trichotomy k k0 with h | h | h
      · exact absurd hw (h2 k h)
      · rw [h]
      · exfalso
        have hd : ∀ (l : List Int) (k k0 : Nat), idxI (-1) l = some k → k0 < k → ∀ (h : k0 < l.length), l[k0] ≠ -1 := by
          intro l
          induction l with
          | nil => intro k k0 h; simp [idxI] at h
          | cons a l ih =>
            intro k k0 h hlt hk0
            unfold idxI at h
            by_cases ha : a = -1
            · rw [if_pos ha] at h; cases h; omega
            · rw [if_neg ha] at h
              rcases e : idxI (-1) l with _ | j
              · rw [e] at h; simp at h
              · rw [e] at h; simp at h; subst h
                cases k0 with
                | zero => exact ha
                | succ k0 => exact ih j k0 e (by omega) (by simpa using hk0)
        have hlen : k0 < (whoL m L).length := by rw [whoL_length]; exact h0
        exact hd _ _ _ hf h hlen (by rw [whoL_get _ _ _ h0]; exact h1)
end

set_option maxRecDepth 20000 in
set_option maxHeartbeats 8000000 in
theorem slotsPlay_any (A : Option Addr) (n c : Nat) (x : Int) (l : List (Int × Int)) (z : Int) (w : World) (hx : (Lit.int .i64 x).wf = true) (hl : l.length = n) (hn : n ≤ 9223372036854775807) (hr : Rd w A (pairActs l)) (hs : ∀ a ∈ l, (Lit.int .i64 a.1).wf = true ∧ (Lit.int .i64 a.2).wf = true) (hz : (Lit.int .i64 z).wf = true) :
    Calls Try.prog 8 #[.int .i64 x, .slice A n c, .int .i64 z] w fun e w' => e = .returned (.bool true) ∧ Below w.heap.size w w' := by
  have hn2 := hn
  have hxw := i64_bds hx
  have CN := hid (fun W => slNewZ_any x hxw.1 hxw.2 W)
  have CX := hid (fun W => refNewL_any x W)
  unfold refS at CX
  obtain ⟨m, hm⟩ : ∃ m, clampL x = m := ⟨_, rfl⟩
  have hm1 : 1 ≤ m ∧ m ≤ 1024 := by have := clampL_le x; omega
  rw [hm] at CN CX
  have HL := hid hl; have HR := hid hr; have HS := hid hs; have HZ := hid hz
  have CLV := hid (fun W => lives28_any W)
  clear hx hl hr hs hz hn hxw hm
  go_enter Try.func8, Try.ntmps8
  go_wp2_with fail
  refine (CN.out _).mono ?_
  rintro en w1 ⟨g, gw, gm, rfl, hs1, hb1⟩
  have HS1 := hid hs1; have HB1 := hid hb1
  clear hs1 hb1 CN
  go_wp2_with fail
  refine (CX.out _).mono ?_
  rintro en w2 ⟨rfl, hb2⟩
  have HS2 := hid (HS1.out.below hb2)
  have HB2 : Hid (Below w.heap.size w w2) := hid (HB1.out.trans (hb2.mono HB1.out.size))
  clear HS1 HB1 hb2 CX
  go_upto_region 2 with fail
  obtain ⟨w3, gx, hw3, hgx, hb3, hk3, h31, h32⟩ := alloc_step' w2 90 #[.slice none 0 0, .int .i64 (m : Int), .int .i64 0]
  rw [hw3, hgx]
  have HSP : Hid (SP w.heap.size w3 g gw gm gx m 0 [] 0 [] 0 none 0) := by
    obtain ⟨q1, q2, q3, q4, q5, q6⟩ := HS2.out.lt
    have hs2 := HB2.out.size
    exact ⟨HS2.out.below hb3, hk3, .inl rfl, rfl, fun _ => ⟨rfl, rfl⟩, fun a ha => (by cases ha), fun h => by rcases h with h | h | h <;> omega, by omega⟩
  have HB3 : Hid (Below w.heap.size w w3) := hid (HB2.out.trans (hb3.mono HB2.out.size))
  clear hw3 hgx hb3 hk3 h31 h32 HS2 HB2
  go_wp2_with fail
  go_loopw [9] (fun iv wr => ∃ (i next : Nat) (L : SlL) (n2 : Nat) (A2 : Option Addr) (c2 : Nat), iv = .int .i64 (i : Int) ∧ i ≤ 30 ∧ i ≤ n ∧ next ≤ i ∧ SP w.heap.size wr g gw gm gx m next L next L n2 A2 c2 ∧ Below w.heap.size w wr) (fun iv _ => 30 - (intOf iv).toNat)
  case atStart => exact ⟨0, 0, [], 0, none, 0, rfl, by omega, by omega, by omega, HSP.out, HB3.out⟩
  case round =>
    obtain ⟨i, next, L, n2, A2, c2, rfl, hi30, hin, hnx, hsp, hbb⟩ := hrel
    have HP := hid hsp; have HB := hid hbb
    clear hsp hbb HSP HB3
    by_cases hlt : i < n
    · by_cases hlt3 : i < 30
      · obtain ⟨b, off, ki, id, hA, hbl, hmem, d0, d1⟩ := pairAct_cells HR.out HL.out hlt
        have hwf := HS.out _ hmem
        have HWF := hid hwf
        subst hA
        have e0 := (HB.out.cell (p := ⟨b, off + i * 2, none⟩) hbl).trans d0
        have e1 := (HB.out.cell (p := ⟨b, off + i * 2 + 1, none⟩) hbl).trans d1
        have hki : decide ((i : Int) < 30) = true := by rw [decide_eq_true_eq]; omega
        have hkn : decide ((i : Int) < (n : Int)) = true := by rw [decide_eq_true_eq]; omega
        clear d0 d1 hmem hwf
        go_upto_region 6 with fail
        obtain ⟨wa, ga, hwa, hga, hba, hka, ha1, ha2⟩ := alloc_step' wr 93 #[.int .i64 ki, .int .i64 id]
        rw [hwa, hga]
        have HPA := hid (HP.out.below hba)
        have HBA : Hid (Below w.heap.size w wa) := hid (HB.out.trans (hba.mono HB.out.size))
        have HKA := hid hka
        have hgl := HP.out.lts
        have hge : ¬ SlF g gw gm ga ∧ ga ≠ gx ∧ gx ≠ ga := ⟨fun h => by rcases h with h | h | h <;> omega, by omega, by omega⟩
        have HGE := hid hge
        have hgaB : w.heap.size ≤ ga := by have := HB.out.size; omega
        clear hwa hga hba hka hgl hge e0 e1
        obtain ⟨k0, k1⟩ := fact2' HKA.out
        by_cases hk0 : ki = 0
        · subst hk0
          obtain ⟨kf, hkf, hkw, hklow, hkc⟩ := free_low HPA.out.sl.ok.1
          have hn2b : n2 ≤ 1024 := by
            have h1 := HPA.out.len
            have h2 := HPA.out.sl.ok.1.le
            omega
          have CO := hid (fun W (h : Rd W A2 (oneCells L)) => refOpenL_any A2 n2 c2 m next kf L W HPA.out.len hn2b h HPA.out.nil hkw hklow (by omega) hm1.2 (by omega))
          rw [show (∀ W, Rd W A2 (oneCells L) → Calls Try.prog 48 #[refS A2 n2 c2 m next] W fun e w' => OpenR A2 n2 c2 m next kf L W e w') = (∀ W, Rd W A2 (oneCells L) → Calls Try.prog 48 #[.agg #[.slice A2 n2 c2, .int .i64 (m : Int), .int .i64 (next : Int)]] W fun e w' => OpenR A2 n2 c2 m next kf L W e w') from rfl] at CO
          have HKC := hid hkc
          have HKF := hid hkf
          clear hkw hklow hkc hkf
          have C1 := hid (CO.out _ HPA.out.rd)
          clear CO
          obtain ⟨p0, p1, p2⟩ := fact3s HPA.out.x
          go_wp2_with fail
          refine C1.out.mono ?_
          rintro en wo ⟨hb, hor⟩
          have HPO := hid (HPA.out.below hb)
          have HBO : Hid (Below w.heap.size w wo) := hid (HBA.out.trans (hb.mono HBA.out.size))
          have HKO := hid (HKA.out.below hb HKA.out.lt)
          have HLT := hid HPA.out.lts
          clear C1 hb p0 p1 p2 k0 k1 HPA HBA HKA
          rcases hor with ⟨hk, rfl⟩ | ⟨hk, A3, c3, rfl, ho⟩
          · unfold refS
            have hlm : L.length = m := by
              rcases HKC.out with h | h
              · exact h.2
              · exact absurd hk h.1
            have COP : Hid (∀ W, SP w.heap.size W g gw gm gx m next L next L n2 A2 c2 → Calls Try.prog 41 #[.pointer (some ⟨g, 0, none⟩)] W fun e w' => e = .returned (.tuple #[.int .i64 0, .int .i64 0, .bool false]) ∧ Below W.heap.size W w') := hid (fun W h => slOpenNo_any h.sl (.inr hlm))
            have hnxi : next ≤ i + 1 := by omega
            clear hk hlm HKC HKF HLT
            go_upto_region 9 with fail
            obtain ⟨wp, gb, hwp, hgb, hbp, hkp, hp1, hp2⟩ := alloc_step' wo 90 #[.slice A2 n2 c2, .int .i64 (m : Int), .int .i64 (next : Int)]
            rw [hwp, hgb]
            obtain ⟨wq, gc, hwq, hgc, hbq, hkq, hq1, hq2⟩ := alloc_step' wp 95 #[.int .i64 0, .int .i64 0]
            have hgc0 : gb + 1 = gc := by rw [← hgc, ← hwp, World.size_alloc, hgb]
            rw [hwq, hgc0]
            clear hgc0
            have HPQ := hid ((HPO.out.below hbp).below hbq)
            have hbpq : Below wo.heap.size wo wq := hbp.trans (hbq.mono hbp.size)
            have HBQ : Hid (Below w.heap.size w wq) := hid (HBO.out.trans (hbpq.mono HBO.out.size))
            have HKQ := hid (HKO.out.below hbpq HKO.out.lt)
            have HGB := hid (hkp.below hbq hp2)
            have HGC := hid hkq
            have hlq := HPO.out.lts
            have hgc1 : ¬ SlF g gw gm gc ∧ gc ≠ gx ∧ gb ≠ gx := ⟨fun h => by rcases h with h | h | h <;> omega, by omega, by omega⟩
            clear hwp hgb hbp hkp hwq hgc hbq hkq hbpq hp1 hp2 hq1 hq2 hlq HPO HBO HKO
            obtain ⟨p0, p1, p2⟩ := fact3s HPQ.out.x
            obtain ⟨q0, q1, q2⟩ := fact3s HGB.out
            have y0 := HPQ.out.x.frozen 0; have y1 := HPQ.out.x.frozen 1; have y2 := HPQ.out.x.frozen 2
            have hxl := HPQ.out.x.lt
            go_upto_region 10 with fail
            have HPS := hid (HPQ.out.set0 (next3 := next))
            have HBS : Hid (Below w.heap.size w (set3 wq gx (.slice A2 n2 c2) (.int .i64 (m : Int)) (.int .i64 (next : Int)))) := hid (set3_below HBQ.out HPQ.out.bx _ _ _)
            have HKS := hid (set3_far HKQ.out HGE.out.2.1 (.slice A2 n2 c2) (.int .i64 (m : Int)) (.int .i64 (next : Int)))
            have HGS := hid (set3_far HGC.out hgc1.2.1 (.slice A2 n2 c2) (.int .i64 (m : Int)) (.int .i64 (next : Int)))
            obtain ⟨ws, hws⟩ : ∃ W, set3 wq gx (.slice A2 n2 c2) (.int .i64 (m : Int)) (.int .i64 (next : Int)) = W := ⟨_, rfl⟩
            rw [hws] at HPS HBS HKS HGS
            unfold set3 at hws
            rw [hws]
            clear hws p0 p1 p2 q0 q1 q2 y0 y1 y2 hxl HPQ HBQ HKQ HGB HGC
            have CSO := hid (COP.out _ HPS.out)
            clear COP
            go_wp2_with fail
            refine CSO.out.mono ?_
            rintro en wt ⟨rfl, hb⟩
            have HPT := hid (HPS.out.below hb)
            have HBT : Hid (Below w.heap.size w wt) := hid (HBS.out.trans (hb.mono HBS.out.size))
            have HKT := hid (HKS.out.below hb HKS.out.lt)
            have HGT := hid (HGS.out.below hb HGS.out.lt)
            clear hb HPS HBS HKS HGS
            clear CSO
            obtain ⟨g0, g1⟩ := fact2' HGT.out
            obtain ⟨k0, k1⟩ := fact2' HKT.out
            go_upto_region 21 with fail
            clear g0 g1
            clear k0 k1
            have CT := hid (fun W (hW : Below wt.heap.size wt W) => sp_told HPT.out z HZ.out hW)
            have CU := hid (fun W (hW : Below wt.heap.size wt W) => sp_told HPT.out id HWF.out.2 hW)
            obtain ⟨p0, p1, p2⟩ := fact3s HPT.out.x
            have HKT1 := HKT.out.lt
            go_wp2_with fail
            refine (CT.out _ (Below.refl _ _)).mono ?_
            rintro en w5 ⟨rfl, hb5⟩
            have HK5 := hid (HKT.out.below hb5 HKT1)
            have HP5 := hid (HPT.out.below hb5)
            have HB5 : Hid (Below w.heap.size w w5) := hid (HBT.out.trans (hb5.mono HBT.out.size))
            have C5 := hid (CU.out _ hb5)
            clear CT CU hb5 p0 p1 p2 HPT HBT HKT HKT1
            obtain ⟨p0, p1, p2⟩ := fact3s HP5.out.x
            obtain ⟨k0, k1⟩ := fact2' HK5.out
            go_wp2_with fail
            refine C5.out.mono ?_
            rintro en w6 ⟨rfl, hb6⟩
            have HP6 := hid (HP5.out.below hb6)
            have HB6 : Hid (Below w.heap.size w w6) := hid (HB5.out.trans (hb6.mono HB5.out.size))
            clear C5 hb6 p0 p1 p2 k0 k1 HP5 HB5
            go_wp2_with fail
            go_roundw
            case rel => exact ⟨i + 1, next, L, n2, A2, c2, by go_num, by omega, by omega, by omega, HP6.out, HB6.out⟩
            case measure => simp [intOf]; omega
          · unfold refS
            have hfk : freeL m L = some kf := by
              rcases HKC.out with h | h
              · exact absurd h.1 hk
              · exact h.2
            obtain ⟨nx, hnx2⟩ : ∃ y, next + 1 = y := ⟨_, rfl⟩
            obtain ⟨n3, hn3⟩ : ∃ y, n2 + 1 = y := ⟨_, rfl⟩
            obtain ⟨L3, hL3⟩ : ∃ y, L ++ [(next, kf)] = y := ⟨_, rfl⟩
            rw [hn3, hL3] at ho
            rw [hn3, hnx2]
            have HL3 : Hid (L3.length = n3) := by rw [Hid, ← hL3, List.length_append, HPO.out.len]; exact hn3
            have COP : Hid (∀ W, SP w.heap.size W g gw gm gx m next L nx L3 n3 A3 c3 → Calls Try.prog 41 #[.pointer (some ⟨g, 0, none⟩)] W fun e w' => e = .returned (.tuple #[.int .i64 (next : Int), .int .i64 (kf : Int), .bool true]) ∧ SL w' g gw gm w.heap.size m L3 nx ∧ Keep (SlF g gw gm) W w') := hid (fun W h => by
              have := slOpenK_any h.sl (by omega) hfk
              rwa [hL3, hnx2] at this)
            have hnxi : nx ≤ i + 1 := by omega
            clear hk hfk HKC HKF hnx2 hn3 hL3
            go_upto_region 9 with fail
            obtain ⟨wp, gb, hwp, hgb, hbp, hkp, hp1, hp2⟩ := alloc_step' wo 90 #[.slice A3 n3 c3, .int .i64 (m : Int), .int .i64 (nx : Int)]
            rw [hwp, hgb]
            obtain ⟨wq, gc, hwq, hgc, hbq, hkq, hq1, hq2⟩ := alloc_step' wp 95 #[.int .i64 (next : Int), .int .i64 (kf : Int)]
            have hgc0 : gb + 1 = gc := by rw [← hgc, ← hwp, World.size_alloc, hgb]
            rw [hwq, hgc0]
            clear hgc0
            have HPQ := hid ((HPO.out.below hbp).below hbq)
            have hbpq : Below wo.heap.size wo wq := hbp.trans (hbq.mono hbp.size)
            have HBQ : Hid (Below w.heap.size w wq) := hid (HBO.out.trans (hbpq.mono HBO.out.size))
            have HKQ := hid (HKO.out.below hbpq HKO.out.lt)
            have HGB := hid (hkp.below hbq hp2)
            have HGC := hid hkq
            have HOQ := hid (own_below ho hbpq)
            clear ho
            have hlq := HPO.out.lts
            have hgc1 : ¬ SlF g gw gm gc ∧ gc ≠ gx ∧ gb ≠ gx := ⟨fun h => by rcases h with h | h | h <;> omega, by omega, by omega⟩
            clear hwp hgb hbp hkp hwq hgc hbq hkq hbpq hp1 hp2 hq1 hq2 hlq HPO HBO HKO
            obtain ⟨p0, p1, p2⟩ := fact3s HPQ.out.x
            obtain ⟨q0, q1, q2⟩ := fact3s HGB.out
            have y0 := HPQ.out.x.frozen 0; have y1 := HPQ.out.x.frozen 1; have y2 := HPQ.out.x.frozen 2
            have hxl := HPQ.out.x.lt
            go_upto_region 10 with fail
            have HPS := hid (HPQ.out.setx (next3 := nx) HOQ.out HLT.out HL3.out)
            clear HOQ
            have HBS : Hid (Below w.heap.size w (set3 wq gx (.slice A3 n3 c3) (.int .i64 (m : Int)) (.int .i64 (nx : Int)))) := hid (set3_below HBQ.out HPQ.out.bx _ _ _)
            have HKS := hid (set3_far HKQ.out HGE.out.2.1 (.slice A3 n3 c3) (.int .i64 (m : Int)) (.int .i64 (nx : Int)))
            have HGS := hid (set3_far HGC.out hgc1.2.1 (.slice A3 n3 c3) (.int .i64 (m : Int)) (.int .i64 (nx : Int)))
            obtain ⟨ws, hws⟩ : ∃ W, set3 wq gx (.slice A3 n3 c3) (.int .i64 (m : Int)) (.int .i64 (nx : Int)) = W := ⟨_, rfl⟩
            rw [hws] at HPS HBS HKS HGS
            unfold set3 at hws
            rw [hws]
            clear hws p0 p1 p2 q0 q1 q2 y0 y1 y2 hxl HPQ HBQ HKQ HGB HGC
            have CSO := hid (COP.out _ HPS.out)
            clear COP
            go_wp2_with fail
            refine CSO.out.mono ?_
            rintro en wt ⟨rfl, hs, hk⟩
            have HPT := hid (HPS.out.keep hs hk)
            have HBT : Hid (Below w.heap.size w wt) := hid (HBS.out.trans (hk.below HBS.out.size HPS.out.slB))
            have HKT := hid (hk.blk HKS.out HGE.out.1)
            have HGT := hid (hk.blk HGS.out hgc1.1)
            clear hs hk HPS HBS HKS HGS
            clear CSO
            obtain ⟨g0, g1⟩ := fact2' HGT.out
            obtain ⟨k0, k1⟩ := fact2' HKT.out
            go_upto_region 21 with fail
            clear g0 g1
            clear k0 k1
            have CT := hid (fun W (hW : Below wt.heap.size wt W) => sp_told HPT.out z HZ.out hW)
            have CU := hid (fun W (hW : Below wt.heap.size wt W) => sp_told HPT.out id HWF.out.2 hW)
            obtain ⟨p0, p1, p2⟩ := fact3s HPT.out.x
            have HKT1 := HKT.out.lt
            go_wp2_with fail
            refine (CT.out _ (Below.refl _ _)).mono ?_
            rintro en w5 ⟨rfl, hb5⟩
            have HK5 := hid (HKT.out.below hb5 HKT1)
            have HP5 := hid (HPT.out.below hb5)
            have HB5 : Hid (Below w.heap.size w w5) := hid (HBT.out.trans (hb5.mono HBT.out.size))
            have C5 := hid (CU.out _ hb5)
            clear CT CU hb5 p0 p1 p2 HPT HBT HKT HKT1
            obtain ⟨p0, p1, p2⟩ := fact3s HP5.out.x
            obtain ⟨k0, k1⟩ := fact2' HK5.out
            go_wp2_with fail
            refine C5.out.mono ?_
            rintro en w6 ⟨rfl, hb6⟩
            have HP6 := hid (HP5.out.below hb6)
            have HB6 : Hid (Below w.heap.size w w6) := hid (HB5.out.trans (hb6.mono HB5.out.size))
            clear C5 hb6 p0 p1 p2 k0 k1 HP5 HB5
            go_wp2_with fail
            go_roundw
            case rel => exact ⟨i + 1, nx, L3, n3, A3, c3, by go_num, by omega, by omega, by omega, HP6.out, HB6.out⟩
            case measure => simp [intOf]; omega
        · have hk0b : (ki == 0) = false := by rw [beq_eq_false_iff_ne]; exact hk0
          by_cases hk1 : ki = 1
          · subst hk1
            go_upto_region 14 with fail
            obtain ⟨p0, p1, p2⟩ := fact3s HPA.out.x
            have T2 : ∀ q : KW (SlF g gw gm) wa, q.1.cell? ⟨gx, 2, none⟩ = some (.int .i64 (next : Int)) := fun q => q.cellAt HPA.out.x.lt HPA.out.nf p2
            clear p0 p1 p2 k0 k1
            refine wp_region_ordK (SlF g gw gm) [] (.val 0 (.val 2 (.val 3 (.op 1 (.val 4 (.nil)))))) (by kernel_rfl) (by kernel_rfl) ?_
            obtain ⟨wc, hwc⟩ : ∃ W, wa.drewN 1 = W := ⟨_, rfl⟩
            have hbd : Below wa.heap.size wa wc := by rw [← hwc]; exact drewN_below wa 1
            have HPC := hid (HPA.out.below hbd)
            have HBC : Hid (Below w.heap.size w wc) := hid (HBA.out.trans (hbd.mono HBA.out.size))
            have HKC := hid (HKA.out.below hbd HKA.out.lt)
            have HKW : Hid (Keep (SlF g gw gm) wa wc) := hid (Keep.of_below hbd)
            rw [hwc]
            clear hwc hbd
            refine wpOrdT_val rfl rfl ?_
            go_big_quiet_step (fail)
            refine wpQuiet_nil ?_
            refine wpOrdT_val rfl rfl ?_
            go_big_quiet_step (fail)
            refine wpQuiet_nil ?_
            refine wpOrdT_load rfl rfl (inKW HKW.out) ?_
            go_big_quiet_step (fail)
            refine wpQuiet_nil ?_
            refine wpOrdT_op rfl ?_
            go_wp2_with fail
            refine (slSkipK_any HPC.out.sl (by omega)).mono ?_
            rintro en wd ⟨rfl, hs, hk⟩
            have HPD := hid (HPC.out.keep hs hk)
            have HBD : Hid (Below w.heap.size w wd) := hid (HBC.out.trans (hk.below HBC.out.size HPC.out.slB))
            have HKD := hid (hk.blk HKC.out HGE.out.1)
            replace HKW := hid (HKW.out.trans hk (fun _ h => .inl h))
            clear hs hk HPC HBC HKC
            go_wp2_with fail
            refine KT.keep (inKW HKW.out) ?_
            refine wpOrdT_val rfl rfl ?_
            go_big_quiet_step (fail)
            refine wpQuiet_nil ?_
            refine wpOrdT_nil ?_
            have HPN := hid (HPD.out.setN (next3 := next + 1))
            have hxw : w.heap.size ≤ gx := HPD.out.bx
            have HBN : Hid (Below w.heap.size w (wd.setCell ⟨gx, 2, none⟩ (.int .i64 ((next + 1 : Nat) : Int)))) := hid (HBD.out.setCell hxw _)
            have HKN : Hid (Blk (wd.setCell ⟨gx, 2, none⟩ (.int .i64 ((next + 1 : Nat) : Int))) ga 93 #[.int .i64 1, .int .i64 id]) := hid (HKD.out.set_far HGE.out.2.1)
            obtain ⟨p0, p1, p2⟩ := fact3s HPD.out.x
            obtain ⟨k0, k1⟩ := fact2' HKD.out
            have y2 := HPD.out.x.frozen 2
            have hxl := HPD.out.x.lt
            clear T2
            go_upto_region 21 with fail
            obtain ⟨wt, hwt⟩ : ∃ W, wd.setCell ⟨gx, 2, none⟩ (.int .i64 ((next + 1 : Nat) : Int)) = W := ⟨_, rfl⟩
            have hwt2 : wd.setCell ⟨gx, 2, none⟩ (.int .i64 ((next : Int) + 1)) = wt := hwt
            rw [hwt] at HPN HBN HKN
            rw [hwt2]
            obtain ⟨nx, hnx2⟩ : ∃ y, next + 1 = y := ⟨_, rfl⟩
            rw [hnx2] at HPN
            have hnxi : nx ≤ i + 1 := by omega
            clear hwt hwt2 p0 p1 p2 y2 hxl HPD HBD HKD hxw hnx2
            have HPT := HPN; have HBT := HBN; have HKT := HKN
            clear HPN HBN HKN
            clear HKW HPA HBA HKA
            clear k0 k1
            have CT := hid (fun W (hW : Below wt.heap.size wt W) => sp_told HPT.out z HZ.out hW)
            have CU := hid (fun W (hW : Below wt.heap.size wt W) => sp_told HPT.out id HWF.out.2 hW)
            obtain ⟨p0, p1, p2⟩ := fact3s HPT.out.x
            have HKT1 := HKT.out.lt
            go_wp2_with fail
            refine (CT.out _ (Below.refl _ _)).mono ?_
            rintro en w5 ⟨rfl, hb5⟩
            have HK5 := hid (HKT.out.below hb5 HKT1)
            have HP5 := hid (HPT.out.below hb5)
            have HB5 : Hid (Below w.heap.size w w5) := hid (HBT.out.trans (hb5.mono HBT.out.size))
            have C5 := hid (CU.out _ hb5)
            clear CT CU hb5 p0 p1 p2 HPT HBT HKT HKT1
            obtain ⟨p0, p1, p2⟩ := fact3s HP5.out.x
            obtain ⟨k0, k1⟩ := fact2' HK5.out
            go_wp2_with fail
            refine C5.out.mono ?_
            rintro en w6 ⟨rfl, hb6⟩
            have HP6 := hid (HP5.out.below hb6)
            have HB6 : Hid (Below w.heap.size w w6) := hid (HB5.out.trans (hb6.mono HB5.out.size))
            clear C5 hb6 p0 p1 p2 k0 k1 HP5 HB5
            go_wp2_with fail
            go_roundw
            case rel => exact ⟨i + 1, nx, L, n2, A2, c2, by go_num, by omega, by omega, by omega, HP6.out, HB6.out⟩
            case measure => simp [intOf]; omega
          · have hk1b : (ki == 1) = false := by rw [beq_eq_false_iff_ne]; exact hk1
            by_cases hk2 : ki = 2
            · subst hk2
              go_upto_region 18 with fail
              obtain ⟨p0, p1, p2⟩ := fact3s HPA.out.x
              have T0 : ∀ q : KW (SlF g gw gm) wa, q.1.cell? ⟨gx, 0, none⟩ = some (.slice A2 n2 c2) := fun q => q.cellAt HPA.out.x.lt HPA.out.nf p0
              have T1 : ∀ q : KW (SlF g gw gm) wa, q.1.cell? ⟨gx, 1, none⟩ = some (.int .i64 (m : Int)) := fun q => q.cellAt HPA.out.x.lt HPA.out.nf p1
              have T2 : ∀ q : KW (SlF g gw gm) wa, q.1.cell? ⟨gx, 2, none⟩ = some (.int .i64 (next : Int)) := fun q => q.cellAt HPA.out.x.lt HPA.out.nf p2
              have T3 : ∀ q : KW (SlF g gw gm) wa, q.1.cell? ⟨ga, 1, none⟩ = some (.int .i64 id) := fun q => q.cellAt HKA.out.lt HGE.out.1 k1
              have hn2b : n2 ≤ 1024 := by
                have h1 := HPA.out.len
                have h2 := HPA.out.sl.ok.1.le
                omega
              have CC : Hid (∀ W, SP w.heap.size W g gw gm gx m next L next L n2 A2 c2 → Calls Try.prog 43 #[.pointer (some ⟨g, 0, none⟩), .int .i64 id] W fun e w' => e = .returned (.bool (slotL L id).isSome) ∧ SL w' g gw gm w.heap.size m (closeL L id) next ∧ Keep (SlF g gw gm) W w') := hid (fun W h => slCloseK_any id h.sl HWF.out.2)
              have CS := hid (fun W (h : Rd W A2 (oneCells L)) => refSlot_any A2 n2 c2 m next L id W HPA.out.len (by omega) h)
              have CR := hid (fun W (h : Rd W A2 (oneCells L)) => refCloseL_any A2 n2 c2 m next L id W HPA.out.len hn2b h)
              unfold refS at CS
              rw [show (∀ W, Rd W A2 (oneCells L) → Calls Try.prog 51 #[refS A2 n2 c2 m next, .int .i64 id] W fun e w' => ∃ A' c', e = .returned (refS A' (closeL L id).length c' m next) ∧ w'.ownsRow W.heap.size 95 2 (.slice A' (closeL L id).length c') (closeL L id).length (oneCells (closeL L id)) ∧ Below W.heap.size W w') = (∀ W, Rd W A2 (oneCells L) → Calls Try.prog 51 #[.agg #[.slice A2 n2 c2, .int .i64 (m : Int), .int .i64 (next : Int)], .int .i64 id] W fun e w' => ∃ A' c', e = .returned (refS A' (closeL L id).length c' m next) ∧ w'.ownsRow W.heap.size 95 2 (.slice A' (closeL L id).length c') (closeL L id).length (oneCells (closeL L id)) ∧ Below W.heap.size W w') from rfl] at CR
              have e1 := (slotZ_is L id).1
              rw [e1] at CC
              obtain ⟨a, ha⟩ : ∃ y, slotZ L id = y := ⟨_, rfl⟩
              rw [ha] at CC CS
              clear p0 p1 p2 k0 k1 e1 ha
              by_cases ha0 : 0 ≤ a
              all_goals first | rw [decide_eq_true ha0] at CC | rw [decide_eq_false ha0] at CC
              all_goals
                refine wp_region_ordK (SlF g gw gm) [] (.val 0 (.val 1 (.val 2 (.val 4 (.val 5 (.val 6 (.op 3 (.op 7 (.val 8 (.val 9 (.nil))))))))))) (by kernel_rfl) (by kernel_rfl) ?_
                obtain ⟨wc, hwc⟩ : ∃ W, wa.drewN 1 = W := ⟨_, rfl⟩
                have hbd : Below wa.heap.size wa wc := by rw [← hwc]; exact drewN_below wa 1
                have HPC := hid (HPA.out.below hbd)
                have HBC : Hid (Below w.heap.size w wc) := hid (HBA.out.trans (hbd.mono HBA.out.size))
                have HKC := hid (HKA.out.below hbd HKA.out.lt)
                have HKW : Hid (Keep (SlF g gw gm) wa wc) := hid (Keep.of_below hbd)
                rw [hwc]
                clear hwc hbd
                refine wpOrdT_val rfl rfl ?_
                go_big_quiet_step (fail)
                refine wpQuiet_nil ?_
                refine wpOrdT_val rfl rfl ?_
                go_big_quiet_step (fail)
                refine wpQuiet_nil ?_
                refine wpOrdT_load rfl rfl (inKW HKW.out) ?_
                go_big_quiet_step (fail)
                refine wpQuiet_nil ?_
                refine wpOrdT_load rfl rfl (inKW HKW.out) ?_
                go_big_quiet_step (fail)
                refine wpQuiet_nil ?_
                refine wpOrdT_val rfl rfl ?_
                go_big_quiet_step (fail)
                refine wpQuiet_nil ?_
                refine wpOrdT_load rfl rfl (inKW HKW.out) ?_
                go_big_quiet_step (fail)
                refine wpQuiet_nil ?_
                refine wpOrdT_op rfl ?_
                go_wp2_with fail
                refine (CC.out _ HPC.out).mono ?_
                rintro en wd ⟨rfl, hs, hk⟩
                have HPD := hid (HPC.out.keep hs hk)
                have HBD : Hid (Below w.heap.size w wd) := hid (HBC.out.trans (hk.below HBC.out.size HPC.out.slB))
                have HKD := hid (hk.blk HKC.out HGE.out.1)
                replace HKW := hid (HKW.out.trans hk (fun _ h => .inl h))
                clear hs hk HPC HBC HKC CC
                go_wp2_with fail
                refine KT.keep (inKW HKW.out) ?_
                refine wpOrdT_op rfl ?_
                go_wp2_with fail
                refine (CS.out _ HPD.out.rd).mono ?_
                rintro en we ⟨rfl, hb⟩
                have HPE := hid (HPD.out.below hb)
                have HBE : Hid (Below w.heap.size w we) := hid (HBD.out.trans (hb.mono HBD.out.size))
                have HKE := hid (HKD.out.below hb HKD.out.lt)
                replace HKW := hid (HKW.out.trans (Keep.of_below hb) (fun _ h => .inl h))
                clear hb HPD HBD HKD CS
                go_wp2_with fail
                refine KT.keep (inKW HKW.out) ?_
                refine wpOrdT_val rfl rfl ?_
                go_big_quiet_step (fail)
                refine wpQuiet_nil ?_
                refine wpOrdT_val rfl rfl ?_
                go_big_quiet_step (fail)
                refine wpQuiet_nil ?_
                refine wpOrdT_nil ?_
                clear T0 T1 T2 T3 HKW
                obtain ⟨p0, p1, p2⟩ := fact3s HPE.out.x
                obtain ⟨k0, k1⟩ := fact2' HKE.out
                have C2 := hid (CR.out _ HPE.out.rd)
                have y0 := HPE.out.x.frozen 0; have y1 := HPE.out.x.frozen 1; have y2 := HPE.out.x.frozen 2
                have hxl := HPE.out.x.lt
                clear CR
                go_wp2_with fail
                refine C2.out.mono ?_
                rintro en wf ⟨A3, c3, rfl, ho3, hb⟩
                obtain ⟨L3, hL3⟩ : ∃ y, closeL L id = y := ⟨_, rfl⟩
                rw [hL3] at HPE ho3 ⊢
                obtain ⟨n3, hn3⟩ : ∃ y, L3.length = y := ⟨_, rfl⟩
                rw [hn3] at ho3 ⊢
                have HN3 := hid hn3
                have HPF := hid (HPE.out.below hb)
                have HBF : Hid (Below w.heap.size w wf) := hid (HBE.out.trans (hb.mono HBE.out.size))
                have HKF := hid (HKE.out.below hb HKE.out.lt)
                have HPG := hid (HPF.out.setx (next3 := next) ho3 HPE.out.lts HN3.out)
                have HBG : Hid (Below w.heap.size w (set3 wf gx (.slice A3 n3 c3) (.int .i64 (m : Int)) (.int .i64 (next : Int)))) := hid (set3_below HBF.out HPF.out.bx _ _ _)
                have HKG := hid (set3_far HKF.out HGE.out.2.1 (.slice A3 n3 c3) (.int .i64 (m : Int)) (.int .i64 (next : Int)))
                clear C2 ho3 hb hL3 hn3 p0 p1 p2 y0 y1 y2 hxl k0 k1
                obtain ⟨p0, p1, p2⟩ := fact3s HPF.out.x
                have y0 := HPF.out.x.frozen 0; have y1 := HPF.out.x.frozen 1; have y2 := HPF.out.x.frozen 2
                have hxl := HPF.out.x.lt
                unfold refS
                go_upto_region 21 with fail
                obtain ⟨wt, hwt⟩ : ∃ W, set3 wf gx (.slice A3 n3 c3) (.int .i64 (m : Int)) (.int .i64 (next : Int)) = W := ⟨_, rfl⟩
                rw [hwt] at HPG HBG HKG
                unfold set3 at hwt
                rw [hwt]
                clear hwt p0 p1 p2 y0 y1 y2 hxl HPE HBE HKE HPF HBF HKF
                obtain ⟨k0, k1⟩ := fact2' HKG.out
                have hnxi : next ≤ i + 1 := by omega
                have HPT := HPG; have HBT := HBG; have HKT := HKG
                clear HPG HBG HKG
                clear HPA HBA HKA
                clear k0 k1
                have CT := hid (fun W (hW : Below wt.heap.size wt W) => sp_told HPT.out z HZ.out hW)
                have CU := hid (fun W (hW : Below wt.heap.size wt W) => sp_told HPT.out id HWF.out.2 hW)
                obtain ⟨p0, p1, p2⟩ := fact3s HPT.out.x
                have HKT1 := HKT.out.lt
                go_wp2_with fail
                refine (CT.out _ (Below.refl _ _)).mono ?_
                rintro en w5 ⟨rfl, hb5⟩
                have HK5 := hid (HKT.out.below hb5 HKT1)
                have HP5 := hid (HPT.out.below hb5)
                have HB5 : Hid (Below w.heap.size w w5) := hid (HBT.out.trans (hb5.mono HBT.out.size))
                have C5 := hid (CU.out _ hb5)
                clear CT CU hb5 p0 p1 p2 HPT HBT HKT HKT1
                obtain ⟨p0, p1, p2⟩ := fact3s HP5.out.x
                obtain ⟨k0, k1⟩ := fact2' HK5.out
                go_wp2_with fail
                refine C5.out.mono ?_
                rintro en w6 ⟨rfl, hb6⟩
                have HP6 := hid (HP5.out.below hb6)
                have HB6 : Hid (Below w.heap.size w w6) := hid (HB5.out.trans (hb6.mono HB5.out.size))
                clear C5 hb6 p0 p1 p2 k0 k1 HP5 HB5
                go_wp2_with fail
                go_roundw
                case rel => exact ⟨i + 1, next, L3, n3, A3, c3, by go_num, by omega, by omega, by omega, HP6.out, HB6.out⟩
                case measure => simp [intOf]; omega
            · have hk2b : (ki == 2) = false := by rw [beq_eq_false_iff_ne]; exact hk2
              clear hk0 hk1 hk2
              have HPT := HPA; have HBT := HBA; have HKT := HKA
              obtain ⟨wt, hwt⟩ : ∃ W, W = wa := ⟨_, rfl⟩
              subst hwt
              go_upto_region 21 with fail
              clear k0 k1
              have CT := hid (fun W (hW : Below wt.heap.size wt W) => sp_told HPT.out z HZ.out hW)
              have CU := hid (fun W (hW : Below wt.heap.size wt W) => sp_told HPT.out id HWF.out.2 hW)
              obtain ⟨p0, p1, p2⟩ := fact3s HPT.out.x
              have HKT1 := HKT.out.lt
              go_wp2_with fail
              refine (CT.out _ (Below.refl _ _)).mono ?_
              rintro en w5 ⟨rfl, hb5⟩
              have HK5 := hid (HKT.out.below hb5 HKT1)
              have HP5 := hid (HPT.out.below hb5)
              have HB5 : Hid (Below w.heap.size w w5) := hid (HBT.out.trans (hb5.mono HBT.out.size))
              have C5 := hid (CU.out _ hb5)
              clear CT CU hb5 p0 p1 p2 HPT HBT HKT HKT1
              obtain ⟨p0, p1, p2⟩ := fact3s HP5.out.x
              obtain ⟨k0, k1⟩ := fact2' HK5.out
              go_wp2_with fail
              refine C5.out.mono ?_
              rintro en w6 ⟨rfl, hb6⟩
              have HP6 := hid (HP5.out.below hb6)
              have HB6 : Hid (Below w.heap.size w w6) := hid (HB5.out.trans (hb6.mono HB5.out.size))
              clear C5 hb6 p0 p1 p2 k0 k1 HP5 HB5
              go_wp2_with fail
              go_roundw
              case rel => exact ⟨i + 1, next, L, n2, A2, c2, by go_num, by omega, by omega, by omega, HP6.out, HB6.out⟩
              case measure => simp [intOf]; omega
      · skip
        go_wp2_with fail
        refine (CLV.out _).mono ?_
        rintro en w5 ⟨rfl, hb⟩
        go_wp2_with fail
        go_ret
        exact ⟨rfl, HB.out.trans (hb.mono HB.out.size)⟩
    · skip
      go_wp2_with fail
      refine (CLV.out _).mono ?_
      rintro en w5 ⟨rfl, hb⟩
      go_wp2_with fail
      go_ret
      exact ⟨rfl, HB.out.trans (hb.mono HB.out.size)⟩
end Go.Proofs.Ytdbiodofofnpgaa
namespace Go.Proofs.Ytdbiodofofnpgaa
open Go.ChangeShapes Go.WideShapes Go.ChangeAt Go.RowKit Go.WideElems Go.Deep
open Go.ChangeMaps (open_string shut_string)

set_option maxRecDepth 100000 in
theorem slotsPlay_lifted (os : Os) (started : os.Started) (H : Type) (enc : TypeId × Value → H) :
    ReturnsInHanded {} Try.checked os 8 .any (Rows.slotsPlaySpec.pre6 enc Try.prog Try.f8 [] false) (Rows.slotsPlaySpec.post enc Try.prog Try.f8 false true false false) := by
  refine law_lifted 8 Try.f8 Rows.slotsPlaySpec os started H enc Try.func8 (by kernel_rfl) (by kernel_rfl) (by kernel_rfl) rfl (fun ds h => ?_)
    (ChangeSpec.witness6 (enc := enc) (C := Try.checked) false ⟨#[], #[.int .i64 0, .slice none 0 0, .int .i64 0], []⟩ 8 (by kernel_rfl) (by kernel_rfl) (by kernel_rfl) (by kernel_rfl)) ?_
  · have hn : ds.length = 3 := h
    match ds, hn with
    | [d0, d1, d2], _ => rfl
  · intro W args ds p base hval hA _ _
    rw [show Try.f8.params.toList = [3, 87, 3] from by rw [Try.params8]] at hval hA
    obtain ⟨v0, _, d0, _, p0, _, rfl, rfl, rfl, h0, hA⟩ := all_cons hA
    obtain ⟨v1, _, d1, _, p1, _, rfl, rfl, rfl, h1, hA⟩ := all_cons hA
    obtain ⟨v2, _, d2, _, p2, _, rfl, rfl, rfl, h2, hA⟩ := all_cons hA
    obtain rfl := all_nil hA
    obtain ⟨x0, rfl, rfl, rfl, hw0⟩ := open_int Try.underlying3 (hval 0 _ v0 rfl rfl) h0
    obtain ⟨A1, n1, c1, l1, rfl, hl1, hn1, hr1, hs1⟩ := open_acts28 (hval 1 _ v1 rfl rfl) h1
    obtain ⟨x2, rfl, rfl, rfl, hw2⟩ := open_int Try.underlying3 (hval 2 _ v2 rfl rfl) h2
    exact slotsPlay_any A1 n1 c1 x0 l1 x2 W hw0 hl1 hn1 hr1 hs1 hw2

theorem slotsPlay_holds : Rows.SlotsPlaySaid :=
  OpenClaim.holds_of_wide 8 Try.f8 rfl rfl rfl rfl rfl rfl rfl ⟨rfl, rfl, rfl, rfl, rfl⟩ rfl rfl rfl rfl rfl (by kernel_rfl) Try.func8 (by kernel_rfl)
    (of_decide_eq_true (by kernel_rfl)) (by unfold Func.isWrapper; first | (rw [if_pos (by decide +kernel)]; kernel_rfl) | (rw [if_neg (by decide +kernel)]; exact ⟨rfl, rfl⟩))
    (fun os started H enc _ => slotsPlay_lifted os started H enc)
#print axioms slotsPlay_holds
end Go.Proofs.Ytdbiodofofnpgaa
