/- The law HeapPlays: what a heap tells of any calls, and all that it holds behind each, is as the page says. -/
import Derived.Test.YtdbiodofofnpgaaKe
import Derived.Test.YtdbiodofofnpgaaKd
import Derived.Test.YtdbiodofofnpgaaKf
namespace Go.Proofs.Ytdbiodofofnpgaa
open Go.RowKit

def tripActs (l : List (Int × Int × Int)) : List Value := l.flatMap fun x => [.int .i64 x.1, .int .i64 x.2.1, .int .i64 x.2.2]
theorem tripAct_cells {w : World} {A : Option Addr} {L : List (Int × Int × Int)} {n k : Nat} (hr : Rd w A (tripActs L)) (hl : L.length = n) (hk : k < n) : ∃ b off i s t, A = some ⟨b, off, none⟩ ∧ b < w.heap.size ∧ (i, s, t) ∈ L ∧ w.cell? ⟨b, off + k * 3, none⟩ = some (.int .i64 i) ∧ w.cell? ⟨b, off + k * 3 + 1, none⟩ = some (.int .i64 s) ∧ w.cell? ⟨b, off + k * 3 + 2, none⟩ = some (.int .i64 t) := by
  subst hl
  have h := flatMap_get (fun x : Int × Int × Int => [Value.int .i64 x.1, .int .i64 x.2.1, .int .i64 x.2.2]) 3 L (fun _ _ => rfl) k hk
  have h1 := h 0 (by omega)
  have h2 := h 1 (by omega)
  have h3 := h 2 (by omega)
  obtain ⟨b, off, rfl, hb, hc⟩ := hr.at (by have := (List.getElem?_eq_some_iff.1 h1).1; show 0 < (List.flatMap _ L).length; omega)
  exact ⟨b, off, _, _, _, rfl, hb, List.getElem_mem hk, hc _ _ h1, hc _ _ h2, hc _ _ h3⟩
theorem i64_bdsH {n : Int} (h : (Lit.int .i64 n).wf = true) : -9223372036854775808 ≤ n ∧ n ≤ 9223372036854775807 := by
  simp [Lit.wf, IntKind.min, IntKind.max, IntKind.signed, IntKind.bits] at h
  omega
/-- A row of entries apart from the heap's blocks. -/
def LR (W : World) (g gw : Nat) (v : Value) (A : Option Addr) (l : List Ent) : Prop := l = [] ∨ ∃ b off, A = some ⟨b, off, none⟩ ∧ b < W.heap.size ∧ ¬ HpF g gw v b ∧ ∀ j u, (entCells l)[j]? = some u → W.cell? ⟨b, off + j, none⟩ = some u
theorem rd_take {W : World} {A : Option Addr} {l : List Ent} (h : Rd W A (entCells l)) (q : Nat) : Rd W A (entCells (l.take q)) := by
  rcases h with h | ⟨b, off, rfl, hb, hc⟩
  · refine .inl ?_
    rw [entCells_take, h]; simp
  · refine .inr ⟨b, off, rfl, hb, fun j u hu => hc j u ?_⟩
    rw [entCells_take] at hu
    rw [List.getElem?_take] at hu
    split at hu
    · exact hu
    · cases hu
theorem LR.rd {W : World} {g gw : Nat} {v : Value} {A : Option Addr} {l : List Ent} (h : LR W g gw v A l) : Rd W A (entCells l) := by
  rcases h with rfl | ⟨b, off, rfl, h1, h2, h3⟩
  · exact .inl rfl
  · exact .inr ⟨b, off, rfl, h1, h3⟩
/-- The heap and the reference's list, beside each other. -/
structure HQ (B : Nat) (W : World) (g gw m : Nat) (v : Value) (L l : List Ent) (A : Option Addr) (n c : Nat) : Prop where
  hp : HpI W g gw m v L
  row : LR W g gw v A l
  len : l.length = n
  nc : n ≤ c
  shape : (A = none ∧ c = 0) ∨ ∃ b off, A = some ⟨b, off, none⟩
  low : B ≤ g ∧ B ≤ gw ∧ ∀ k, v.ownBlock = some k → B ≤ k
theorem fact3E {w : World} {g : Nat} {t : TypeId} {a b c : Value} (h : Blk w g t #[a, b, c]) : w.cell? ⟨g, 0, none⟩ = some a ∧ w.cell? ⟨g, 1, none⟩ = some b ∧ w.cell? ⟨g, 2, none⟩ = some c := ⟨h.cell 0, h.cell 1, h.cell 2⟩
section
variable {B g gw m n c : Nat} {W W' : World} {v : Value} {L l : List Ent} {A : Option Addr}
theorem HQ.below (H : HQ B W g gw m v L l A n c) (hb : Below W.heap.size W W') : HQ B W' g gw m v L l A n c := by
  refine ⟨H.hp.below hb, ?_, H.len, H.nc, H.shape, H.low⟩
  rcases H.row with h | ⟨b, off, rfl, h1, h2, h3⟩
  · exact .inl h
  · exact .inr ⟨b, off, rfl, Nat.lt_of_lt_of_le h1 hb.size, h2, fun j u hu => (hb.cell (p := ⟨b, off + j, none⟩) h1).trans (h3 j u hu)⟩
theorem HQ.lowF (H : HQ B W g gw m v L l A n c) (k : Nat) (h : HpF g gw v k) : B ≤ k := by
  rcases h with rfl | rfl | h
  · exact H.low.1
  · exact H.low.2.1
  · exact H.low.2.2 k h
theorem HQ.post {L' : List Ent} (H : HQ B W g gw m v L l A n c) (hB : B ≤ W.heap.size) (hp : HpPost g gw m v L' W W') : ∃ v', HQ B W' g gw m v' L' l A n c := by
  obtain ⟨v', hi, hk, hv⟩ := hp
  refine ⟨v', hi, ?_, H.len, H.nc, H.shape, H.low.1, H.low.2.1, fun k hk2 => ?_⟩
  · rcases H.row with h | ⟨b, off, rfl, h1, h2, h3⟩
    · exact .inl h
    · refine .inr ⟨b, off, rfl, Nat.lt_of_lt_of_le h1 hk.size, fun hf => ?_, fun j u hu => (hk.cell h1 h2).trans (h3 j u hu)⟩
      rcases hf with h | h | h
      · exact h2 (.inl h)
      · exact h2 (.inr (.inl h))
      · rcases hv b h with h | h
        · exact h2 (.inr (.inr h))
        · omega
  · rcases hv k hk2 with h | h
    · exact H.low.2.2 k h
    · omega
theorem HQ.new {l' : List Ent} {B' n' c' : Nat} {A' : Option Addr} (H : HQ B W g gw m v L l A n c) (ho : W.ownsRow B' 114 2 (.slice A' n' c') n' (entCells l')) (hB : ∀ k, HpF g gw v k → k < B') : HQ B W g gw m v L l' A' n' c' := by
  have hl : l'.length = n' := by have := ho.1; rw [entCells_length] at this; omega
  refine ⟨H.hp, ?_, hl, ?_, ?_, H.low⟩
  · rcases ho.2 with ⟨hv, h0⟩ | ⟨b, cap, cur, hv, hb, hg, _⟩
    · exact .inl (List.eq_nil_of_length_eq_zero (by omega))
    · injection hv with hv _ _; subst hv
      have hlt := ho.lt b rfl
      exact .inr ⟨b, 0, rfl, hlt.2, fun h => by have := hB b h; omega, fun j u hu => by
        rw [Nat.zero_add, ho.cellAt j (by have := (List.getElem?_eq_some_iff.1 hu).1; rw [entCells_length] at this; omega)]; exact hu⟩
  · rcases ho.2 with ⟨hv, h0⟩ | ⟨b, cap, cur, hv, hb, hg, h1, _⟩
    · omega
    · injection hv with _ _ hv; omega
  · rcases ho.2 with ⟨hv, h0⟩ | ⟨b, cap, cur, hv, _⟩
    · injection hv with h1 _ h2; exact .inl ⟨h1, h2⟩
    · injection hv with h1 _ _; exact .inr ⟨b, 0, h1⟩
theorem HQ.drop {b off q : Nat} (H : HQ B W g gw m v L l (some ⟨b, off, none⟩) n c) (hq : q ≤ n) : HQ B W g gw m v L (l.drop q) (some ⟨b, off + q * 2, none⟩) (n - q) (c - q) := by
  have hl := H.len
  have hnc := H.nc
  refine ⟨H.hp, ?_, by rw [List.length_drop, hl], by omega, .inr ⟨_, _, rfl⟩, H.low⟩
  rcases H.row with h | ⟨b', off', he, h1, h2, h3⟩
  · exact .inl (by rw [h]; simp)
  · injection he with he; injection he with e1 e2 _; subst e1; subst e2
    refine .inr ⟨b, off + q * 2, rfl, h1, h2, fun j u hu => ?_⟩
    rw [entCells_drop, List.getElem?_drop] at hu
    rw [Nat.add_assoc]; exact h3 _ _ hu
theorem HQ.dropAll (H : HQ B W g gw m v L l A n c) : HQ B W g gw m v L (l.drop n) A 0 0 := by
  have hl := H.len
  exact ⟨H.hp, .inl (by rw [← hl, List.drop_length]), by rw [List.length_drop]; omega, by omega, H.shape.imp (fun h => ⟨h.1, rfl⟩) id, H.low⟩
theorem HQ.lts (H : HQ B W g gw m v L l A n c) (k : Nat) (h : HpF g gw v k) : k < W.heap.size := H.hp.lt k h
theorem hq_told (H : HQ B W g gw m v l l A n c) (z : Int) :
    Calls Try.prog 55 #[.pointer (some ⟨g, 0, none⟩), .slice A n c, .int .i64 z] W fun e w' => e = .returned (.bool true) ∧ Below W.heap.size W w' :=
  told05_any g gw m v l A n c z W H.hp H.len H.row.rd
theorem own_slice {e : TypeId} {size B' k : Nat} {x : Value} {xs : List Value} (h : W.ownsRow B' e size x k xs) : ∃ A c, x = .slice A k c := by
  rcases h.2 with ⟨hv, h0⟩ | ⟨b, cap, cur, hv, _⟩
  · exact ⟨none, 0, by rw [h0]; exact hv⟩
  · exact ⟨_, _, hv⟩
theorem popH_any (h : HpI W g gw m v L) :
    Calls Try.prog 61 #[.pointer (some ⟨g, 0, none⟩)] W fun en w' => en = .returned (.tuple #[.agg #[.int .i64 (headT L), .int .i64 (headI L)], .bool (!L.isEmpty)]) ∧ HpPost g gw m v (L.drop 1) W w' := by
  cases L with
  | nil => exact (pop_none g gw m v W h).mono fun _ _ ⟨h1, h2⟩ => ⟨h1, h.post h2⟩
  | cons x r => exact pop_some g gw m v x r W h
end
set_option maxRecDepth 20000 in
set_option maxHeartbeats 400000 in
theorem setR_out (A : Option Addr) (n c : Nat) (most : Nat) (id at_ : Int) (w : World) (hb : id < 0 ∨ (most : Int) ≤ id) :
    Calls Try.prog 56 #[.slice A n c, .int .i64 (most : Int), .int .i64 id, .int .i64 at_] w fun e w' => e = .returned (.tuple #[.slice A n c, .bool false]) ∧ w = w' := by
  by_cases h0 : id < 0
  · clear hb
    go_enter Try.func56, Try.ntmps56
    go_wp2_with fail
    go_ret2
    exact ⟨rfl, rfl⟩
  · have h1 : (most : Int) ≤ id := by omega
    have h2 : 0 ≤ id := by omega
    clear hb h0
    go_enter Try.func56, Try.ntmps56
    go_wp2_with fail
    go_ret2
    exact ⟨rfl, rfl⟩

set_option maxRecDepth 20000 in
set_option maxHeartbeats 8000000 in
theorem heapPlays_any (A : Option Addr) (nn cc : Nat) (x : Int) (acts : List (Int × Int × Int)) (z : Int) (w : World) (hx : (Lit.int .i64 x).wf = true) (hl : acts.length = nn) (hn : nn ≤ 9223372036854775807) (hr : Rd w A (tripActs acts)) (hs : ∀ a ∈ acts, (Lit.int .i64 a.1).wf = true ∧ (Lit.int .i64 a.2.1).wf = true ∧ (Lit.int .i64 a.2.2).wf = true) (_ : (Lit.int .i64 z).wf = true) :
    Calls Try.prog 9 #[.int .i64 x, .slice A nn cc, .int .i64 z] w fun e w' => e = .returned (.bool true) ∧ Below w.heap.size w w' := by
  have hn2 := hn
  have hxw := i64_bdsH hx
  have CN := hid (fun W => hNewZ_any x hxw.1 hxw.2 W)
  have CX := hid (fun W => withinH_any x W)
  obtain ⟨m, hm⟩ : ∃ m, clampH x = m := ⟨_, rfl⟩
  have hm1 : 1 ≤ m ∧ m ≤ 1024 := by have := clampH_le x; omega
  rw [hm] at CN CX
  have HL := hid hl; have HR := hid hr; have HS := hid hs
  have CLV := hid (fun W => lives5_any W)
  clear hx hl hr hs hn hxw hm
  go_enter Try.func9, Try.ntmps9
  go_wp2_with fail
  refine (CN.out _).mono ?_
  rintro en w1 ⟨g, gw, rfl, hs1, hb1, hg1, hg2⟩
  have HS1 := hid hs1; have HB1 := hid hb1
  clear hs1 hb1 CN
  go_wp2_with fail
  refine (CX.out _).mono ?_
  rintro en w2' ⟨rfl, rfl⟩
  clear CX
  obtain ⟨w2, ge, hw2, hge, hb2, hk2, h21, h22⟩ := alloc_stepE w1 114 #[]
  rw [hw2, hge]
  have HQ0 : Hid (HQ w.heap.size w2 g gw m (.slice none 0 0) [] [] (some ⟨ge, 0, none⟩) 0 0) := by
    refine ⟨HS1.out.below hb2, .inl rfl, rfl, Nat.le_refl _, .inr ⟨_, _, rfl⟩, hg1, hg2, fun k hk => by simp [Value.ownBlock] at hk⟩
  have HB2 : Hid (Below w.heap.size w w2) := hid (HB1.out.trans (hb2.mono HB1.out.size))
  clear hw2 hge hb2 hk2 h21 h22 HS1 HB1
  have CM := hid (most_any g gw m _ [] w2 HQ0.out.hp)
  go_wp2_with fail
  refine CM.out.mono ?_
  rintro en w3 ⟨rfl, rfl⟩
  clear CM
  have CT := hid (hq_told HQ0.out z)
  go_wp2_with fail
  refine CT.out.mono ?_
  rintro en w3 ⟨rfl, hb3⟩
  have HQ3 := hid (HQ0.out.below hb3)
  have HB3 : Hid (Below w.heap.size w w3) := hid (HB2.out.trans (hb3.mono HB2.out.size))
  clear CT hb3 HQ0 HB2
  go_wp2_with fail
  go_loopw [8, 10] (fun lv iv wr => ∃ (i : Nat) (l : List Ent) (n : Nat) (A2 : Option Addr) (c : Nat) (v : Value), lv = .slice A2 n c ∧ iv = .int .i64 (i : Int) ∧ i ≤ 40 ∧ i ≤ nn ∧ HQ w.heap.size wr g gw m v l l A2 n c ∧ Below w.heap.size w wr) (fun _ iv _ => 40 - (intOf iv).toNat)
  case atStart => exact ⟨0, [], 0, some ⟨ge, 0, none⟩, 0, _, rfl, rfl, by omega, by omega, HQ3.out, HB3.out⟩
  case round =>
    obtain ⟨i, l, n, A2, c, v, rfl, rfl, hi40, hin, hq, hbb⟩ := hrel
    have HP := hid hq; have HB := hid hbb
    clear hq hbb HQ3 HB3
    by_cases hlt : i < nn
    · by_cases hlt4 : i < 40
      · obtain ⟨b, off, ki, id, at_, hA, hbl, hmem, d0, d1, d2⟩ := tripAct_cells HR.out HL.out hlt
        have hwf := HS.out _ hmem
        have HWF := hid hwf
        subst hA
        have e0 := (HB.out.cell (p := ⟨b, off + i * 3, none⟩) hbl).trans d0
        have e1 := (HB.out.cell (p := ⟨b, off + i * 3 + 1, none⟩) hbl).trans d1
        have e2 := (HB.out.cell (p := ⟨b, off + i * 3 + 2, none⟩) hbl).trans d2
        have hki : decide ((i : Int) < 40) = true := by rw [decide_eq_true_eq]; omega
        have hkn : decide ((i : Int) < (nn : Int)) = true := by rw [decide_eq_true_eq]; omega
        clear d0 d1 d2 hmem hwf
        go_upto_region 8 with fail
        obtain ⟨wa, ga, hwa, hga, hba, hka, ha1, ha2⟩ := alloc_stepE wr 107 #[.int .i64 ki, .int .i64 id, .int .i64 at_]
        rw [hwa, hga]
        have HPA := hid (HP.out.below hba)
        have HBA : Hid (Below w.heap.size w wa) := hid (HB.out.trans (hba.mono HB.out.size))
        have HKA := hid hka
        have hge : ¬ HpF g gw v ga := fun h => by have := HP.out.lts ga h; omega
        have HGE := hid hge
        have hn1024 : n ≤ 1024 := by have h1 := HP.out.hp.bds; have h2 := HP.out.len; omega
        clear hwa hga hba hka hge e0 e1 e2 HP HB
        obtain ⟨k0, k1, k2⟩ := fact3E HKA.out
        by_cases hk0 : ki = 0
        · subst hk0
          by_cases hid0 : 0 ≤ id ∧ id < (m : Int)
          · obtain ⟨k, rfl⟩ : ∃ k : Nat, id = (k : Int) := ⟨id.toNat, by omega⟩
            have hkm : k < m := by omega
            have CR := hid (setR_any A2 n c l m k at_ wa HPA.out.len (by omega) HPA.out.row.rd hkm)
            clear hid0
            go_wp2_with fail
            refine CR.out.mono ?_
            rintro en wb ⟨v2, rfl, ho, hb⟩
            obtain ⟨A3, c3, rfl⟩ := own_slice ho
            obtain ⟨l3, hl3⟩ : ∃ y, setE l k at_ = y := ⟨_, rfl⟩
            have CSt : Hid (∀ W, HpI W g gw m v l → Calls Try.prog 57 #[.pointer (some ⟨g, 0, none⟩), .int .i64 (k : Int), .int .i64 at_] W fun en w' => en = .returned (.bool true) ∧ HpPost g gw m v l3 W w') := by
              rw [← hl3]; exact fun W h => setH_any g gw m v l k at_ W h hkm
            rw [hl3] at ho ⊢
            obtain ⟨n3, hn3⟩ : ∃ y, l3.length = y := ⟨_, rfl⟩
            rw [hn3] at ho ⊢
            have HPB := hid ((HPA.out.below hb).new ho (fun k h => HPA.out.lts k h))
            have HBB : Hid (Below w.heap.size w wb) := hid (HBA.out.trans (hb.mono HBA.out.size))
            have HKB := hid (HKA.out.below hb HKA.out.lt)
            clear CR ho hb hl3 hn3 k0 k1 k2 HPA HBA HKA
            obtain ⟨k0, k1, k2⟩ := fact3E HKB.out
            have CS1 := hid (CSt.out _ HPB.out.hp)
            clear CSt
            go_wp2_with fail
            refine CS1.out.mono ?_
            rintro en wt ⟨rfl, hpo⟩
            obtain ⟨v3, hq3⟩ := HPB.out.post HBB.out.size hpo
            have HPT := hid hq3
            have HBT : Hid (Below w.heap.size w wt) := hid (HBB.out.trans (hpo.choose_spec.2.1.below HBB.out.size HPB.out.lowF))
            clear CS1 hpo hq3 HPB HBB HKB k0 k1 k2
            go_upto_region 28 with fail
            have CT := hid (hq_told HPT.out z)
            go_wp2_with fail
            refine CT.out.mono ?_
            rintro en w6 ⟨rfl, hb6⟩
            have HP6 := hid (HPT.out.below hb6)
            have HB6 : Hid (Below w.heap.size w w6) := hid (HBT.out.trans (hb6.mono HBT.out.size))
            clear CT hb6 HPT HBT
            try clear k0 k1 k2
            go_wp2_with fail
            go_roundw
            case rel => exact ⟨i + 1, l3, n3, A3, c3, v3, rfl, by go_num, by omega, by omega, HP6.out, HB6.out⟩
            case measure => simp [intOf]; omega
          · have hid1 : id < 0 ∨ (m : Int) ≤ id := by omega
            have CR := hid (setR_out A2 n c m id at_ wa hid1)
            have CS1 := hid (set_out g gw m v l id at_ wa HPA.out.hp hid1)
            clear hid0 hid1
            go_wp2_with fail
            refine CR.out.mono ?_
            rintro en wb ⟨rfl, rfl⟩
            clear CR
            go_wp2_with fail
            refine CS1.out.mono ?_
            rintro en wt ⟨rfl, rfl⟩
            clear CS1
            have HPT := HPA; have HBT := HBA
            clear k0 k1 k2 HPA HBA HKA
            go_upto_region 28 with fail
            have CT := hid (hq_told HPT.out z)
            go_wp2_with fail
            refine CT.out.mono ?_
            rintro en w6 ⟨rfl, hb6⟩
            have HP6 := hid (HPT.out.below hb6)
            have HB6 : Hid (Below w.heap.size w w6) := hid (HBT.out.trans (hb6.mono HBT.out.size))
            clear CT hb6 HPT HBT
            try clear k0 k1 k2
            go_wp2_with fail
            go_roundw
            case rel => exact ⟨i + 1, l, n, A2, c, v, rfl, by go_num, by omega, by omega, HP6.out, HB6.out⟩
            case measure => simp [intOf]; omega
        · have hk0b : (ki == 0) = false := by rw [beq_eq_false_iff_ne]; exact hk0
          by_cases hk1 : ki = 1
          · subst hk1
            go_upto_region 14 with fail
            have T1 : ∀ q : KW (HpF g gw v) wa, q.1.cell? ⟨ga, 1, none⟩ = some (.int .i64 id) := fun q => q.cellAt HKA.out.lt HGE.out k1
            have CC := hid (fun W (h : HpI W g gw m v l) => hCut_any g gw m v l id W h)
            have CFi := hid (fun W (h : Rd W A2 (entCells l)) => findR_any A2 n c l id W HPA.out.len (by omega) h)
            have CR := hid (fun W (h : Rd W A2 (entCells l)) => cutR_any A2 n c l id W HPA.out.len (by omega) h)
            rw [findZ_has] at CC
            obtain ⟨l3, hl3⟩ : ∃ y, cutZ l id = y := ⟨_, rfl⟩
            rw [hl3] at CC CR
            obtain ⟨n3, hn3⟩ : ∃ y, l3.length = y := ⟨_, rfl⟩
            rw [hn3] at CR
            clear k0 k1 k2 hl3 hn3
            have hfz : (∃ k : Nat, findZ l id = some k) ∨ findZ l id = none := by
              cases findZ l id with
              | none => exact .inr rfl
              | some k => exact .inl ⟨k, rfl⟩
            rcases hfz with ⟨kz, hfz⟩ | hfz
            all_goals rw [hfz] at CC CFi
            all_goals simp only [findV, Option.isSome_some, Option.isSome_none, Nat.zero_add] at CC CFi
            all_goals clear hfz
            all_goals
              refine wp_region_ordK (HpF g gw v) [] (.val 0 (.val 1 (.val 2 (.val 4 (.val 5 (.val 6 (.op 3 (.op 7 (.val 8 (.val 9 (.nil))))))))))) (by kernel_rfl) (by kernel_rfl) ?_
              obtain ⟨wc, hwc⟩ : ∃ W, wa.drewN 1 = W := ⟨_, rfl⟩
              have hbd : Below wa.heap.size wa wc := by rw [← hwc]; exact drewN_below wa 1
              have HPC := hid (HPA.out.below hbd)
              have HBC : Hid (Below w.heap.size w wc) := hid (HBA.out.trans (hbd.mono HBA.out.size))
              have HKC := hid (HKA.out.below hbd HKA.out.lt)
              have HKW : Hid (Keep (HpF g gw v) wa wc) := hid (Keep.of_below hbd)
              rw [hwc]
              clear hwc hbd
              refine wpOrdT_val rfl rfl ?_
              go_big_quiet_step (fail)
              refine wpQuiet_nil ?_
              refine wpOrdT_val rfl rfl ?_
              go_big_quiet_step (fail)
              refine wpQuiet_nil ?_
              refine wpOrdT_load rfl rfl (inKW HKW.out) ?_
              go_big_quiet_step (fail)
              refine wpQuiet_nil ?_
              refine wpOrdT_val rfl rfl ?_
              go_big_quiet_step (fail)
              refine wpQuiet_nil ?_
              refine wpOrdT_val rfl rfl ?_
              go_big_quiet_step (fail)
              refine wpQuiet_nil ?_
              refine wpOrdT_load rfl rfl (inKW HKW.out) ?_
              go_big_quiet_step (fail)
              refine wpQuiet_nil ?_
              refine wpOrdT_op rfl ?_
              go_wp2_with fail
              refine (CC.out _ HPC.out.hp).mono ?_
              rintro en wd ⟨rfl, hpo⟩
              obtain ⟨v3, hq3⟩ := HPC.out.post HBC.out.size hpo
              have HPD := hid hq3
              have hkk := hpo.choose_spec.2.1
              have HBD : Hid (Below w.heap.size w wd) := hid (HBC.out.trans (hkk.below HBC.out.size HPC.out.lowF))
              have HKD := hid (hkk.blk HKC.out HGE.out)
              replace HKW := hid (HKW.out.trans hkk (fun _ h => .inl h))
              clear hpo hq3 hkk HPC HBC HKC CC
              go_wp2_with fail
              refine KT.keep (inKW HKW.out) ?_
              refine wpOrdT_op rfl ?_
              go_wp2_with fail
              refine (CFi.out _ HPD.out.row.rd).mono ?_
              rintro en we ⟨rfl, rfl⟩
              clear CFi
              go_wp2_with fail
              refine KT.keep (inKW HKW.out) ?_
              refine wpOrdT_val rfl rfl ?_
              go_big_quiet_step (fail)
              refine wpQuiet_nil ?_
              refine wpOrdT_val rfl rfl ?_
              go_big_quiet_step (fail)
              refine wpQuiet_nil ?_
              refine wpOrdT_nil ?_
              clear T1 HKW
              have C2 := hid (CR.out _ HPD.out.row.rd)
              obtain ⟨k0, k1, k2⟩ := fact3E HKD.out
              clear CR
              go_wp2_with fail
              refine C2.out.mono ?_
              rintro en wf ⟨g3, c3, rfl, ho3, hb⟩
              have HPF := hid ((HPD.out.below hb).new ho3 (fun k h => HPD.out.lts k h))
              have HBF : Hid (Below w.heap.size w wf) := hid (HBD.out.trans (hb.mono HBD.out.size))
              clear C2 ho3 hb HPD HBD HKD k0 k1 k2
              have HPT := HPF; have HBT := HBF
              clear HPF HBF
              go_upto_region 28 with fail
              clear HPA HBA HKA
              have CT := hid (hq_told HPT.out z)
              go_wp2_with fail
              refine CT.out.mono ?_
              rintro en w6 ⟨rfl, hb6⟩
              have HP6 := hid (HPT.out.below hb6)
              have HB6 : Hid (Below w.heap.size w w6) := hid (HBT.out.trans (hb6.mono HBT.out.size))
              clear CT hb6 HPT HBT
              try clear k0 k1 k2
              go_wp2_with fail
              go_roundw
              case rel => exact ⟨i + 1, l3, n3, (some ⟨g3, 0, none⟩), c3, v3, rfl, by go_num, by omega, by omega, HP6.out, HB6.out⟩
              case measure => simp [intOf]; omega
          · have hk1b : (ki == 1) = false := by rw [beq_eq_false_iff_ne]; exact hk1
            by_cases hk2 : ki = 2
            · subst hk2
              have CP := hid (popH_any HPA.out.hp)
              rcases l with _ | ⟨x0, r⟩
              · have hn0 : n = 0 := by have := HPA.out.len; simpa using this.symm
                subst hn0
                simp only [headT, headI, List.isEmpty_nil, Bool.not_true, List.drop_nil] at CP
                have heq := fun W => Try.eqEntT 0 0 W
                go_wp2_with fail
                refine CP.out.mono ?_
                rintro en wb ⟨rfl, hpo⟩
                obtain ⟨v3, hq3⟩ := HPA.out.post HBA.out.size hpo
                have HPB := hid hq3
                have HBB : Hid (Below w.heap.size w wb) := hid (HBA.out.trans (hpo.choose_spec.2.1.below HBA.out.size HPA.out.lowF))
                clear CP hpo hq3 HPA HBA HKA k0 k1 k2
                go_upto_region 19 with fail
                obtain ⟨wc, gp, hwc, hgp, hbc, hkc, hc1, hc2⟩ := alloc_stepE wb 114 #[.int .i64 0, .int .i64 0]
                rw [hwc, hgp]
                have HPC := hid (HPB.out.below hbc)
                have HBC : Hid (Below w.heap.size w wc) := hid (HBB.out.trans (hbc.mono HBB.out.size))
                have T0 : ∀ q : BW wc.heap.size wc, q.1.cell? ⟨gp, 0, none⟩ = some (.int .i64 0) := fun q => q.cellAt hc2 (hkc.cell 0)
                have T1 : ∀ q : BW wc.heap.size wc, q.1.cell? ⟨gp, 1, none⟩ = some (.int .i64 0) := fun q => q.cellAt hc2 (hkc.cell 1)
                clear hwc hgp hbc hkc hc1 hc2 HPB HBB
                refine wp_region_below wc.heap.size (by kernel_rfl) (by kernel_rfl) ?_
                repeat (go_big_quiet_step (fail))
                refine wpQuiet_nil ?_
                intro wu hqu
                have HPU : Hid (HQ w.heap.size wu g gw m v3 [] [] A2 0 c) := by obtain ⟨q, rfl⟩ := hqu; exact HPC.out.below q.2
                have HBU : Hid (Below w.heap.size w wu) := by obtain ⟨q, rfl⟩ := hqu; exact HBC.out.trans (q.2.mono HBC.out.size)
                clear hqu T0 T1 HPC HBC heq
                go_upto_region 28 with fail
                have HPT := HPU; have HBT := HBU
                obtain ⟨wt, hwt⟩ : ∃ W, W = wu := ⟨_, rfl⟩
                subst hwt
                clear HPU HBU
                have CT := hid (hq_told HPT.out z)
                go_wp2_with fail
                refine CT.out.mono ?_
                rintro en w6 ⟨rfl, hb6⟩
                have HP6 := hid (HPT.out.below hb6)
                have HB6 : Hid (Below w.heap.size w w6) := hid (HBT.out.trans (hb6.mono HBT.out.size))
                clear CT hb6 HPT HBT
                try clear k0 k1 k2
                go_wp2_with fail
                go_roundw
                case rel => exact ⟨i + 1, [], 0, A2, c, v3, rfl, by go_num, by omega, by omega, HP6.out, HB6.out⟩
                case measure => simp [intOf]; omega
              · have hn0 : 0 < n := by have := HPA.out.len; simp at this; omega
                obtain ⟨t, ht⟩ : ∃ y, x0.t = y := ⟨_, rfl⟩
                obtain ⟨xi, hxi⟩ : ∃ y : Int, (x0.id : Int) = y := ⟨_, rfl⟩
                have HXT := hid (And.intro ht hxi)
                simp only [headT, headI, List.isEmpty_cons, Bool.not_false, List.drop_succ_cons, List.drop_zero, ht, hxi] at CP
                clear ht hxi
                have heq := fun W => Try.eqEntT t xi W
                go_wp2_with fail
                refine CP.out.mono ?_
                rintro en wb ⟨rfl, hpo⟩
                obtain ⟨v3, hq3⟩ := HPA.out.post HBA.out.size hpo
                have HPB := hid hq3
                have HBB : Hid (Below w.heap.size w wb) := hid (HBA.out.trans (hpo.choose_spec.2.1.below HBA.out.size HPA.out.lowF))
                clear CP hpo hq3 HPA HBA HKA k0 k1 k2
                go_upto_region 19 with fail
                obtain ⟨wc, gp, hwc, hgp, hbc, hkc, hc1, hc2⟩ := alloc_stepE wb 114 #[.int .i64 t, .int .i64 xi]
                rw [hwc, hgp]
                have HPC := hid (HPB.out.below hbc)
                have HBC : Hid (Below w.heap.size w wc) := hid (HBB.out.trans (hbc.mono HBB.out.size))
                have T0 : ∀ q : BW wc.heap.size wc, q.1.cell? ⟨gp, 0, none⟩ = some (.int .i64 t) := fun q => q.cellAt hc2 (hkc.cell 0)
                have T1 : ∀ q : BW wc.heap.size wc, q.1.cell? ⟨gp, 1, none⟩ = some (.int .i64 xi) := fun q => q.cellAt hc2 (hkc.cell 1)
                clear hwc hgp hbc hkc hc1 hc2 HPB HBB
                obtain ⟨b9, off9, hA, hbl9, d0, d1⟩ := ent_row HPC.out.row.rd HPC.out.len hn0
                rw [show eg (x0 :: r) 0 = x0 from rfl, HXT.out.1] at d0
                rw [show eg (x0 :: r) 0 = x0 from rfl, HXT.out.2] at d1
                simp only [Nat.zero_mul, Nat.add_zero] at d0 d1
                subst hA
                have T2 : ∀ q : BW wc.heap.size wc, q.1.cell? ⟨b9, off9, none⟩ = some (.int .i64 t) := fun q => q.cellAt hbl9 d0
                have T3 : ∀ q : BW wc.heap.size wc, q.1.cell? ⟨b9, off9 + 1, none⟩ = some (.int .i64 xi) := fun q => q.cellAt hbl9 d1
                clear d0 d1 hbl9
                refine wp_region_below wc.heap.size (by kernel_rfl) (by kernel_rfl) ?_
                repeat (go_big_quiet_step (fail))
                refine wpQuiet_nil ?_
                intro wu hqu
                have HPU : Hid (HQ w.heap.size wu g gw m v3 r (x0 :: r) (some ⟨b9, off9, none⟩) n c) := by obtain ⟨q, rfl⟩ := hqu; exact HPC.out.below q.2
                have HBU : Hid (Below w.heap.size w wu) := by obtain ⟨q, rfl⟩ := hqu; exact HBC.out.trans (q.2.mono HBC.out.size)
                clear hqu T0 T1 HPC HBC heq
                clear T2 T3
                have hnc : n ≤ c := HPU.out.nc
                have HPD := hid (HPU.out.drop (q := 1) (by omega))
                by_cases hc1 : c = 1
                · have hn1 : n = 1 := by omega
                  subst hc1
                  subst hn1
                  have HPE : Hid (HQ w.heap.size wu g gw m v3 r r (some ⟨b9, off9, none⟩) 0 0) := by
                    have hr0 : r = [] := by have := HPU.out.len; simpa using this
                    have := HPD.out
                    rw [Hid, hr0] at *
                    exact ⟨this.hp, .inl rfl, rfl, Nat.le_refl _, .inr ⟨_, _, rfl⟩, this.low⟩
                  clear HPU HPD hnc
                  go_upto_region 28 with fail
                  have HPT := HPE; have HBT := HBU
                  obtain ⟨wt, hwt⟩ : ∃ W, W = wu := ⟨_, rfl⟩
                  subst hwt
                  clear HPE HBU
                  have CT := hid (hq_told HPT.out z)
                  go_wp2_with fail
                  refine CT.out.mono ?_
                  rintro en w6 ⟨rfl, hb6⟩
                  have HP6 := hid (HPT.out.below hb6)
                  have HB6 : Hid (Below w.heap.size w w6) := hid (HBT.out.trans (hb6.mono HBT.out.size))
                  clear CT hb6 HPT HBT
                  try clear k0 k1 k2
                  go_wp2_with fail
                  go_roundw
                  case rel => exact ⟨i + 1, r, 0, (some ⟨b9, off9, none⟩), 0, v3, rfl, by go_num, by omega, by omega, HP6.out, HB6.out⟩
                  case measure => simp [intOf]; omega
                · have hc2 : 1 < c := by omega
                  have HPE : Hid (HQ w.heap.size wu g gw m v3 r r (some ⟨b9, off9 + 2, none⟩) (n - 1) (c - 1)) := HPD.out
                  clear HPU HPD
                  go_upto_region 28 with fail
                  obtain ⟨n4, hn4⟩ : ∃ y, n - 1 = y := ⟨_, rfl⟩
                  obtain ⟨c4, hc4⟩ : ∃ y, c - 1 = y := ⟨_, rfl⟩
                  obtain ⟨o4, ho4⟩ : ∃ y, off9 + 2 = y := ⟨_, rfl⟩
                  rw [hn4, hc4, ho4] at HPE
                  rw [hn4, hc4, ho4]
                  clear hn4 hc4 ho4
                  have HPT := HPE; have HBT := HBU
                  obtain ⟨wt, hwt⟩ : ∃ W, W = wu := ⟨_, rfl⟩
                  subst hwt
                  clear HPE HBU
                  have CT := hid (hq_told HPT.out z)
                  go_wp2_with fail
                  refine CT.out.mono ?_
                  rintro en w6 ⟨rfl, hb6⟩
                  have HP6 := hid (HPT.out.below hb6)
                  have HB6 : Hid (Below w.heap.size w w6) := hid (HBT.out.trans (hb6.mono HBT.out.size))
                  clear CT hb6 HPT HBT
                  try clear k0 k1 k2
                  go_wp2_with fail
                  go_roundw
                  case rel => exact ⟨i + 1, r, n4, (some ⟨b9, o4, none⟩), c4, v3, rfl, by go_num, by omega, by omega, HP6.out, HB6.out⟩
                  case measure => simp [intOf]; omega
            · have hk2b : (ki == 2) = false := by rw [beq_eq_false_iff_ne]; exact hk2
              by_cases hk3 : ki = 3
              · subst hk3
                have CDn := hid (dueNR_any A2 n c l at_ wa HPA.out.len (by omega) HPA.out.row.rd)
                go_wp2_with fail
                refine CDn.out.mono ?_
                rintro en wb ⟨q, rfl, hqn, hd1, hd2, rfl⟩
                have CD := hid (fun W (h : HpI W g gw m v l) => hDue_any g gw m v l at_ W h)
                rw [hd1, hd2] at CD
                have hlq : (l.take q).length = q := by rw [List.length_take, HPA.out.len]; omega
                have CSm := hid (fun B d W (h1 : Rd W B (entCells (l.take q))) (h2 : Rd W A2 (entCells l)) => sameE_any B A2 q q d c (l.take q) (l.take q) W hlq hlq (by omega) (by omega) h1 (rd_take h2 q))
                rw [show sameE (l.take q) (l.take q) = true from decide_eq_true rfl] at CSm
                rw [hlq] at CD
                clear CDn hd1 hd2 hlq
                go_upto_region 25 with fail
                have T2 : ∀ q : KW (HpF g gw v) wa, q.1.cell? ⟨ga, 2, none⟩ = some (.int .i64 at_) := fun q => q.cellAt HKA.out.lt HGE.out k2
                have hqi : (q : Int) ≤ (n : Int) := by omega
                have hqc0 : q ≤ c := by have := HPA.out.nc; omega
                have hqc1 : (q : Int) ≤ (c : Int) := by omega
                clear k0 k1 k2
                refine wp_region_ordK (HpF g gw v) [] (.val 0 (.val 1 (.val 2 (.val 4 (.val 5 (.val 6 (.op 3 (.op 7 (.val 8 (.nil)))))))))) (by kernel_rfl) (by kernel_rfl) ?_
                obtain ⟨wc, hwc⟩ : ∃ W, wa.drewN 1 = W := ⟨_, rfl⟩
                have hbd : Below wa.heap.size wa wc := by rw [← hwc]; exact drewN_below wa 1
                have HPC := hid (HPA.out.below hbd)
                have HBC : Hid (Below w.heap.size w wc) := hid (HBA.out.trans (hbd.mono HBA.out.size))
                have HKC := hid (HKA.out.below hbd HKA.out.lt)
                have HKW : Hid (Keep (HpF g gw v) wa wc) := hid (Keep.of_below hbd)
                rw [hwc]
                clear hwc hbd
                refine wpOrdT_val rfl rfl ?_
                go_big_quiet_step (fail)
                refine wpQuiet_nil ?_
                refine wpOrdT_val rfl rfl ?_
                go_big_quiet_step (fail)
                refine wpQuiet_nil ?_
                refine wpOrdT_load rfl rfl (inKW HKW.out) ?_
                go_big_quiet_step (fail)
                refine wpQuiet_nil ?_
                refine wpOrdT_val rfl rfl ?_
                go_big_quiet_step (fail)
                refine wpQuiet_nil ?_
                refine wpOrdT_val rfl rfl ?_
                go_big_quiet_step (fail)
                refine wpQuiet_nil ?_
                refine wpOrdT_val rfl rfl ?_
                go_big_quiet_step (fail)
                refine wpQuiet_nil ?_
                refine wpOrdT_op rfl ?_
                go_wp2_with fail
                refine (CD.out _ HPC.out.hp).mono ?_
                rintro en wd ⟨A6, c6, rfl, hdp⟩
                obtain ⟨v3', hi6, hk6, hv6, ho6, hf6⟩ := hdp
                have hpo : HpPost g gw m v (l.drop q) wc wd := ⟨v3', hi6, hk6, hv6⟩
                obtain ⟨v3, hq3⟩ := HPC.out.post HBC.out.size hpo
                have HPD := hid hq3
                have HBD : Hid (Below w.heap.size w wd) := hid (HBC.out.trans (hk6.below HBC.out.size HPC.out.lowF))
                have HRD := hid (Rd_of_own ho6)
                replace HKW := hid (HKW.out.trans hk6 (fun _ h => .inl h))
                clear hpo hq3 hi6 hk6 hv6 ho6 hf6 HPC HBC HKC CD
                go_wp2_with fail
                refine KT.keep (inKW HKW.out) ?_
                refine wpOrdT_op rfl ?_
                go_wp2_with fail
                refine (CSm.out A6 c6 _ HRD.out HPD.out.row.rd).mono ?_
                rintro en we ⟨rfl, hb⟩
                have HPE := hid (HPD.out.below hb)
                have HBE : Hid (Below w.heap.size w we) := hid (HBD.out.trans (hb.mono HBD.out.size))
                replace HKW := hid (HKW.out.trans (Keep.of_below hb) (fun _ h => .inl h))
                clear hb HPD HBD HRD CSm
                go_wp2_with fail
                refine KT.keep (inKW HKW.out) ?_
                refine wpOrdT_val rfl rfl ?_
                go_big_quiet_step (fail)
                refine wpQuiet_nil ?_
                refine wpOrdT_nil ?_
                clear T2 HKW HPA HBA HKA
                have hnc : n ≤ c := HPE.out.nc
                by_cases hcq : c = q
                · have hnq : n = q := by omega
                  have HPF := hid (HPE.out.dropAll)
                  have HPG : Hid (HQ w.heap.size we g gw m v3 (l.drop q) (l.drop q) A2 0 0) := by have := HPF.out; rw [hnq] at this; exact this
                  subst hcq
                  subst hnq
                  obtain ⟨l3, hl3⟩ : ∃ y, l.drop n = y := ⟨_, rfl⟩
                  rw [hl3] at HPG
                  clear HPE HPF hl3 hnc hqn
                  go_upto_region 28 with fail
                  have HPT := HPG; have HBT := HBE
                  obtain ⟨wt, hwt⟩ : ∃ W, W = we := ⟨_, rfl⟩
                  subst hwt
                  clear HPG HBE
                  have CT := hid (hq_told HPT.out z)
                  go_wp2_with fail
                  refine CT.out.mono ?_
                  rintro en w6 ⟨rfl, hb6⟩
                  have HP6 := hid (HPT.out.below hb6)
                  have HB6 : Hid (Below w.heap.size w w6) := hid (HBT.out.trans (hb6.mono HBT.out.size))
                  clear CT hb6 HPT HBT
                  try clear k0 k1 k2
                  go_wp2_with fail
                  go_roundw
                  case rel => exact ⟨i + 1, l3, 0, A2, 0, v3, rfl, by go_num, by omega, by omega, HP6.out, HB6.out⟩
                  case measure => simp [intOf]; omega
                · have hqc : q < c := by omega
                  obtain ⟨b9, off9, rfl⟩ : ∃ b off, A2 = some ⟨b, off, none⟩ := by
                    rcases HPE.out.shape with h | h
                    · omega
                    · exact h
                  have HPF := hid (HPE.out.drop hqn)
                  obtain ⟨l3, hl3⟩ : ∃ y, l.drop q = y := ⟨_, rfl⟩
                  rw [hl3] at HPF
                  clear HPE hl3 hcq
                  go_upto_region 28 with fail
                  have HPT := HPF; have HBT := HBE
                  obtain ⟨wt, hwt⟩ : ∃ W, W = we := ⟨_, rfl⟩
                  subst hwt
                  clear HPF HBE

                  have CT := hid (hq_told HPT.out z)
                  go_wp2_with fail
                  refine CT.out.mono ?_
                  rintro en w6 ⟨rfl, hb6⟩
                  have HP6 := hid (HPT.out.below hb6)
                  have HB6 : Hid (Below w.heap.size w w6) := hid (HBT.out.trans (hb6.mono HBT.out.size))
                  clear CT hb6 HPT HBT
                  try clear k0 k1 k2
                  go_wp2_with fail
                  go_roundw
                  case rel => exact ⟨i + 1, l3, (n - q), (some ⟨b9, off9 + q * 2, none⟩), (c - q), v3, rfl, by go_num, by omega, by omega, HP6.out, HB6.out⟩
                  case measure => simp [intOf]; omega
              · have hk3b : (ki == 3) = false := by rw [beq_eq_false_iff_ne]; exact hk3
                clear hk0 hk1 hk2 hk3
                have HPT := HPA; have HBT := HBA
                obtain ⟨wt, hwt⟩ : ∃ W, W = wa := ⟨_, rfl⟩
                subst hwt
                go_upto_region 28 with fail
                have CT := hid (hq_told HPT.out z)
                go_wp2_with fail
                refine CT.out.mono ?_
                rintro en w6 ⟨rfl, hb6⟩
                have HP6 := hid (HPT.out.below hb6)
                have HB6 : Hid (Below w.heap.size w w6) := hid (HBT.out.trans (hb6.mono HBT.out.size))
                clear CT hb6 HPT HBT
                try clear k0 k1 k2
                go_wp2_with fail
                go_roundw
                case rel => exact ⟨i + 1, l, n, A2, c, v, rfl, by go_num, by omega, by omega, HP6.out, HB6.out⟩
                case measure => simp [intOf]; omega
      · skip
        go_wp2_with fail
        refine (CLV.out _).mono ?_
        rintro en w5 ⟨rfl, hb⟩
        go_wp2_with fail
        go_ret
        exact ⟨rfl, HB.out.trans (hb.mono HB.out.size)⟩
    · skip
      go_wp2_with fail
      refine (CLV.out _).mono ?_
      rintro en w5 ⟨rfl, hb⟩
      go_wp2_with fail
      go_ret
      exact ⟨rfl, HB.out.trans (hb.mono HB.out.size)⟩
end Go.Proofs.Ytdbiodofofnpgaa
namespace Go.Proofs.Ytdbiodofofnpgaa
open Go.ChangeShapes Go.WideShapes Go.ChangeAt Go.RowKit Go.WideElems Go.Deep
open Go.ChangeMaps (open_string shut_string)

set_option maxRecDepth 100000 in
theorem heapPlays_lifted (os : Os) (started : os.Started) (H : Type) (enc : TypeId × Value → H) :
    ReturnsInHanded {} Try.checked os 9 .any (Rows.heapPlaysSpec.pre6 enc Try.prog Try.f9 [] false) (Rows.heapPlaysSpec.post enc Try.prog Try.f9 false true false false) := by
  refine law_lifted 9 Try.f9 Rows.heapPlaysSpec os started H enc Try.func9 (by kernel_rfl) (by kernel_rfl) (by kernel_rfl) rfl (fun ds h => ?_)
    (ChangeSpec.witness6 (enc := enc) (C := Try.checked) false ⟨#[], #[.int .i64 0, .slice none 0 0, .int .i64 0], []⟩ 8 (by kernel_rfl) (by kernel_rfl) (by kernel_rfl) (by kernel_rfl)) ?_
  · have hn : ds.length = 3 := h
    match ds, hn with
    | [d0, d1, d2], _ => rfl
  · intro W args ds p base hval hA _ _
    rw [show Try.f9.params.toList = [3, 101, 3] from by rw [Try.params9]] at hval hA
    obtain ⟨v0, _, d0, _, p0, _, rfl, rfl, rfl, h0, hA⟩ := all_cons hA
    obtain ⟨v1, _, d1, _, p1, _, rfl, rfl, rfl, h1, hA⟩ := all_cons hA
    obtain ⟨v2, _, d2, _, p2, _, rfl, rfl, rfl, h2, hA⟩ := all_cons hA
    obtain rfl := all_nil hA
    obtain ⟨x0, rfl, rfl, rfl, hw0⟩ := open_int Try.underlying3 (hval 0 _ v0 rfl rfl) h0
    obtain ⟨A1, n1, c1, l1, rfl, hl1, hn1, hr1, hs1⟩ := open_acts05 (hval 1 _ v1 rfl rfl) h1
    obtain ⟨x2, rfl, rfl, rfl, hw2⟩ := open_int Try.underlying3 (hval 2 _ v2 rfl rfl) h2
    exact heapPlays_any A1 n1 c1 x0 l1 x2 W hw0 hl1 hn1 hr1 hs1 hw2

theorem heapPlays_holds : Rows.HeapPlaysSaid :=
  OpenClaim.holds_of_wide 9 Try.f9 rfl rfl rfl rfl rfl rfl rfl ⟨rfl, rfl, rfl, rfl, rfl⟩ rfl rfl rfl rfl rfl (by kernel_rfl) Try.func9 (by kernel_rfl)
    (of_decide_eq_true (by kernel_rfl)) (by unfold Func.isWrapper; first | (rw [if_pos (by decide +kernel)]; kernel_rfl) | (rw [if_neg (by decide +kernel)]; exact ⟨rfl, rfl⟩))
    (fun os started H enc _ => heapPlays_lifted os started H enc)
#print axioms heapPlays_holds
end Go.Proofs.Ytdbiodofofnpgaa
