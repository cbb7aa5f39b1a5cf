/- The shelf's layings at this program (numbers of this seat). Walks: package heap: List (a clone, sorted by the library). Walks: package heap: New of any number, Cut; the reference of layer 5: Find, Due. Walks: law 5's told. -/
import Derived.Shelf.SlSortCmp.NoneTotal
import Derived.Shelf.SlicesE.Clone
import Derived.Test.YtdbiodofofnpgaaKd
import Derived.Test.YtdbiodofofnpgaaNa
namespace Go.Proofs.Ytdbiodofofnpgaa
open Go.Shelf Go.RowKit
def Try.sortE_ren : Go.Shelf.Ren := ⟨fun | 6 => 122 | 15 => 144 | 14 => 145 | 28 => 171 | 29 => 172 | 20 => 173 | 21 => 174 | 22 => 175 | 23 => 176 | 24 => 177 | 25 => 178 | 26 => 179 | 27 => 180 | 46 => 203 | 47 => 199 | 48 => 200 | 49 => 204 | 50 => 205 | 57 => 216 | n => n, fun | 22 => 104 | 24 => 114 | 25 => 195 | 3 => 3 | 39 => 214 | 0 => 0 | 53 => 252 | 55 => 185 | 4 => 4 | 46 => 245 | 45 => 244 | 50 => 24 | 5 => 5 | 9 => 9 | 66 => 271 | 70 => 274 | 76 => 288 | 77 => 289 | n => n, fun | n => n⟩
theorem Try.sortE : Go.Proofs.SlLaysF0.n6 Try.prog Try.sortE_ren := {
  mixed := by kernel_rfl
  f6 := ⟨Try.f122.name, by decide, Try.func122.trans (congrArg some (by kernel_rfl))⟩
  f14 := ⟨Try.f145.name, by decide, Try.func145.trans (congrArg some (by kernel_rfl))⟩
  f15 := Try.func144.trans (congrArg some (by kernel_rfl))
  f20 := ⟨Try.f173.name, by decide, Try.func173.trans (congrArg some (by kernel_rfl))⟩
  f21 := ⟨Try.f174.name, by decide, Try.func174.trans (congrArg some (by kernel_rfl))⟩
  f22 := ⟨Try.f175.name, by decide, Try.func175.trans (congrArg some (by kernel_rfl))⟩
  f23 := ⟨Try.f176.name, by decide, Try.func176.trans (congrArg some (by kernel_rfl))⟩
  f24 := ⟨Try.f177.name, by decide, Try.func177.trans (congrArg some (by kernel_rfl))⟩
  f25 := ⟨Try.f178.name, by decide, Try.func178.trans (congrArg some (by kernel_rfl))⟩
  f26 := ⟨Try.f179.name, by decide, Try.func179.trans (congrArg some (by kernel_rfl))⟩
  f27 := ⟨Try.f180.name, by decide, Try.func180.trans (congrArg some (by kernel_rfl))⟩
  f28 := Try.func171.trans (congrArg some (by kernel_rfl))
  f29 := Try.func172.trans (congrArg some (by kernel_rfl))
  f46 := ⟨Try.f203.name, by decide, Try.func203.trans (congrArg some (by kernel_rfl))⟩
  f47 := Try.func199.trans (congrArg some (by kernel_rfl))
  f48 := Try.func200.trans (congrArg some (by kernel_rfl))
  f49 := ⟨Try.f204.name, by decide, Try.func204.trans (congrArg some (by kernel_rfl))⟩
  f50 := ⟨Try.f205.name, by decide, Try.func205.trans (congrArg some (by kernel_rfl))⟩
  f57 := ⟨Try.f216.name, by decide, Try.func216.trans (congrArg some (by kernel_rfl))⟩
  t0 := Try.underlying0
  a0 := Try.isAgg0
  z0 := Try.sizeOf0
  v0 := Try.zeroValue0
  t3 := Try.underlying3
  a3 := Try.isAgg3
  z3 := Try.sizeOf3
  v3 := Try.zeroValue3
  t4 := Try.underlying4
  a4 := Try.isAgg4
  z4 := Try.sizeOf4
  v4 := Try.zeroValue4
  t5 := Try.underlying5
  a5 := Try.isAgg5
  z5 := Try.sizeOf5
  v5 := Try.zeroValue5
  t9 := Try.underlying9
  a9 := Try.isAgg9
  z9 := Try.sizeOf9
  v9 := Try.zeroValue9
  t22 := Try.underlying104
  a22 := Try.isAgg104
  z22 := Try.sizeOf104
  v22 := Try.zeroValue104
  t25 := Try.underlying195
  a25 := Try.isAgg195
  z25 := Try.sizeOf195
  v25 := Try.zeroValue195
  t39 := Try.underlying214
  a39 := Try.isAgg214
  z39 := Try.sizeOf214
  v39 := Try.zeroValue214
  t45 := Try.underlying244
  a45 := Try.isAgg244
  z45 := Try.sizeOf244
  v45 := Try.zeroValue244
  t46 := Try.underlying245
  a46 := Try.isAgg245
  z46 := Try.sizeOf245
  v46 := Try.zeroValue245
  t50 := Try.underlying24
  a50 := Try.isAgg24
  z50 := Try.sizeOf24
  v50 := Try.zeroValue24
  t53 := Try.underlying252
  a53 := Try.isAgg252
  z53 := Try.sizeOf252
  v53 := Try.zeroValue252
  t55 := Try.underlying185
  a55 := Try.isAgg185
  z55 := Try.sizeOf185
  v55 := Try.zeroValue185
  t66 := Try.underlying271
  a66 := Try.isAgg271
  z66 := Try.sizeOf271
  v66 := Try.zeroValue271
  t70 := Try.underlying274
  a70 := Try.isAgg274
  z70 := Try.sizeOf274
  v70 := Try.zeroValue274
  t76 := Try.underlying288
  a76 := Try.isAgg288
  z76 := Try.sizeOf288
  v76 := Try.zeroValue288
  t77 := Try.underlying289
  a77 := Try.isAgg289
  z77 := Try.sizeOf289
  v77 := Try.zeroValue289 }
def Try.cloneE_ren : Go.Shelf.Ren := ⟨fun | 41 => 121 | n => n, fun | 22 => 104 | 23 => 114 | 4 => 4 | n => n, fun | n => n⟩
theorem Try.cloneE : Go.Proofs.SlLaysE0.n41 Try.prog Try.cloneE_ren := {
  mixed := by kernel_rfl
  f41 := ⟨Try.f121.name, by decide, Try.func121.trans (congrArg some (by kernel_rfl))⟩
  t4 := Try.underlying4
  a4 := Try.isAgg4
  z4 := Try.sizeOf4
  v4 := Try.zeroValue4
  t22 := Try.underlying104
  a22 := Try.isAgg104
  z22 := Try.sizeOf104
  v22 := Try.zeroValue104 }
end Go.Proofs.Ytdbiodofofnpgaa
namespace Go.Proofs.Ytdbiodofofnpgaa
open Go.RowKit Go.Sort Go.Shelf

theorem grow3 (w : World) (a b c : Obj) (n : Nat) : (((w.alloc a).alloc b).drewN n).alloc c = grow (w.drewN n) ((#[a] ++ #[b]) ++ #[c]) := by
  rw [alloc_eq_grow, alloc_eq_grow, alloc_eq_grow, grow_grow]
  exact grow_grow (w.drewN n) _ _
set_option maxRecDepth 20000 in
theorem orderG_any (a b : Ent) (w : World) :
    Calls Try.prog 123 #[.agg #[.int .i64 a.t, .int .i64 (a.id : Int)], .agg #[.int .i64 b.t, .int .i64 (b.id : Int)]] w fun e w' => e = .returned (.int .i64 (cmpE a b)) ∧ ∃ q os', w' = grow (w.drewN q) os' := by
  have HC := hid (cmpE_or a b)
  obtain ⟨at_, aid⟩ := a
  obtain ⟨bt, bid⟩ := b
  go_enter Try.func123, Try.ntmps123
  go_wp2_with fail
  refine wp_region_tail 10 (by kernel_rfl) (by kernel_rfl) ?_
  simp only [List.take_succ_cons, List.take_zero, List.drop_succ_cons, List.drop_zero]
  repeat still_step
  still_call (Calls.same (compare64_any _ _ _))
  repeat still_step
  still_call (Calls.same (compare_any _ _ _))
  refine wpStill_nil ?_
  go_wp2_with (go_at_call 146; go_loud (refine (or_any (w.heap.size + 1 + 1) _ (cmpI at_ bt) (cmpI aid bid) _ (by go_simp) (by go_simp)).mono ?_; rintro e w1 ⟨rfl, rfl⟩))
  go_ret
  exact ⟨by rw [← HC.out]; rfl, 1, _, grow3 _ _ _ _ _⟩

def leE (a b : Ent) : Bool := !(ltOf cmpE b a)
theorem ltOf_cmpE (a b : Ent) : ltOf cmpE a b = decide (a.lt b) := by
  unfold ltOf
  rw [Bool.eq_iff_iff, decide_eq_true_iff, decide_eq_true_iff]; exact cmpE_lt
theorem swoE : SWO (ltOf cmpE) where
  irrefl x := by rw [ltOf_cmpE]; simp [Ent.lt_irrefl]
  trans x y z h1 h2 := by rw [ltOf_cmpE] at *; simp only [decide_eq_true_eq] at *; exact Ent.lt_trans h1 h2
  ntrans x y z h1 h2 := by rw [ltOf_cmpE] at *; simp only [decide_eq_false_iff_not] at *; unfold Ent.lt at *; omega
theorem leE_iff (a b : Ent) : leE a b = true ↔ a.le b := by
  unfold leE
  rw [ltOf_cmpE]
  simp only [Bool.not_eq_true', decide_eq_false_iff_not]
  exact Ent.not_lt
theorem sortedE_nodup {l : List Ent} (h : SortedE l) : l.Nodup := by
  unfold List.Nodup
  refine List.Pairwise.imp (fun {a b} (hab : Ent.lt a b) => ?_) h
  intro e; subst e; exact Ent.lt_irrefl _ hab
theorem mergeE {L l : List Ent} (hp : L.Perm l) (hs : SortedE l) : L.mergeSort leE = l := by
  have h1 : (L.mergeSort leE).Perm l := (List.mergeSort_perm L leE).trans hp
  refine sorted_unique ?_ hs h1
  have h2 : (L.mergeSort leE).Pairwise (fun a b => leE a b = true) := List.pairwise_mergeSort (fun a b c h1 h2 => by rw [leE_iff] at *; exact Ent.le_trans h1 h2) (fun a b => by
    rw [Bool.or_eq_true, leE_iff, leE_iff]; unfold Ent.le; omega) L
  have h3 : (L.mergeSort leE).Nodup := h1.symm.nodup (sortedE_nodup hs)
  refine List.Pairwise.imp₂ (R := fun a b => leE a b = true) (S := fun a b => a ≠ b) (fun a b h1 h2 => ?_) h2 h3
  rw [leE_iff] at h1
  unfold Ent.le Ent.lt at *
  rcases h1 with h1 | ⟨h1, h4⟩
  · exact .inl h1
  · refine .inr ⟨h1, ?_⟩
    rcases Nat.lt_or_ge a.id b.id with h | h
    · exact h
    · exact absurd (Ent.eq_of h1 (by omega)) h2
theorem holds_rd {w : World} {blk : Nat} {L : List Ent} (h : HoldsK Ent.cells 2 w blk 0 L.toArray) (hb : blk < w.heap.size) : Rd w (some ⟨blk, 0, none⟩) (entCells L) := by
  refine .inr ⟨blk, 0, rfl, hb, fun j u hu => ?_⟩
  have hj : j < L.length * 2 := by have := (List.getElem?_eq_some_iff.1 hu).1; rwa [entCells_length] at this
  have hk : j / 2 < L.length := by omega
  have hm : j % 2 < 2 := Nat.mod_lt _ (by omega)
  have hc := (h.cell (i := j / 2) (c := j % 2) (by simpa using hk) hm).1
  have hg := entCells_get L (j / 2) hk (j % 2) hm
  have e : j / 2 * 2 + j % 2 = j := by omega
  rw [e, hu] at hg
  rw [show 0 + j / 2 * 2 + j % 2 = j from by omega] at hc
  rw [Nat.zero_add, hc]
  have e2 : L.toArray[j / 2]! = eg L (j / 2) := by rw [eg_of hk]; simp [hk]
  rw [e2]
  have e3 : (eg L (j / 2)).cells[j % 2]! = u := by
    rw [List.getElem!_eq_getElem?_getD, ← hg]; rfl
  rw [e3]
theorem rd_holds {w : World} {base g c n : Nat} {L : List Ent} (h : w.ownsRow base 114 2 (.slice (some ⟨g, 0, none⟩) n c) n (entCells L)) : HoldsK Ent.cells 2 w g 0 L.toArray := by
  have hl : L.length = n := by have := h.1; rw [entCells_length] at this; omega
  intro j hj
  rw [size_flatK] at hj
  have hj : j < L.length * 2 := by simpa using hj
  have hk : j / 2 < L.length := by omega
  have hm : j % 2 < 2 := Nat.mod_lt _ (by omega)
  refine ⟨?_, ?_⟩
  · rw [get_flatK _ _ _ _ (by simpa using hj)]
    have hg := entCells_get L (j / 2) hk (j % 2) hm
    have e : j / 2 * 2 + j % 2 = j := by omega
    rw [e] at hg
    rw [Nat.zero_add]
    have h1 := h.cellAt j (by omega)
    rw [h1, hg]
    have e2 : L.toArray[j / 2]! = eg L (j / 2) := by rw [eg_of hk]; simp [hk]
    rw [e2]
    show (eg L (j / 2)).cells[j % 2]? = some (eg L (j / 2)).cells[j % 2]!
    rw [List.getElem!_eq_getElem?_getD, List.getElem?_eq_getElem (show j % 2 < (eg L (j / 2)).cells.length from hm)]
    rfl
  · rw [Nat.zero_add]; exact h.frozenAt j
theorem sort_below {w : World} {B blk n : Nat} {d : Array Ent} {os : Array Obj} (hb : B ≤ blk) (hB : B ≤ w.heap.size) : Below B w (sortWorldK Ent.cells 2 w blk 0 n d os) := by
  unfold sortWorldK putRowK
  refine ⟨rfl, rfl, rfl, by simp, fun k hk => ?_⟩
  rw [heap_grow_old _ _ (by simp; omega)]
  have : blk ≠ k := by omega
  simp [putRow, mapBlock, Sort.ahead, Array.getElem?_modify, this]

theorem Try.aggEntry (w : World) : (isAgg 114).run Try.prog w = .ok true w := by kernel_rfl
theorem Try.sizeEntry (w : World) : (Go.sizeOf 114).run Try.prog w = .ok 2 w := by kernel_rfl

set_option maxRecDepth 20000 in
set_option maxHeartbeats 800000 in
theorem listH_any (g gw m : Nat) (v : Value) (l : List Ent) (w : World) (h : HpI w g gw m v l) :
    Calls Try.prog 95 #[.pointer (some ⟨g, 0, none⟩)] w fun e w' => ∃ A c, e = .returned (.slice A l.length c) ∧ Rd w' A (entCells l) ∧ Below w.heap.size w w' := by
  obtain ⟨n, L, wh, hr, hh, hn, hm, hnm⟩ := h
  have hl := hr.len
  have hx := hr.blk.cell 0
  simp only [List.getElem?_toArray] at hx
  have CS0 : ∀ p cap W, Calls Try.prog 122 #[.slice p 0 cap, .func (.func 123) #[] #[]] W fun e w' => e = .returned (.tuple #[]) ∧ w' = W := fun p cap W => AnyF.slices_SortFunc_none Try.sortE p cap (.func (.func 123) #[] #[]) W
  obtain ⟨i0, hi, hz0, hz1, hz2⟩ := info_parts Try.infoEntry
  have CC : ∀ b off n c news W, news.length = n * 2 → n ≤ 1024 → (∀ j u, news[j]? = some u → W.cell? ⟨b, off + j, none⟩ = some u) → (∀ u ∈ news, u.oneCell' = true) → Calls Try.prog 121 #[.slice (some ⟨b, off, none⟩) n c] W fun e w' => ∃ v', e = .returned v' ∧ w'.ownsRow W.heap.size 114 2 v' n news ∧ v' ≠ .slice none 0 0 ∧ Below W.heap.size W w' := fun b off n c news W h1 h2 h3 h4 =>
    AnyE.slices_Clone Try.cloneE i0 _ 2 16 hi hz0 hz1 hz2 rfl (by decide) Try.sizeEntry b off n c news W h1 (by unfold maxLen; omega) (by omega) h3 h4
  have CCN : ∀ n c W, Calls Try.prog 121 #[.slice none n c] W fun e w' => e = .returned (.slice none 0 0) ∧ w' = W := fun n c W => AnyE.slices_Clone_nil Try.cloneE n c W
  have HH := hid hh
  have HRR := hid hr
  rw [← hn]
  have hv : (v = .slice none 0 0 ∧ n = 0) ∨ ∃ ge c, v = .slice (some ⟨ge, 0, none⟩) n c := by
    rcases hr.row.2 with ⟨hv, h0⟩ | ⟨ge, cap, cur, hv, _⟩
    · exact .inl ⟨hv, h0⟩
    · exact .inr ⟨ge, cap, hv⟩
  rcases hv with ⟨rfl, rfl⟩ | ⟨ge, c, rfl⟩
  · have CC0 := hid (CCN 0 0)
    have CS := hid CS0
    clear CC CCN CS0 hi hz0 hz1 hz2 hr hh hl hn
    go_enter Try.func95, Try.ntmps95
    go_wp2_with fail
    refine (CC0.out _).mono ?_
    rintro e w1 ⟨rfl, rfl⟩
    go_wp2_with fail
    refine (CS.out _ _ _).mono ?_
    rintro e w1 ⟨rfl, rfl⟩
    go_wp2_with fail
    go_ret
    exact ⟨none, 0, rfl, by
      have : l = [] := List.eq_nil_of_length_eq_zero (by have := HH.out.len; have := HRR.out.len; omega)
      rw [this]; exact .inl rfl, Below.refl _ _⟩
  · have hc1 : ∀ j u, (entCells L)[j]? = some u → w.cell? ⟨ge, 0 + j, none⟩ = some u := fun j u hu => by
      rw [Nat.zero_add, hr.row.cellAt j (by have := (List.getElem?_eq_some_iff.1 hu).1; rw [entCells_length] at this; omega)]
      exact hu
    have CC1 := hid (CC ge 0 n c (entCells L) w (by rw [entCells_length, hl]) (by omega) hc1 (by
      intro u hu
      unfold entCells at hu
      obtain ⟨x, _, hx⟩ := List.mem_flatMap.1 hu
      simp [Ent.cells] at hx
      rcases hx with rfl | rfl <;> rfl))
    have CS := hid CS0
    have HL := hid hl
    clear CC CCN CS0 hi hz0 hz1 hz2 hr hh hl hn hc1
    go_enter Try.func95, Try.ntmps95
    go_wp2_with fail
    refine CC1.out.mono ?_
    rintro e w1 ⟨v', rfl, hown, hne, hb⟩
    have hv2 : ∃ g2 c2, v' = .slice (some ⟨g2, 0, none⟩) n c2 ∧ w.heap.size ≤ g2 ∧ g2 < w1.heap.size := by
      rcases hown.2 with ⟨hv, h0⟩ | ⟨g2, cap, cur, hv, hg, _⟩
      · exact absurd hv hne
      · subst hv; exact ⟨g2, cap, rfl, hg, (hown.lt g2 rfl).2⟩
    obtain ⟨g2, c2, rfl, hg2, hg3⟩ := hv2
    have hK := rd_holds hown
    have eg : ∀ args w, (callFunc 123 args).run Try.prog w = .ok (.enter 123 args) w := enters_of Try.func123 (by kernel_rfl) rfl
    have hcmp : CmpLays Try.prog 123 #[] Ent.cells 2 cmpE g2 0 L.toArray.size w1 := fun m os dk _ x y => orderG_any x y _
    have hcon := AnyQ.slices_SortFunc_total Try.sortE 2 Try.aggEntry Try.sizeEntry Ent.cells (fun _ => rfl) (fun x v hv => by simp [Ent.cells] at hv; rcases hv with rfl | rfl <;> rfl) cmpE swoE 123 #[] g2 0 c2 L.toArray w1 eg hcmp hK hg3 (by have := HL.out; simp; omega) (fun x y h1 h2 => by
      rw [ltOf_cmpE] at h1 h2
      simp only [decide_eq_false_iff_not] at h1 h2
      unfold Ent.lt at h1 h2
      exact Ent.eq_of (by omega) (by omega))
    have hms : (L.toArray.toList.mergeSort fun x y => !(ltOf cmpE) y x) = l := mergeE HH.out.perm HH.out.sorted
    rw [hms] at hcon
    have hsz : L.toArray.size = n := by rw [List.size_toArray]; exact HL.out
    rw [hsz] at hcon
    change Calls Try.prog 122 _ _ _ at hcon
    have HCON := hid hcon
    have HK := hid hK
    have HB := hid hb
    clear hcmp eg hcon hown hne hb hK hms hsz CS CC1
    go_wp2_with fail
    refine HCON.out.mono ?_
    rintro e w2 ⟨rfl, nd, os, hw⟩
    have HW := hid hw
    clear hw HCON
    go_wp2_with fail
    go_ret
    refine ⟨some ⟨g2, 0, none⟩, c2, rfl, ?_, ?_⟩
    · rw [HW.out]
      have hll : l.length = L.length := HH.out.len.symm
      refine holds_rd ?_ (by unfold sortWorldK putRowK; simp; omega)
      exact holdsK_grow Ent.cells 2 _ _ _ _ _ (by unfold putRowK; simpa using hg3) (holdsK_putRowK Ent.cells 2 (Sort.ahead w1 nd) g2 0 L.toArray l.toArray (holdsK_ahead Ent.cells 2 _ _ _ _ _ HK.out) (by simpa using hll))
    · rw [HW.out]
      exact HB.out.trans (sort_below hg2 HB.out.size)
end Go.Proofs.Ytdbiodofofnpgaa
namespace Go.Proofs.Ytdbiodofofnpgaa
open Go.RowKit

set_option maxRecDepth 20000 in
set_option maxHeartbeats 400000 in
theorem hNewLow_any (x : Int) (hx : x < 1) (hx0 : -9223372036854775808 ≤ x) (w : World) :
    Calls Try.prog 53 #[.int .i64 x] w fun e w' => ∃ g gw, e = .returned (.pointer (some ⟨g, 0, none⟩)) ∧ HpI w' g gw 1 (.slice none 0 0) [] ∧ Below w.heap.size w w' ∧ w.heap.size ≤ g ∧ w.heap.size ≤ gw := by
  go_enter Try.func53, Try.ntmps53
  go_wp2_with (at_make; refine wpList_make1 _ rfl _ _ 84 rfl w.heap.size 3 _ 8 Try.underlying84 Try.infoInt rfl .i64 .i64 _ _ 1 rfl rfl (by omega) (by omega) (by omega) (by omega) (Nat.le_refl _) ?_)
  intro w1 hown1 hg1
  have hsz1 := hg1.size
  have hwl := hown1.lt w.heap.size rfl
  have HB1 := hid ((Below.refl w.heap.size w).grown hg1 (Nat.le_refl _) (by simp))
  have HR1 : Hid (HpR (w1.alloc (.cells #[.slice none 0 0, .slice (some ⟨w.heap.size, 0, none⟩) 1 1] 167)) w1.heap.size w.heap.size 1 (.slice none 0 0) 0 [] (List.replicate 0 (-1) ++ List.replicate (1 - 0) 0)) := by
    refine ⟨Blk.new w1 _ _, World.ownsRow_nil _ _ _ _, ?_⟩
    have := (own_base hown1 (Nat.zero_le _)).alloc (.cells #[.slice none 0 0, .slice (some ⟨w.heap.size, 0, none⟩) 1 1] 167)
    simpa [intCells] using this
  have HB2 : Hid (Below w.heap.size w (w1.alloc (.cells #[.slice none 0 0, .slice (some ⟨w.heap.size, 0, none⟩) 1 1] 167))) := HB1.out.alloc hsz1 _
  clear hown1 hg1
  go_wp2_with fail
  go_loopw [16] (fun i wr => ∃ (k : Nat), k ≤ 1 ∧ i = .int .i64 k ∧ HpR wr w1.heap.size w.heap.size 1 (.slice none 0 0) 0 [] (List.replicate k (-1) ++ List.replicate (1 - k) 0) ∧ Below w.heap.size w wr) (fun i _ => 1 - (intOf i).toNat)
  case atStart => exact ⟨0, by omega, rfl, HR1.out, HB2.out⟩
  case round =>
    obtain ⟨k, hk, rfl, hr, hb⟩ := hrel
    have HB := hid hb
    obtain ⟨f0, f1, f2⟩ := hr.fields
    have hlt0 := hr.blk.lt
    by_cases hlt : k < 1
    · have HS := hid (hr.setWh k (-1))
      have HE : Hid ((List.replicate k (-1) ++ List.replicate (1 - k) 0 : List Int).set k (-1) = List.replicate (k + 1) (-1) ++ List.replicate (1 - (k + 1)) 0) := by
        rw [Hid, List.set_append_right _ _ (by simp), List.length_replicate, Nat.sub_self, show 1 - k = (1 - (k + 1)) + 1 from by omega, List.replicate_succ, List.set_cons_zero, List.replicate_succ']
        simp
      obtain ⟨q1, q2⟩ := hr.cell_wh hlt
      clear hr hb HR1 HB2
      go_wp2_with fail
      go_roundw
      case rel => exact ⟨k + 1, by omega, by go_num, by rw [← HE.out]; exact HS.out, HB.out.setCell (Nat.le_refl _) _⟩
      case measure => simp [intOf]; omega
    · have hkm : k = 1 := by omega
      subst hkm
      rw [Nat.sub_self, List.replicate_zero, List.append_nil] at hr
      have HI : Hid (HpI wr w1.heap.size w.heap.size 1 (.slice none 0 0) []) := ⟨0, [], _, hr, heapIs_new _, rfl, by omega, by omega⟩
      clear hr HR1 HB2 hb
      go_wp2_with fail
      go_ret
      exact ⟨_, _, rfl, HI.out, HB.out, by omega, Nat.le_refl _⟩

set_option maxRecDepth 20000 in
set_option maxHeartbeats 400000 in
theorem hNewHigh_any (x : Int) (hx : 1024 < x) (hx0 : x ≤ 9223372036854775807) (w : World) :
    Calls Try.prog 53 #[.int .i64 x] w fun e w' => ∃ g gw, e = .returned (.pointer (some ⟨g, 0, none⟩)) ∧ HpI w' g gw 1024 (.slice none 0 0) [] ∧ Below w.heap.size w w' ∧ w.heap.size ≤ g ∧ w.heap.size ≤ gw := by
  go_enter Try.func53, Try.ntmps53
  go_wp2_with (at_make; refine wpList_make1 _ rfl _ _ 84 rfl w.heap.size 3 _ 8 Try.underlying84 Try.infoInt rfl .i64 .i64 _ _ 1024 rfl rfl (by omega) (by omega) (by omega) (by omega) (Nat.le_refl _) ?_)
  intro w1 hown1 hg1
  have hsz1 := hg1.size
  have hwl := hown1.lt w.heap.size rfl
  have HB1 := hid ((Below.refl w.heap.size w).grown hg1 (Nat.le_refl _) (by simp))
  have HR1 : Hid (HpR (w1.alloc (.cells #[.slice none 0 0, .slice (some ⟨w.heap.size, 0, none⟩) 1024 1024] 167)) w1.heap.size w.heap.size 1024 (.slice none 0 0) 0 [] (List.replicate 0 (-1) ++ List.replicate (1024 - 0) 0)) := by
    refine ⟨Blk.new w1 _ _, World.ownsRow_nil _ _ _ _, ?_⟩
    have := (own_base hown1 (Nat.zero_le _)).alloc (.cells #[.slice none 0 0, .slice (some ⟨w.heap.size, 0, none⟩) 1024 1024] 167)
    simpa [intCells] using this
  have HB2 : Hid (Below w.heap.size w (w1.alloc (.cells #[.slice none 0 0, .slice (some ⟨w.heap.size, 0, none⟩) 1024 1024] 167))) := HB1.out.alloc hsz1 _
  clear hown1 hg1
  go_wp2_with fail
  go_loopw [16] (fun i wr => ∃ (k : Nat), k ≤ 1024 ∧ i = .int .i64 k ∧ HpR wr w1.heap.size w.heap.size 1024 (.slice none 0 0) 0 [] (List.replicate k (-1) ++ List.replicate (1024 - k) 0) ∧ Below w.heap.size w wr) (fun i _ => 1024 - (intOf i).toNat)
  case atStart => exact ⟨0, by omega, rfl, HR1.out, HB2.out⟩
  case round =>
    obtain ⟨k, hk, rfl, hr, hb⟩ := hrel
    have HB := hid hb
    obtain ⟨f0, f1, f2⟩ := hr.fields
    have hlt0 := hr.blk.lt
    by_cases hlt : k < 1024
    · have HS := hid (hr.setWh k (-1))
      have HE : Hid ((List.replicate k (-1) ++ List.replicate (1024 - k) 0 : List Int).set k (-1) = List.replicate (k + 1) (-1) ++ List.replicate (1024 - (k + 1)) 0) := by
        rw [Hid, List.set_append_right _ _ (by simp), List.length_replicate, Nat.sub_self, show 1024 - k = (1024 - (k + 1)) + 1 from by omega, List.replicate_succ, List.set_cons_zero, List.replicate_succ']
        simp
      obtain ⟨q1, q2⟩ := hr.cell_wh hlt
      clear hr hb HR1 HB2
      go_wp2_with fail
      go_roundw
      case rel => exact ⟨k + 1, by omega, by go_num, by rw [← HE.out]; exact HS.out, HB.out.setCell (Nat.le_refl _) _⟩
      case measure => simp [intOf]; omega
    · have hkm : k = 1024 := by omega
      subst hkm
      rw [Nat.sub_self, List.replicate_zero, List.append_nil] at hr
      have HI : Hid (HpI wr w1.heap.size w.heap.size 1024 (.slice none 0 0) []) := ⟨0, [], _, hr, heapIs_new _, rfl, by omega, by omega⟩
      clear hr HR1 HB2 hb
      go_wp2_with fail
      go_ret
      exact ⟨_, _, rfl, HI.out, HB.out, by omega, Nat.le_refl _⟩

def clampH (x : Int) : Nat := if x < 1 then 1 else if 1024 < x then 1024 else x.toNat
theorem clampH_le (x : Int) : 1 ≤ clampH x ∧ clampH x ≤ 1024 := by
  unfold clampH
  split
  · omega
  · split <;> omega
theorem hNewZ_any (x : Int) (h1 : -9223372036854775808 ≤ x) (h2 : x ≤ 9223372036854775807) (w : World) :
    Calls Try.prog 53 #[.int .i64 x] w fun e w' => ∃ g gw, e = .returned (.pointer (some ⟨g, 0, none⟩)) ∧ HpI w' g gw (clampH x) (.slice none 0 0) [] ∧ Below w.heap.size w w' ∧ w.heap.size ≤ g ∧ w.heap.size ≤ gw := by
  by_cases c1 : x < 1
  · rw [show clampH x = 1 from if_pos c1]; exact hNewLow_any x c1 h1 w
  · by_cases c2 : 1024 < x
    · rw [show clampH x = 1024 from by rw [clampH, if_neg c1, if_pos c2]]; exact hNewHigh_any x c2 h2 w
    · obtain ⟨m, rfl⟩ : ∃ m : Nat, x = (m : Int) := ⟨x.toNat, by omega⟩
      rw [show clampH (m : Int) = m from by rw [clampH, if_neg c1, if_neg c2, Int.toNat_natCast]]
      exact hNew_any m (by omega) (by omega) w
theorem withinH_any (x : Int) (w : World) : Calls Try.prog 42 #[.int .i64 x, .int .i64 1, .int .i64 1024] w fun e w' => e = .returned (.int .i64 ((clampH x : Nat) : Int)) ∧ w = w' := by
  by_cases c1 : x < 1
  · rw [show clampH x = 1 from if_pos c1]
    go_enter Try.func42, Try.ntmps42
    go_wp2
    go_ret
    exact ⟨rfl, rfl⟩
  · by_cases c2 : 1024 < x
    · rw [show clampH x = 1024 from by rw [clampH, if_neg c1, if_pos c2]]
      go_enter Try.func42, Try.ntmps42
      go_wp2
      go_ret
      exact ⟨rfl, rfl⟩
    · have e : ((clampH x : Nat) : Int) = x := by rw [clampH, if_neg c1, if_neg c2]; omega
      rw [e]
      go_enter Try.func42, Try.ntmps42
      go_wp2
      go_ret
      exact ⟨rfl, rfl⟩

/-- Whether there is an entry of a number. -/
def hasZ (l : List Ent) (id : Int) : Bool := l.any fun e => (e.id : Int) == id
theorem hasZ_nat (l : List Ent) (k : Nat) : hasZ l (k : Int) = hasE l k := by
  unfold hasZ hasE; congr 1; funext e
  rw [Bool.eq_iff_iff]; simp; omega
theorem cutZ_not {l : List Ent} {id : Int} (h : hasZ l id = false) : cutZ l id = l := by
  unfold cutZ
  rw [List.filter_eq_self]
  intro e he
  unfold hasZ at h
  rw [List.any_eq_false] at h
  have := h e he
  simpa using this
theorem HpI.ids {w : World} {g gw m : Nat} {v : Value} {l : List Ent} (h : HpI w g gw m v l) : ∀ e ∈ l, e.id < m := by
  obtain ⟨n, L, wh, hr, hh, hn, hm, hnm⟩ := h
  intro e he
  obtain ⟨j, hj, hje⟩ := mem_eg (hh.perm.symm.subset he)
  rw [← hje]; exact hh.where_.ids j hj
theorem HpI.bds {w : World} {g gw m : Nat} {v : Value} {l : List Ent} (h : HpI w g gw m v l) : l.length ≤ m ∧ m ≤ 1024 := by
  obtain ⟨n, L, wh, hr, hh, hn, hm, hnm⟩ := h
  exact ⟨by omega, hm⟩
theorem HpI.sorted {w : World} {g gw m : Nat} {v : Value} {l : List Ent} (h : HpI w g gw m v l) : SortedE l := by
  obtain ⟨n, L, wh, hr, hh, hn, hm, hnm⟩ := h
  exact hh.sorted

set_option maxRecDepth 20000 in
set_option maxHeartbeats 400000 in
theorem hCut_no (g gw m : Nat) (v : Value) (l : List Ent) (id : Int) (w : World) (h : HpI w g gw m v l) (hno : id < 0 ∨ (m : Int) ≤ id ∨ hasE l id.toNat = false) :
    Calls Try.prog 58 #[.pointer (some ⟨g, 0, none⟩), .int .i64 id] w fun en w' => en = .returned (.bool false) ∧ Below w.heap.size w w' := by
  obtain ⟨n, L, wh, hr, hh, hn, hm, hnm⟩ := h
  have HM := hid (may_any g gw m n _ L wh id w hr)
  by_cases hb : 0 ≤ id ∧ id < (m : Int)
  · obtain ⟨k, rfl⟩ : ∃ k : Nat, id = (k : Int) := ⟨id.toNat, by omega⟩
    have hno : hasE l k = false := by
      rcases hno with h | h | h
      · omega
      · omega
      · simpa using h
    have hkm : k < m := by omega
    have hmay : (decide (0 ≤ (k : Int)) && decide ((k : Int) < (m : Int))) = true := by simp <;> omega
    rw [hmay] at HM
    obtain ⟨q1, -⟩ := hr.cell_wh hkm
    rw [hh.wg_no hkm hno] at q1
    obtain ⟨f0, f1, -⟩ := hr.fields
    clear hr hh hn hmay hno hb
    go_enter Try.func58, Try.ntmps58
    go_wp2_with (go_at_call 99; refine HM.out.mono ?_; rintro en w2 ⟨rfl, rfl⟩)
    go_ret
    exact ⟨rfl, Below.refl _ _⟩
  · have hmay : (decide (0 ≤ id) && decide (id < (m : Int))) = false := by
      rw [Bool.and_eq_false_iff, decide_eq_false_iff_not, decide_eq_false_iff_not]; omega
    rw [hmay] at HM
    clear hr hh hn hmay hno hb
    go_enter Try.func58, Try.ntmps58
    go_wp2_with (go_at_call 99; refine HM.out.mono ?_; rintro en w2 ⟨rfl, rfl⟩)
    go_ret
    exact ⟨rfl, Below.refl _ _⟩

set_option maxRecDepth 20000 in
set_option maxHeartbeats 400000 in
theorem hCut_yes (g gw m : Nat) (v : Value) (l : List Ent) (k : Nat) (w : World) (h : HpI w g gw m v l) (hy : hasE l k = true) :
    Calls Try.prog 58 #[.pointer (some ⟨g, 0, none⟩), .int .i64 (k : Int)] w fun en w' => en = .returned (.bool true) ∧ HpPost g gw m v (cutE l k) w w' := by
  obtain ⟨n, L, wh, hr, hh, hn, hm, hnm⟩ := h
  obtain ⟨i, hi, hid', hwg⟩ := hh.wg_yes hy
  have hl := hr.len
  have hem : k < m := by rw [← hid']; exact hh.where_.ids i hi
  obtain ⟨q1, -⟩ := hr.cell_wh hem
  obtain ⟨f0, f1, -⟩ := hr.fields
  rw [hwg] at q1
  have hin : i < n := by omega
  have HM := hid (may_any g gw m n _ L wh (k : Int) w hr)
  have CC := hid (cutH_any g gw m n i v L wh l w hr hh hm hin)
  rw [hid'] at CC
  have hmay : (decide (0 ≤ (k : Int)) && decide ((k : Int) < (m : Int))) = true := by simp [hem]
  rw [hmay] at HM
  have hne : ((i : Int) == -1) = false := by simp <;> omega
  obtain ⟨Q, hQ⟩ : ∃ Q : World → Prop, (fun w' => HpPost g gw m v (cutE l k) w w') = Q := ⟨_, rfl⟩
  have hQ2 : (fun en w' => en = Ending.returned (.bool true) ∧ HpPost g gw m v (cutE l k) w w') = (fun en w' => en = Ending.returned (.bool true) ∧ Q w') := by rw [← hQ]
  rw [hQ2]
  have CC2 : Hid (Calls Try.prog 101 #[.pointer (some ⟨g, 0, none⟩), .int .i64 (i : Int)] w fun en w' => en = .returned (.tuple #[]) ∧ Q w') := by rw [← hQ]; exact CC.out
  clear hr hh hn hl hi hid' hwg hmay CC hQ hQ2
  go_enter Try.func58, Try.ntmps58
  go_wp2_with (go_at_call 99; refine HM.out.mono ?_; rintro en w2 ⟨rfl, rfl⟩)
  refine CC2.out.mono ?_
  rintro en w2 ⟨rfl, hq⟩
  have HQ := hid hq
  clear hq
  go_wp2_with fail
  go_ret
  exact ⟨rfl, HQ.out⟩
theorem hCut_any (g gw m : Nat) (v : Value) (l : List Ent) (id : Int) (w : World) (h : HpI w g gw m v l) :
    Calls Try.prog 58 #[.pointer (some ⟨g, 0, none⟩), .int .i64 id] w fun en w' => en = .returned (.bool (hasZ l id)) ∧ HpPost g gw m v (cutZ l id) w w' := by
  cases hz : hasZ l id with
  | false =>
    rw [cutZ_not hz]
    refine (hCut_no g gw m v l id w h ?_).mono ?_
    · by_cases h0 : id < 0
      · exact .inl h0
      · obtain ⟨k, rfl⟩ : ∃ k : Nat, id = (k : Int) := ⟨id.toNat, by omega⟩
        rw [hasZ_nat] at hz
        exact .inr (.inr (by rw [Int.toNat_natCast]; exact hz))
    · rintro e w1 ⟨rfl, hb⟩
      exact ⟨rfl, h.post hb⟩
  | true =>
    obtain ⟨k, rfl⟩ : ∃ k : Nat, id = (k : Int) := by
      unfold hasZ at hz
      rw [List.any_eq_true] at hz
      obtain ⟨e, _, he⟩ := hz
      exact ⟨e.id, by simpa using (beq_iff_eq.1 he).symm⟩
    rw [hasZ_nat] at hz
    rw [cutZ_nat]
    exact hCut_yes g gw m v l k w h hz

/-- The place of a number's entry. -/
def findZ (l : List Ent) (id : Int) : Option Nat := match l with
  | [] => none
  | e :: r => if (e.id : Int) = id then some 0 else (findZ r id).map (· + 1)
def findV (o : Option Nat) (k : Nat) : Int := match o with
  | some j => ((k + j : Nat) : Int)
  | none => -1
theorem findZ_drop (l : List Ent) (id : Int) (k : Nat) (h : k < l.length) : findV (findZ (l.drop k) id) k = if ((eg l k).id : Int) = id then (k : Int) else findV (findZ (l.drop (k + 1)) id) (k + 1) := by
  rw [List.drop_eq_getElem_cons h, eg_of h]
  by_cases hx : ((l[k]).id : Int) = id
  · rw [if_pos hx, findZ, if_pos hx]; rfl
  · rw [if_neg hx, findZ, if_neg hx]
    cases findZ (l.drop (k + 1)) id with
    | none => rfl
    | some j => show ((k + (j + 1) : Nat) : Int) = ((k + 1 + j : Nat) : Int); congr 1; omega
theorem findZ_some {l : List Ent} {id : Int} {k : Nat} (h : findZ l id = some k) : k < l.length ∧ ((eg l k).id : Int) = id := by
  induction l generalizing k with
  | nil => simp [findZ] at h
  | cons e r ih =>
    unfold findZ at h
    by_cases hx : (e.id : Int) = id
    · rw [if_pos hx] at h; cases h; exact ⟨by simp, by simpa [eg] using hx⟩
    · rw [if_neg hx] at h
      cases hf : findZ r id with
      | none => rw [hf] at h; simp at h
      | some j =>
        rw [hf] at h; simp at h; subst h
        obtain ⟨h1, h2⟩ := ih hf
        exact ⟨by simpa using h1, by simpa [eg] using h2⟩
theorem findZ_has (l : List Ent) (id : Int) : hasZ l id = (findZ l id).isSome := by
  induction l with
  | nil => rfl
  | cons e r ih =>
    unfold hasZ at ih ⊢
    rw [List.any_cons, ih, findZ]
    by_cases hx : (e.id : Int) = id
    · rw [if_pos hx, show ((e.id : Int) == id) = true from by rw [beq_iff_eq]; exact hx]; rfl
    · rw [if_neg hx, show ((e.id : Int) == id) = false from by rw [beq_eq_false_iff_ne]; exact hx, Bool.false_or, Option.isSome_map]
theorem ent_row {w : World} {A : Option Addr} {l : List Ent} {n k : Nat} (hr : Rd w A (entCells l)) (hl : l.length = n) (hk : k < n) : ∃ b off, A = some ⟨b, off, none⟩ ∧ b < w.heap.size ∧ w.cell? ⟨b, off + k * 2, none⟩ = some (.int .i64 (eg l k).t) ∧ w.cell? ⟨b, off + k * 2 + 1, none⟩ = some (.int .i64 ((eg l k).id : Int)) := by
  obtain ⟨b, off, rfl, hb, hc⟩ := hr.at (by rw [entCells_length]; omega)
  obtain ⟨h1, h2⟩ := rd_ent hc k (by omega)
  exact ⟨b, off, rfl, hb, h1, h2⟩

set_option maxRecDepth 20000 in
set_option maxHeartbeats 400000 in
theorem findR_any (A : Option Addr) (n c : Nat) (l : List Ent) (id : Int) (w : World) (hl : l.length = n) (hn : n ≤ 100000) (hr : Rd w A (entCells l)) :
    Calls Try.prog 59 #[.slice A n c, .int .i64 id] w fun e w' => e = .returned (.int .i64 (findV (findZ l id) 0)) ∧ w = w' := by
  have HL := hid hl; have HR := hid hr
  clear hl hr
  go_enter Try.func59, Try.ntmps59
  go_wp2_with fail
  go_loop [5] (fun iv => ∃ k : Nat, k ≤ n ∧ iv = .int .i64 (k : Int) ∧ Hid (findV (findZ l id) 0 = findV (findZ (l.drop k) id) k)) (fun iv => n - (intOf iv).toNat)
  case atStart => exact ⟨0, Nat.zero_le _, rfl, rfl⟩
  case round =>
    obtain ⟨k, hk, rfl, HI⟩ := hrel
    by_cases hlt : k < n
    · obtain ⟨b, off, rfl, hbl, d0, d1⟩ := ent_row HR.out HL.out hlt
      have hd := findZ_drop l id k (by rw [HL.out]; exact hlt)
      obtain ⟨x, hx⟩ : ∃ y, eg l k = y := ⟨_, rfl⟩
      rw [hx] at d1 hd
      clear hx d0
      by_cases hc : (x.id : Int) = id
      · rw [if_pos hc] at hd
        have HD := hid hd
        rw [hc] at d1
        clear hd hc
        go_wp2_with fail
        go_ret
        exact ⟨by rw [HI.out, HD.out]; rfl, rfl⟩
      · rw [if_neg hc] at hd
        have HD := hid hd
        have hc2 : ((x.id : Int) == id) = false := by rw [beq_eq_false_iff_ne]; exact hc
        clear hd hc
        go_wp2_with fail
        go_round
        case rel => exact ⟨k + 1, by omega, by go_num, HI.out.trans HD.out⟩
        case measure => simp [intOf]; omega
    · have hkn : k = n := by omega
      have HE : Hid (findV (findZ l id) 0 = -1) := by
        rw [Hid, HI.out, hkn, ← HL.out, List.drop_length]; rfl
      clear hkn
      go_wp2_with fail
      go_ret
      exact ⟨by rw [HE.out]; rfl, rfl⟩

/-- How many entries are due. -/
theorem dues_at (l : List Ent) (now : Int) (k : Nat) (h1 : ∀ j, j < k → dueT (eg l j).t now = true) (hk : k ≤ l.length) (h2 : k < l.length → dueT (eg l k).t now = false) : duesE now l = l.take k ∧ restE now l = l.drop k := by
  have := dues_split (now := now) (done := l.take k) (rest := l.drop k) (fun e he => by
    obtain ⟨j, hj, rfl⟩ := List.mem_iff_getElem.1 he
    rw [List.length_take] at hj
    rw [List.getElem_take, ← eg_of (by omega)]
    exact h1 j (by omega)) (fun x r hx => by
    have hkl : k < l.length := by
      rcases Nat.lt_or_ge k l.length with h | h
      · exact h
      · rw [List.drop_eq_nil_of_le h] at hx; cases hx
    rw [List.drop_eq_getElem_cons hkl] at hx
    injection hx with hx _
    rw [← hx, ← eg_of hkl]; exact h2 hkl)
  rwa [List.take_append_drop] at this
set_option maxRecDepth 20000 in
set_option maxHeartbeats 400000 in
theorem dueNR_any (A : Option Addr) (n c : Nat) (l : List Ent) (now : Int) (w : World) (hl : l.length = n) (hn : n ≤ 100000) (hr : Rd w A (entCells l)) :
    Calls Try.prog 62 #[.slice A n c, .int .i64 now] w fun e w' => ∃ q : Nat, e = .returned (.int .i64 (q : Int)) ∧ q ≤ n ∧ duesE now l = l.take q ∧ restE now l = l.drop q ∧ w = w' := by
  have HL := hid hl; have HR := hid hr
  obtain ⟨Q, hQ⟩ : ∃ Q : Ending → World → Prop, (fun e w' => ∃ q : Nat, e = Ending.returned (.int .i64 (q : Int)) ∧ q ≤ n ∧ duesE now l = l.take q ∧ restE now l = l.drop q ∧ w = w') = Q := ⟨_, rfl⟩
  have HQ : Hid (∀ q : Nat, q ≤ n → (∀ j, j < q → dueT (eg l j).t now = true) → (q < n → dueT (eg l q).t now = false) → Q (.returned (.int .i64 (q : Int))) w) := fun q h1 h2 h3 => by
    rw [← hQ]
    have := dues_at l now q h2 (by omega) (fun h => h3 (by omega))
    exact ⟨q, rfl, h1, this.1, this.2, rfl⟩
  rw [hQ]
  clear hl hr hQ
  go_enter Try.func62, Try.ntmps62
  go_wp2_with fail
  go_loop [5] (fun iv => ∃ k : Nat, k ≤ n ∧ iv = .int .i64 (k : Int) ∧ Hid (∀ j, j < k → dueT (eg l j).t now = true)) (fun iv => n - (intOf iv).toNat)
  case atStart => exact ⟨0, Nat.zero_le _, rfl, fun j hj => absurd hj (by omega)⟩
  case round =>
    obtain ⟨k, hk, rfl, HI⟩ := hrel
    by_cases hlt : k < n
    · obtain ⟨b, off, rfl, hbl, d0, d1⟩ := ent_row HR.out HL.out hlt
      have CD := hid (fun W => dueR_any (eg l k).t now W)
      cases hd : dueT (eg l k).t now with
      | true =>
        have HD := hid hd
        rw [hd] at CD
        obtain ⟨t, ht⟩ : ∃ y, (eg l k).t = y := ⟨_, rfl⟩
        rw [ht] at CD d0
        clear hd ht d1
        go_wp2_with fail
        refine (CD.out _).mono ?_
        rintro en w1 ⟨rfl, rfl⟩
        go_wp2_with fail
        go_round
        case rel => exact ⟨k + 1, by omega, by go_num, fun j hj => by
          rcases Nat.lt_or_ge j k with h | h
          · exact HI.out j h
          · have : j = k := by omega
            subst this; exact HD.out⟩
        case measure => simp [intOf]; omega
      | false =>
        have HD := hid hd
        rw [hd] at CD
        obtain ⟨t, ht⟩ : ∃ y, (eg l k).t = y := ⟨_, rfl⟩
        rw [ht] at CD d0
        clear hd ht d1
        go_wp2_with fail
        refine (CD.out _).mono ?_
        rintro en w1 ⟨rfl, rfl⟩
        go_wp2_with fail
        try go_ret
        exact HQ.out k hk HI.out (fun _ => HD.out)
    · go_wp2_with fail
      try go_ret
      exact HQ.out k hk HI.out (fun h => absurd h hlt)
end Go.Proofs.Ytdbiodofofnpgaa
namespace Go.Proofs.Ytdbiodofofnpgaa
open Go.RowKit

def atV (l : List Ent) (z : Int) : Int := match findZ l z with
  | some k => (eg l k).t
  | none => 0
theorem atH_any (g gw m : Nat) (v : Value) (l : List Ent) (z : Int) (w : World) (h : HpI w g gw m v l) :
    Calls Try.prog 94 #[.pointer (some ⟨g, 0, none⟩), .int .i64 z] w fun en w' => en = .returned (.tuple #[.int .i64 (atV l z), .bool (findZ l z).isSome]) ∧ Below w.heap.size w w' := by
  unfold atV
  cases hf : findZ l z with
  | none =>
    refine at_no g gw m v l z w h ?_
    by_cases h0 : z < 0
    · exact .inl h0
    · obtain ⟨k, rfl⟩ : ∃ k : Nat, z = (k : Int) := ⟨z.toNat, by omega⟩
      have hz := findZ_has l (k : Int)
      rw [hf, hasZ_nat] at hz
      exact .inr (.inr (by rw [Int.toNat_natCast]; exact hz))
  | some k =>
    obtain ⟨h1, h2⟩ := findZ_some hf
    have := at_yes g gw m v l (eg l k) w h (eg_mem h1)
    rw [h2] at this
    exact this
theorem alloc_stepE (w : World) (t : TypeId) (cs : Array Value) : ∃ w' g, w.alloc (.cells cs t) = w' ∧ w.heap.size = g ∧ Below w.heap.size w w' ∧ Blk w' g t cs ∧ w.heap.size ≤ g ∧ g < w'.heap.size :=
  ⟨_, _, rfl, rfl, (Below.refl _ _).alloc (Nat.le_refl _) _, Blk.new w t cs, Nat.le_refl _, (Blk.new w t cs).lt⟩
theorem factE {w : World} {g : Nat} {t : TypeId} {a b : Value} (h : Blk w g t #[a, b]) : w.cell? ⟨g, 0, none⟩ = some a ∧ w.cell? ⟨g, 1, none⟩ = some b := ⟨h.cell 0, h.cell 1⟩
theorem Try.eqEntT (t k : Int) (W : World) : (Op.equalIn 10000 114 (.agg #[.int .i64 t, .int .i64 k]) (.agg #[.int .i64 t, .int .i64 k])).run Try.prog W = .ok true W := by
  have u3 := Try.underlying3
  have a3 := Try.isAgg3
  have z3 := Try.sizeOf3
  have u2 := Try.underlying2
  have a2 := Try.isAgg2
  have z2 := Try.sizeOf2
  have hS : Try.prog.underlying 114 = some (.struct (Try.prog.fieldsOf 114)) := by kernel_rfl
  have hp : Try.prog.stoodInHeld 114 = false := by kernel_rfl
  rw [show (10000 : Nat) = 9999 + 1 from rfl, run_equalIn_agg W 9999 114 _ _ hS hp]
  simp only [Program.fieldsOf, Try.underlying114]
  go_simp
  done

set_option maxRecDepth 20000 in
set_option maxHeartbeats 4000000 in
theorem told05_any (g gw m : Nat) (v : Value) (l : List Ent) (A : Option Addr) (n c : Nat) (z : Int) (w : World) (h : HpI w g gw m v l) (hl : l.length = n) (hr : Rd w A (entCells l)) :
    Calls Try.prog 55 #[.pointer (some ⟨g, 0, none⟩), .slice A n c, .int .i64 z] w fun e w' => e = .returned (.bool true) ∧ Below w.heap.size w w' := by
  have hn : n ≤ 1024 := by have := h.bds; omega
  have HL := hid hl
  have HR := hid hr
  have C1 := hid (fun W (hW : Below w.heap.size w W) => minH_any g gw m v l W (h.below hW))
  have C2 := hid (fun W (hW : Below w.heap.size w W) => atH_any g gw m v l z W (h.below hW))
  have C3 := hid (fun W (hW : Below w.heap.size w W) => findR_any A n c l z W hl (by omega) (hr.below hW))
  have C4 := hid (fun W (hW : Below w.heap.size w W) => listH_any g gw m v l W (h.below hW))
  have C5 := hid (fun B d W (h1 : Rd W B (entCells l)) (h2 : Rd W A (entCells l)) => sameE_any B A n n d c l l W hl hl (by omega) (by omega) h1 h2)
  have C6 := hid (fun W (hW : Below w.heap.size w W) => len_any g gw m v l W (h.below hW))
  rw [show sameE l l = true from decide_eq_true rfl] at C5
  rw [hl] at C4 C6
  unfold atV at C2
  clear hl hr h
  rcases hf : findZ l z with _ | k
  all_goals rw [hf] at C2 C3
  · rw [show findV none 0 = -1 from rfl] at C3
    simp only [Option.isSome_none] at C2
    clear hf
    rcases l with _ | ⟨x, r⟩
    · have hn0 : n = 0 := by have := HL.out; simpa using this.symm
      subst hn0
      have heq := fun W => Try.eqEntT 0 0 W
      simp only [headT, headI, List.isEmpty_nil, Bool.not_true] at C1
      go_enter Try.func55, Try.ntmps55
      go_wp2_with fail
      refine (C1.out _ (Below.refl _ _)).mono ?_
      rintro en w1 ⟨rfl, hb1⟩
      have HB1 := hid hb1
      clear C1 hb1
      go_upto_region 2 with fail
      obtain ⟨w2, ge, hw2, hge, hb2, hk2, h21, h22⟩ := alloc_stepE w1 114 #[.int .i64 0, .int .i64 0]
      rw [hw2, hge]
      have HB2 : Hid (Below w.heap.size w w2) := hid (HB1.out.trans (hb2.mono HB1.out.size))
      have HKE := hid hk2
      clear hw2 hge hb2 hk2 h21 h22 HB1
      go_wp2_with fail
      refine (C2.out _ HB2.out).mono ?_
      rintro en w3 ⟨rfl, hb3⟩
      have HB3 : Hid (Below w.heap.size w w3) := hid (HB2.out.trans (hb3.mono HB2.out.size))
      have HKE3 := hid (HKE.out.below hb3 HKE.out.lt)
      clear C2 hb3 HB2 HKE
      go_wp2_with fail
      refine (C3.out _ HB3.out).mono ?_
      rintro en w4 ⟨rfl, rfl⟩
      clear C3
      obtain ⟨e0, e1⟩ := factE HKE3.out
      have hel := HKE3.out.lt
      have T0 : ∀ q : BW w3.heap.size w3, q.1.cell? ⟨ge, 0, none⟩ = some (.int .i64 0) := fun q => q.cellAt hel e0
      have T1 : ∀ q : BW w3.heap.size w3, q.1.cell? ⟨ge, 1, none⟩ = some (.int .i64 0) := fun q => q.cellAt hel e1
      clear e0 e1 hel
      go_upto_region 4 with fail
      refine wp_region_below w3.heap.size (by kernel_rfl) (by kernel_rfl) ?_
      repeat (go_big_quiet_step (fail))
      refine wpQuiet_nil ?_
      intro wu hqu
      have HBU : Hid (Below w.heap.size w wu) := by obtain ⟨q, rfl⟩ := hqu; exact HB3.out.trans (q.2.mono HB3.out.size)
      clear hqu T0 T1 HKE3 HB3 heq
      go_wp2_with fail
      refine (C4.out _ HBU.out).mono ?_
      rintro en w5 ⟨A5, c5, rfl, hr5, hb⟩
      have HB5 := hid (HBU.out.trans (hb.mono HBU.out.size))
      have HR5 := hid hr5
      clear C4 hb hr5 HBU
      go_wp2_with fail
      refine (C5.out A5 c5 _ HR5.out (HR.out.below HB5.out)).mono ?_
      rintro en w6 ⟨rfl, hb⟩
      have HB6 := hid (HB5.out.trans (hb.mono HB5.out.size))
      clear C5 hb HB5 HR5
      go_wp2_with fail
      refine (C6.out _ HB6.out).mono ?_
      rintro en w7 ⟨rfl, rfl⟩
      go_wp2_with fail
      go_ret
      exact ⟨rfl, HB6.out⟩
    · have hn0 : 0 < n := by have := HL.out; simp at this; omega
      obtain ⟨t, ht⟩ : ∃ y, x.t = y := ⟨_, rfl⟩
      obtain ⟨xi, hxi⟩ : ∃ y : Int, (x.id : Int) = y := ⟨_, rfl⟩
      have HX : Hid (∀ W, Below w.heap.size w W → ∃ b off, A = some ⟨b, off, none⟩ ∧ b < W.heap.size ∧ W.cell? ⟨b, off, none⟩ = some (.int .i64 t) ∧ W.cell? ⟨b, off + 1, none⟩ = some (.int .i64 xi)) := fun W hW => by
        have := ent_row (HR.out.below hW) HL.out hn0
        rw [show eg (x :: r) 0 = x from rfl, ht, hxi] at this
        simpa using this
      simp only [headT, headI, List.isEmpty_cons, Bool.not_false, ht, hxi] at C1
      clear ht hxi
      have heq := fun W => Try.eqEntT t xi W
      go_enter Try.func55, Try.ntmps55
      go_wp2_with fail
      refine (C1.out _ (Below.refl _ _)).mono ?_
      rintro en w1 ⟨rfl, hb1⟩
      have HB1 := hid hb1
      clear C1 hb1
      go_upto_region 2 with fail
      obtain ⟨w2, ge, hw2, hge, hb2, hk2, h21, h22⟩ := alloc_stepE w1 114 #[.int .i64 t, .int .i64 xi]
      rw [hw2, hge]
      have HB2 : Hid (Below w.heap.size w w2) := hid (HB1.out.trans (hb2.mono HB1.out.size))
      have HKE := hid hk2
      clear hw2 hge hb2 hk2 h21 h22 HB1
      go_wp2_with fail
      refine (C2.out _ HB2.out).mono ?_
      rintro en w3 ⟨rfl, hb3⟩
      have HB3 : Hid (Below w.heap.size w w3) := hid (HB2.out.trans (hb3.mono HB2.out.size))
      have HKE3 := hid (HKE.out.below hb3 HKE.out.lt)
      clear C2 hb3 HB2 HKE
      go_wp2_with fail
      refine (C3.out _ HB3.out).mono ?_
      rintro en w4 ⟨rfl, rfl⟩
      clear C3
      obtain ⟨e0, e1⟩ := factE HKE3.out
      have hel := HKE3.out.lt
      have T0 : ∀ q : BW w3.heap.size w3, q.1.cell? ⟨ge, 0, none⟩ = some (.int .i64 t) := fun q => q.cellAt hel e0
      have T1 : ∀ q : BW w3.heap.size w3, q.1.cell? ⟨ge, 1, none⟩ = some (.int .i64 xi) := fun q => q.cellAt hel e1
      clear e0 e1 hel
      obtain ⟨b, off, hA, hbl, d0, d1⟩ := HX.out _ HB3.out
      subst hA
      have T2 : ∀ q : BW w3.heap.size w3, q.1.cell? ⟨b, off, none⟩ = some (.int .i64 t) := fun q => q.cellAt hbl d0
      have T3 : ∀ q : BW w3.heap.size w3, q.1.cell? ⟨b, off + 1, none⟩ = some (.int .i64 xi) := fun q => q.cellAt hbl d1
      clear d0 d1 hbl HX
      go_upto_region 4 with fail
      refine wp_region_below w3.heap.size (by kernel_rfl) (by kernel_rfl) ?_
      repeat (go_big_quiet_step (fail))
      refine wpQuiet_nil ?_
      intro wu hqu
      have HBU : Hid (Below w.heap.size w wu) := by obtain ⟨q, rfl⟩ := hqu; exact HB3.out.trans (q.2.mono HB3.out.size)
      clear hqu T0 T1 HKE3 HB3 heq
      clear T2 T3
      go_wp2_with fail
      refine (C4.out _ HBU.out).mono ?_
      rintro en w5 ⟨A5, c5, rfl, hr5, hb⟩
      have HB5 := hid (HBU.out.trans (hb.mono HBU.out.size))
      have HR5 := hid hr5
      clear C4 hb hr5 HBU
      go_wp2_with fail
      refine (C5.out A5 c5 _ HR5.out (HR.out.below HB5.out)).mono ?_
      rintro en w6 ⟨rfl, hb⟩
      have HB6 := hid (HB5.out.trans (hb.mono HB5.out.size))
      clear C5 hb HB5 HR5
      go_wp2_with fail
      refine (C6.out _ HB6.out).mono ?_
      rintro en w7 ⟨rfl, rfl⟩
      go_wp2_with fail
      go_ret
      exact ⟨rfl, HB6.out⟩
  · obtain ⟨hkl, hkz⟩ := findZ_some hf
    have hkn : k < n := by rw [HL.out] at hkl; exact hkl
    have hk1 : (k : Int) < (n : Int) := by omega
    rw [show findV (some k) 0 = (k : Int) from by show ((0 + k : Nat) : Int) = _; rw [Nat.zero_add]] at C3
    simp only [Option.isSome_some] at C2
    obtain ⟨tk, htk⟩ : ∃ y, (eg l k).t = y := ⟨_, rfl⟩
    rw [htk] at C2
    have HK : Hid (∀ W, Below w.heap.size w W → ∃ b off, A = some ⟨b, off, none⟩ ∧ b < W.heap.size ∧ W.cell? ⟨b, off + k * 2, none⟩ = some (.int .i64 tk)) := fun W hW => by
      obtain ⟨b, off, h1, h2, h3, h4⟩ := ent_row (HR.out.below hW) HL.out hkn
      rw [htk] at h3
      exact ⟨b, off, h1, h2, h3⟩
    clear hf htk hkz
    rcases l with _ | ⟨x, r⟩
    · simp at hkl
    · have hn0 : 0 < n := by omega
      obtain ⟨t, ht⟩ : ∃ y, x.t = y := ⟨_, rfl⟩
      obtain ⟨xi, hxi⟩ : ∃ y : Int, (x.id : Int) = y := ⟨_, rfl⟩
      have HX : Hid (∀ W, Below w.heap.size w W → ∃ b off, A = some ⟨b, off, none⟩ ∧ b < W.heap.size ∧ W.cell? ⟨b, off, none⟩ = some (.int .i64 t) ∧ W.cell? ⟨b, off + 1, none⟩ = some (.int .i64 xi)) := fun W hW => by
        have := ent_row (HR.out.below hW) HL.out hn0
        rw [show eg (x :: r) 0 = x from rfl, ht, hxi] at this
        simpa using this
      simp only [headT, headI, List.isEmpty_cons, Bool.not_false, ht, hxi] at C1
      clear ht hxi hkl
      have heq := fun W => Try.eqEntT t xi W
      go_enter Try.func55, Try.ntmps55
      go_wp2_with fail
      refine (C1.out _ (Below.refl _ _)).mono ?_
      rintro en w1 ⟨rfl, hb1⟩
      have HB1 := hid hb1
      clear C1 hb1
      go_upto_region 2 with fail
      obtain ⟨w2, ge, hw2, hge, hb2, hk2, h21, h22⟩ := alloc_stepE w1 114 #[.int .i64 t, .int .i64 xi]
      rw [hw2, hge]
      have HB2 : Hid (Below w.heap.size w w2) := hid (HB1.out.trans (hb2.mono HB1.out.size))
      have HKE := hid hk2
      clear hw2 hge hb2 hk2 h21 h22 HB1
      go_wp2_with fail
      refine (C2.out _ HB2.out).mono ?_
      rintro en w3 ⟨rfl, hb3⟩
      have HB3 : Hid (Below w.heap.size w w3) := hid (HB2.out.trans (hb3.mono HB2.out.size))
      have HKE3 := hid (HKE.out.below hb3 HKE.out.lt)
      clear C2 hb3 HB2 HKE
      go_wp2_with fail
      refine (C3.out _ HB3.out).mono ?_
      rintro en w4 ⟨rfl, rfl⟩
      clear C3
      obtain ⟨e0, e1⟩ := factE HKE3.out
      have hel := HKE3.out.lt
      have T0 : ∀ q : BW w3.heap.size w3, q.1.cell? ⟨ge, 0, none⟩ = some (.int .i64 t) := fun q => q.cellAt hel e0
      have T1 : ∀ q : BW w3.heap.size w3, q.1.cell? ⟨ge, 1, none⟩ = some (.int .i64 xi) := fun q => q.cellAt hel e1
      clear e0 e1 hel
      obtain ⟨b, off, hA, hbl, d0, d1⟩ := HX.out _ HB3.out
      obtain ⟨b', off', hA', _, dk⟩ := HK.out _ HB3.out
      rw [hA] at hA'
      injection hA' with hA'
      injection hA' with hb' ho' _
      subst hb' ho'
      subst hA
      have T2 : ∀ q : BW w3.heap.size w3, q.1.cell? ⟨b, off, none⟩ = some (.int .i64 t) := fun q => q.cellAt hbl d0
      have T3 : ∀ q : BW w3.heap.size w3, q.1.cell? ⟨b, off + 1, none⟩ = some (.int .i64 xi) := fun q => q.cellAt hbl d1
      have T4 : ∀ q : BW w3.heap.size w3, q.1.cell? ⟨b, off + k * 2, none⟩ = some (.int .i64 tk) := fun q => q.cellAt hbl dk
      clear dk
      clear d0 d1 hbl HX
      go_upto_region 4 with fail
      refine wp_region_below w3.heap.size (by kernel_rfl) (by kernel_rfl) ?_
      repeat (go_big_quiet_step (fail))
      refine wpQuiet_nil ?_
      intro wu hqu
      have HBU : Hid (Below w.heap.size w wu) := by obtain ⟨q, rfl⟩ := hqu; exact HB3.out.trans (q.2.mono HB3.out.size)
      clear hqu T0 T1 HKE3 HB3 heq
      clear T2 T3
      clear T4 HK
      go_wp2_with fail
      refine (C4.out _ HBU.out).mono ?_
      rintro en w5 ⟨A5, c5, rfl, hr5, hb⟩
      have HB5 := hid (HBU.out.trans (hb.mono HBU.out.size))
      have HR5 := hid hr5
      clear C4 hb hr5 HBU
      go_wp2_with fail
      refine (C5.out A5 c5 _ HR5.out (HR.out.below HB5.out)).mono ?_
      rintro en w6 ⟨rfl, hb⟩
      have HB6 := hid (HB5.out.trans (hb.mono HB5.out.size))
      clear C5 hb HB5 HR5
      go_wp2_with fail
      refine (C6.out _ HB6.out).mono ?_
      rintro en w7 ⟨rfl, rfl⟩
      go_wp2_with fail
      go_ret
      exact ⟨rfl, HB6.out⟩
end Go.Proofs.Ytdbiodofofnpgaa
