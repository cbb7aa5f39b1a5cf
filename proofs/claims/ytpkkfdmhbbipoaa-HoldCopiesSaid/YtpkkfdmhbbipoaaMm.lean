/- The arguments of a law, opened: a slice of texts. Walks: layer 10's Check (the program's and the reference's), texts cut. Walks: the reference's New of layer 10: a list of patterns. -/
import Derived.Test.YtpkkfdmhbbipoaaMi
import Derived.SliceStrings
import Derived.Test.YtpkkfdmhbbipoaaMl
import Derived.Test.YtpkkfdmhbbipoaaMg
import Derived.Test.YtpkkfdmhbbipoaaMh
namespace Go.Proofs.Ytpkkfdmhbbipoaa
open Go.ChangeShapes Go.WideShapes Go.ChangeAt Go.RowKit Go.WideElems Go.Deep

section
variable {H : Type} {enc : TypeId × Value → H}
theorem Try.cellsStr : Try.prog.cellsOf 9 = 1 := by kernel_rfl
set_option maxRecDepth 100000 in
theorem open_strs {W : World} {base : Nat} {v : Value} {d : DataW H} {p : List MemPlace} (hval : Value.okWide Try.prog W .any base 42 v) (h : DataW.Trod enc Try.prog W 0 (fun _ => true) true 42 v d p) :
    ∃ A n c, ∃ ss : List ByteArray, v = .slice A n c ∧ ss.length = n ∧ (∀ s ∈ ss, s.size ≤ 9223372036854775807) ∧ Rd W A (ss.map Value.string) := by
  obtain ⟨A, n, c, rfl⟩ := okWide_slice Try.underlying42 hval
  obtain ⟨fuel, hf⟩ := h
  rcases open_strings Try.underlying42 Try.underlying9 Try.cellsStr hf with ⟨hcs, hx⟩ | ⟨a, len, cap, ss, hcs, _, hl, hm, hz, hx, hcell, hsz⟩
  · simp [Value.cells] at hcs
    obtain ⟨rfl, rfl, rfl⟩ := hcs
    exact ⟨none, 0, 0, [], rfl, rfl, by simp, .inl rfl⟩
  · simp [Value.cells] at hcs
    obtain ⟨rfl, rfl, rfl⟩ := hcs
    simp only [if_true] at hz
    refine ⟨some a, n, c, ss.take n, rfl, by simp; omega, fun s hs => ?_, ?_⟩
    · have := hsz s (List.mem_of_mem_take hs); unfold maxLen at this; omega
    · rcases Nat.eq_zero_or_pos n with h0 | h0
      · subst h0; exact .inl rfl
      · have h00 := hcell 0 (by omega)
        rw [addr_add0] at h00
        obtain ⟨b, off, spot⟩ := a
        have hspot : spot = none := World.cell?_spot h00
        subst hspot
        refine .inr ⟨b, off, rfl, World.block_lt_of_cell? W _ h00, fun j u hu => ?_⟩
        have hj : j < n := by have := (List.getElem?_eq_some_iff.1 hu).1; simp at this; omega
        have := hcell j (by omega)
        rw [show (⟨b, off, none⟩ : Addr).add j = ⟨b, off + j, none⟩ from by unfold Addr.add; split <;> simp_all] at this
        rw [this, ← hu, List.getElem?_map, List.getElem?_take, if_pos hj, List.getD_eq_getElem?_getD, List.getElem?_eq_getElem (by omega)]
        rfl
end
end Go.Proofs.Ytpkkfdmhbbipoaa
namespace Go.Proofs.Ytpkkfdmhbbipoaa
open Go.RowKit PopT

theorem least_nil (l : List Item) : leastM l = 0 ↔ matchM l [] = true := by
  rw [matchM_eq, matchR_nil, leastM, List.length_eq_zero_iff, List.filter_eq_nil_iff, Bool.not_eq_true', List.any_eq_false]
/-- The pattern of a text that may be waited for. -/
def checkM (p : ByteArray) : List Item × Nat × Nat := if (parseM p).2.2 = 0 ∧ matchM (parseM p).1 [] = true then ([], 0, 9) else parseM p
theorem newGo_check (p : ByteArray) (ps : List ByteArray) (i : Nat) (acc : List (List Item)) :
    newGo (p :: ps) i acc = if (checkM p).2.2 ≠ 0 then ([], i, (checkM p).2.2) else newGo ps (i + 1) (acc ++ [(checkM p).1]) := by
  by_cases h : (parseM p).2.2 = 0
  · by_cases hm : matchM (parseM p).1 [] = true
    · have e : checkM p = ([], 0, 9) := by rw [checkM, if_pos ⟨h, hm⟩]
      rw [newGo, e, if_neg (not_not_intro h), if_pos hm, if_pos (show (9 : Nat) ≠ 0 by decide)]
    · have e : checkM p = parseM p := by rw [checkM, if_neg (fun h' => hm h'.2)]
      rw [newGo, e, if_neg (not_not_intro h), if_neg hm, if_neg (not_not_intro h)]
  · have e : checkM p = parseM p := by rw [checkM, if_neg (fun h' => h h'.1)]
    rw [newGo, e, if_pos h, if_pos h]
set_option maxRecDepth 20000 in
set_option maxHeartbeats 1600000 in
theorem checkR_any (p : ByteArray) (hp : p.size ≤ 1000000) (w : World) :
    Calls Try.prog 59 #[.string p] w fun e w' => ParsePost (checkM p) w e w' := by
  have C1 := hid (parseR_any p hp w)
  have HLN := hid (parseM_len' p)
  have HC : Hid (checkM p = if (parseM p).2.2 = 0 ∧ matchM (parseM p).1 [] = true then ([], 0, 9) else parseM p) := rfl
  obtain ⟨c, hc⟩ : ∃ c, checkM p = c := ⟨_, rfl⟩
  obtain ⟨⟨l, a, e⟩, hR⟩ : ∃ R, parseM p = R := ⟨_, rfl⟩
  rw [hR] at C1 HC HLN
  rw [hc] at HC ⊢
  simp only at HC HLN
  obtain ⟨n, hn⟩ : ∃ n, l.length = n := ⟨_, rfl⟩
  have HN := hid hn
  clear hR hc
  obtain ⟨Q, hQ⟩ : ∃ Q, ParsePost c w = Q := ⟨_, rfl⟩
  rw [show (fun e' w' => ParsePost c w e' w') = Q from hQ]
  have HQ := hid hQ
  clear hQ
  go_enter Try.func59, Try.ntmps59
  go_wp2_with fail
  refine C1.out.mono ?_
  rintro en w1 ⟨A1, c1, rfl, hown1, hb1⟩
  simp only at hown1
  have HO1 := hid hown1
  have HR1 := hid (Rd_of_own hown1)
  have HB1 := hid hb1
  clear hown1 hb1 C1
  simp only [hn]
  rw [hn] at HLN HO1
  clear hn
  by_cases he : e = 0
  · subst he
    have hln : n ≤ 60 := HLN.out
    have C2 := hid (leastR_any A1 n c1 l w1 HN.out (by omega) HR1.out)
    obtain ⟨z, hz⟩ : ∃ z, leastM l = z := ⟨_, rfl⟩
    have HZ : Hid (z = 0 ↔ matchM l [] = true) := by rw [← hz]; exact least_nil l
    rw [hz] at C2
    clear hz
    go_wp2_with fail
    refine C2.out.mono ?_
    rintro en w2 ⟨rfl, hb2⟩
    have HB2 := hid (HB1.out.trans (hb2.mono HB1.out.size))
    have HO2 := hid (own_below HO1.out hb2)
    clear hb2 C2 HB1 HO1
    by_cases h0 : z = 0
    · have HE : Hid (c = ([], 0, 9)) := by rw [Hid, HC.out, if_pos ⟨by trivial, HZ.out.1 h0⟩]
      have hz0 : ((z : Int) == 0) = true := by rw [beq_iff_eq]; omega
      clear h0 HZ HC
      go_wp2_with fail
      go_ret3
      rw [← HQ.out, HE.out]
      exact parsePost_nil w w2 0 9 HB2.out
    · have HE : Hid (c = (l, a, 0)) := by rw [Hid, HC.out, if_neg (fun h' => h0 (HZ.out.2 h'.2))]
      have hz0 : ((z : Int) == 0) = false := by rw [beq_eq_false_iff_ne]; omega
      clear h0 HZ HC
      go_wp2_with fail
      go_ret3
      rw [← HQ.out, HE.out]
      refine ⟨A1, c1, ?_, ?_, HB2.out⟩
      · simp only [HN.out]; rfl
      · simp only [HN.out]; exact HO2.out
  · have HE : Hid (c = (l, a, e)) := by rw [Hid, HC.out, if_neg (fun h => he h.1)]
    have he0 : ((e : Int) == 0) = false := by rw [beq_eq_false_iff_ne]; omega
    clear he HC
    go_wp2_with fail
    go_ret3
    rw [← HQ.out, HE.out]
    refine ⟨A1, c1, ?_, ?_, HB1.out⟩
    · simp only [HN.out]; rfl
    · simp only [HN.out]; exact HO1.out

/-- A text, cut. -/
def cutM (long : Nat) (s : ByteArray) : ByteArray := if long < s.size then s.extract 0 long else s
theorem cutM_size (long : Nat) (s : ByteArray) : (cutM long s).size ≤ long := by
  unfold cutM; split
  · simp; omega
  · omega
theorem cutM_cutM (long : Nat) (s : ByteArray) : cutM long (cutM long s) = cutM long s := by
  rw [cutM, if_neg (by have := cutM_size long s; omega)]
/-- Texts, somewhat cut. -/
def fewTM (ps : List ByteArray) (most long : Nat) : List ByteArray := (ps.take most).map (cutM long)
theorem fewTM_twice (ps : List ByteArray) (most long : Nat) : fewTM (fewTM ps most long) most long = fewTM ps most long := by
  unfold fewTM
  rw [← List.map_take, List.take_take, Nat.min_self, List.map_map]
  refine List.map_congr_left (fun s _ => ?_)
  exact cutM_cutM long s
theorem fewTM_size (ps : List ByteArray) (most long : Nat) : ∀ p ∈ fewTM ps most long, p.size ≤ long := by
  intro p hp
  obtain ⟨s, _, rfl⟩ := List.mem_map.1 hp
  exact cutM_size long s
theorem fewTM_length (ps : List ByteArray) (most long : Nat) : (fewTM ps most long).length ≤ most := by
  unfold fewTM; rw [List.length_map, List.length_take]; omega
theorem Try.infoStr : (Try.prog.info? 9).map (fun i => (i.zero, i.size, i.bytes)) = some (some (.string ⟨#[]⟩), 1, 16) := by kernel_rfl

set_option maxRecDepth 20000 in
set_option maxHeartbeats 1600000 in
theorem fewT_any (A : Option Addr) (n c : Nat) (ps : List ByteArray) (most long : Nat) (w : World) (hl : ps.length = n) (hr : Rd w A (textCells ps)) (hs : ∀ p ∈ ps, p.size ≤ 9223372036854775807) (hm : most ≤ 1000) (hlong : long ≤ 1000) :
    Calls Try.prog 18 #[.slice A n c, .int .i64 (most : Int), .int .i64 (long : Int)] w fun e w' => ∃ A' c', e = .returned (.slice A' (fewTM ps most long).length c') ∧
      w'.ownsRow w.heap.size 9 1 (.slice A' (fewTM ps most long).length c') (fewTM ps most long).length (textCells (fewTM ps most long)) ∧ Below w.heap.size w w' := by
  have HL := hid hl; have HS := hid hs; have HR := hid hr
  obtain ⟨R, hR⟩ : ∃ R, fewTM ps most long = R := ⟨_, rfl⟩
  have HRR : Hid (fewTM ps most long = R) := hR
  rw [hR]
  clear hl hs hr hR
  go_enter Try.func18, Try.ntmps18
  go_wp2_with fail
  go_loopw [7, 8] (fun v i wr => ∃ (k c' : Nat) (A' : Option Addr) (acc : List ByteArray), k ≤ n ∧ k ≤ most ∧ i = .int .i64 (k : Int) ∧ acc.length = k ∧ v = .slice A' k c' ∧ acc = (ps.take k).map (cutM long) ∧
      wr.ownsRow w.heap.size 9 1 (.slice A' k c') k (textCells acc) ∧ Below w.heap.size w wr) (fun _ i _ => n - (intOf i).toNat)
  case atStart => exact ⟨0, _, _, [], by omega, by omega, rfl, rfl, rfl, by simp, World.ownsRow_made _ _ _ (Nat.le_refl _) (by simp [maxLen]) (by simp), (Below.refl _ _).alloc (Nat.le_refl _) _⟩
  case round =>
    obtain ⟨k, c', A', acc, hk, hkm, rfl, hak, rfl, hacc, hown, hb⟩ := hrel
    have HACC := hid hacc; have HAK := hid hak
    have hsz := hb.size
    clear hacc hak
    by_cases hlt : k < n
    · by_cases hlm : k < most
      · have HK : Hid (k < ps.length) := by rw [Hid, HL.out]; exact hlt
        obtain ⟨b, off, rfl, hbl, hc⟩ := (HR.out.below hb).at (by rw [textCells, List.length_map, HL.out]; omega)
        have d0 : wr.cell? ⟨b, off + k, none⟩ = some (.string (ps[k]'HK.out)) := hc k _ (by rw [textCells, List.getElem?_map, List.getElem?_eq_getElem HK.out]; rfl)
        have HA2 : Hid ((ps.take (k + 1)).map (cutM long) = acc ++ [cutM long (ps[k]'HK.out)]) := by
          rw [Hid, HACC.out, List.take_succ_eq_append_getElem HK.out, List.map_append]; rfl
        have C1 := hid (fun W => cut_any (ps[k]'HK.out) long W (HS.out _ (List.getElem_mem HK.out)) (by omega))
        obtain ⟨p, hp⟩ : ∃ p, ps[k]'HK.out = p := ⟨_, rfl⟩
        rw [hp] at d0 HA2 C1
        have C1' : Hid (∀ W, Calls Try.prog 19 #[.string p, .int .i64 (long : Int)] W fun e w' => e = .returned (.string (cutM long p)) ∧ W = w') := C1.out
        clear C1
        obtain ⟨q, hq⟩ : ∃ q, cutM long p = q := ⟨_, rfl⟩
        rw [hq] at HA2 C1'
        clear hp hq hc
        go_wp2_with fail
        refine (C1'.out _).mono ?_
        rintro en w1 ⟨rfl, rfl⟩
        clear C1'
        go_wp2_with (at_builtin; refine wpList_append1 _ rfl _ _ 42 rfl w.heap.size 9 _ 1 16 Try.underlying42 Try.infoStr rfl (by decide) _ _ _ rfl hown 1 [.string q] rfl rfl rfl ?_ (by decide) hsz ?_)
        · omega
        intro A2 d2 w3 hown3 hg3
        have HB3 := hid (below_grown hb hown hg3 (Nat.le_refl _) hsz)
        have HO3 := hid hown3
        clear hown hb hg3 hown3 d0
        go_wp2_with fail
        go_roundw
        case rel => exact ⟨k + 1, d2, A2, acc ++ [q], by omega, by omega, by go_num, by simp [HAK.out], rfl, HA2.out.symm, by simpa [textCells] using HO3.out, HB3.out⟩
        case measure => simp [intOf]; omega
      · have HO := hid hown; have HB := hid hb
        clear hown hb
        have HE : Hid (R = acc ∧ R.length = k) := by
          have e : R = acc := by rw [← HRR.out, HACC.out, fewTM, show k = most from by omega]
          exact ⟨e, by rw [e]; exact HAK.out⟩
        clear HRR HACC
        go_wp2_with fail
        go_ret
        rw [HE.out.2, HE.out.1]
        exact ⟨_, _, rfl, HO.out, HB.out⟩
    · have HO := hid hown; have HB := hid hb
      clear hown hb
      have HE : Hid (R = acc ∧ R.length = k) := by
        have hkl : ps.length = k := by rw [HL.out]; omega
        have e : R = acc := by rw [← HRR.out, HACC.out, fewTM, List.take_of_length_le (by omega), List.take_of_length_le (by omega)]
        exact ⟨e, by rw [e]; exact HAK.out⟩
      clear HRR HACC
      go_wp2_with fail
      go_ret
      rw [HE.out.2, HE.out.1]
      exact ⟨_, _, rfl, HO.out, HB.out⟩
end Go.Proofs.Ytpkkfdmhbbipoaa
namespace Go.Proofs.Ytpkkfdmhbbipoaa
open Go.RowKit PopT

/-- The values vs are the patterns ls, each in memory of the call's own. -/
def Lists (base : Nat) (w : World) (ls : List (List Item)) (vs : List Value) : Prop :=
  vs.length = ls.length ∧ ∀ (i : Nat) (l : List Item), ls[i]? = some l → ∃ A c, vs[i]? = some (.slice A l.length c) ∧ w.ownsRow base 158 5 (.slice A l.length c) l.length (itemCells l)
theorem Lists.nil (base : Nat) (w : World) : Lists base w [] [] := ⟨rfl, fun i l h => by simp at h⟩
theorem Lists.below {base B : Nat} {w w' : World} {ls : List (List Item)} {vs : List Value} (h : Lists base w ls vs) (hb : Below B w w') (hB : w.heap.size ≤ B) : Lists base w' ls vs := by
  refine ⟨h.1, fun i l hi => ?_⟩
  obtain ⟨A, c, hv, ho⟩ := h.2 i l hi
  exact ⟨A, c, hv, own_below ho hb hB⟩
theorem Lists.grown {base b2 e2 s2 n2 : Nat} {w w' : World} {ls : List (List Item)} {vs xs : List Value} {v : Value} (h : Lists base w ls vs) (ho2 : w.ownsRow b2 e2 s2 v n2 xs) (hg : w.grownBy w' v.ownBlock) (hne : 158 ≠ e2) : Lists base w' ls vs := by
  refine ⟨h.1, fun i l hi => ?_⟩
  obtain ⟨A, c, hv, ho⟩ := h.2 i l hi
  exact ⟨A, c, hv, ho.kept hg (own_ne ho ho2 hne)⟩
theorem Lists.snoc {base : Nat} {w : World} {ls : List (List Item)} {vs : List Value} {l : List Item} {A : Option Addr} {c : Nat} (h : Lists base w ls vs) (ho : w.ownsRow base 158 5 (.slice A l.length c) l.length (itemCells l)) :
    Lists base w (ls ++ [l]) (vs ++ [.slice A l.length c]) := by
  refine ⟨by simp [h.1], fun i m hi => ?_⟩
  by_cases hlt : i < ls.length
  · rw [List.getElem?_append_left hlt] at hi
    obtain ⟨A', c', hv, ho'⟩ := h.2 i m hi
    exact ⟨A', c', by rw [List.getElem?_append_left (by rw [h.1]; exact hlt)]; exact hv, ho'⟩
  · rw [List.getElem?_append_right (by omega)] at hi
    have hi0 : i - ls.length = 0 := by
      rcases Nat.eq_zero_or_pos (i - ls.length) with h0 | h0
      · exact h0
      · rw [List.getElem?_eq_none (by simp; omega)] at hi; cases hi
    rw [hi0] at hi
    injection hi with hi
    subst hi
    exact ⟨A, c, by rw [List.getElem?_append_right (by rw [h.1]; omega), h.1, hi0]; rfl, ho⟩
theorem own_fb {base bb b0 e size n : Nat} {w w' : World} {v : Value} {xs : List Value} (ho : w.ownsRow b0 e size v n xs) (h : FB base bb w w') (h1 : e ≠ 113) (h2 : e ≠ 120) : w'.ownsRow b0 e size v n xs := by
  refine ⟨ho.1, ?_⟩
  rcases ho.2 with hn | ⟨g, cap, cur, rfl, hb, hgg, rest⟩
  · exact .inl hn
  · exact .inr ⟨g, cap, cur, rfl, hb, (h.2.1 g _ _ _ hgg h1 h2).trans hgg, rest⟩
theorem Lists.fb {base bb b0 : Nat} {w w' : World} {ls : List (List Item)} {vs : List Value} (h : Lists b0 w ls vs) (hf : FB base bb w w') : Lists b0 w' ls vs := by
  refine ⟨h.1, fun i l hi => ?_⟩
  obtain ⟨A, c, hv, ho⟩ := h.2 i l hi
  exact ⟨A, c, hv, own_fb ho hf (by decide) (by decide)⟩
/-- What the reference's New leaves. -/
def NewF (R : List (List Item) × Nat × Nat) (w : World) (e : Ending) (w' : World) : Prop :=
  ∃ A c vs, e = .returned (.tuple #[.slice A R.1.length c, .int .i64 (R.2.1 : Nat), .int .i64 (R.2.2 : Nat)]) ∧ w'.ownsRow w.heap.size 121 1 (.slice A R.1.length c) R.1.length vs ∧ Lists w.heap.size w' R.1 vs ∧ Below w.heap.size w w'
theorem Try.infoItems : (Try.prog.info? 121).map (fun i => (i.zero, i.size, i.bytes)) = some (some (.slice none 0 0), 1, 24) := by kernel_rfl

set_option maxRecDepth 20000 in
set_option maxHeartbeats 1600000 in
theorem newF_any (A : Option Addr) (n c : Nat) (ps : List ByteArray) (w : World) (hl : ps.length = n) (hn : n ≤ 1000) (hp : ∀ p ∈ ps, p.size ≤ 1000000) (hr : Rd w A (textCells ps)) :
    Calls Try.prog 45 #[.slice A n c] w fun e w' => NewF (newM ps) w e w' := by
  have HL := hid hl; have HP := hid hp; have HRD := hid hr
  have HNM : Hid (newM ps = if 8 < n then ([], 0, 4) else newGo ps 0 []) := by rw [Hid, newM, hl]
  obtain ⟨R, hR⟩ : ∃ R, newM ps = R := ⟨_, rfl⟩
  rw [hR] at HNM ⊢
  obtain ⟨Q, hQ⟩ : ∃ Q, NewF R w = Q := ⟨_, rfl⟩
  rw [show (fun e' w' => NewF R w e' w') = Q from hQ]
  have HQ := hid hQ
  clear hR hQ hl hp hr
  by_cases h8 : 8 < n
  · have HE : Hid (R = ([], 0, 4)) := by rw [Hid, HNM.out, if_pos h8]
    clear HNM
    go_enter Try.func45, Try.ntmps45
    go_wp2_with fail
    go_ret3
    rw [← HQ.out, HE.out]
    exact ⟨none, 0, [], rfl, World.ownsRow_nil _ _ _ _, Lists.nil _ _, (Below.refl _ _).alloc (Nat.le_refl _) _⟩
  · have HE : Hid (newGo ps 0 [] = R) := by rw [Hid, HNM.out, if_neg h8]
    clear HNM
    go_enter Try.func45, Try.ntmps45
    go_wp2_with fail
    go_loopw [5, 6] (fun v iv wr => ∃ (k c' : Nat) (A' : Option Addr) (ls : List (List Item)) (vs : List Value), k ≤ n ∧ ls.length = k ∧ vs.length = k ∧ iv = .int .i64 (k : Int) ∧ v = .slice A' k c' ∧ newGo (ps.drop k) k ls = R ∧
        wr.ownsRow w.heap.size 121 1 (.slice A' k c') k vs ∧ Lists w.heap.size wr ls vs ∧ Below w.heap.size w wr) (fun _ iv _ => n - (intOf iv).toNat)
    case atStart => exact ⟨0, _, _, [], [], by omega, rfl, rfl, rfl, rfl, HE.out, World.ownsRow_made _ _ _ (Nat.le_refl _) (by simp [maxLen]) (by simp), Lists.nil _ _, (Below.refl _ _).alloc (Nat.le_refl _) _⟩
    case round =>
      obtain ⟨k, c', A', ls, vs, hk, hkl, hkv, rfl, rfl, hgo, hown, hls, hb⟩ := hrel
      have HGO := hid hgo; have HLS := hid hls; have HKL := hid hkl; have HKV := hid hkv; have HB := hid hb; have HO := hid hown
      have hsz := hb.size
      clear hgo hls hkl hkv HE
      by_cases hlt : k < n
      · have HK : Hid (k < ps.length) := by rw [Hid, HL.out]; exact hlt
        obtain ⟨b, off, rfl, hbl, hc⟩ := (HRD.out.below hb).at (by rw [textCells, List.length_map, HL.out]; omega)
        have d0 : wr.cell? ⟨b, off + k, none⟩ = some (.string (ps[k]'HK.out)) := hc k _ (by rw [textCells, List.getElem?_map, List.getElem?_eq_getElem HK.out]; rfl)
        have HGO2 : Hid (R = if (checkM (ps[k]'HK.out)).2.2 ≠ 0 then ([], k, (checkM (ps[k]'HK.out)).2.2) else newGo (ps.drop (k + 1)) (k + 1) (ls ++ [(checkM (ps[k]'HK.out)).1])) := by
          rw [Hid, ← HGO.out, List.drop_eq_getElem_cons HK.out, newGo_check]
        have HC := hid (checkR_any (ps[k]'HK.out) (HP.out _ (List.getElem_mem HK.out)) wr)
        obtain ⟨p, hpp⟩ : ∃ p, ps[k]'HK.out = p := ⟨_, rfl⟩
        rw [hpp] at d0 HC HGO2
        obtain ⟨⟨l, a, e⟩, hPM⟩ : ∃ P, checkM p = P := ⟨_, rfl⟩
        rw [hPM] at HC HGO2
        simp only at HGO2
        clear hpp hPM hc hb hown
        go_wp2_with fail
        refine HC.out.mono ?_
        rintro en w2 ⟨A1, c1, rfl, hown1, hb2⟩
        simp only at hown1
        obtain ⟨m, hm⟩ : ∃ m, l.length = m := ⟨_, rfl⟩
        have HM := hid hm
        have HO1 := hid (own_base hown1 hsz)
        simp only [hm]
        rw [hm] at HO1
        have HB2 := hid (HB.out.trans (hb2.mono hsz))
        have hown2 := own_below HO.out hb2
        have HLS2 := hid (HLS.out.below hb2 (Nat.le_refl _))
        have hsz2 := HB2.out.size
        clear hown1 hm hb2 HC HO HB HLS d0
        by_cases he : e = 0
        · subst he
          have HG3 : Hid (newGo (ps.drop (k + 1)) (k + 1) (ls ++ [l]) = R) := by rw [Hid, HGO2.out, if_neg (by simp)]
          clear HGO HGO2
          go_wp2_with (at_builtin; refine wpList_append1 _ rfl _ _ 49 rfl w.heap.size 121 _ 1 24 Try.underlying49 Try.infoItems rfl (by decide) _ _ _ rfl hown2 1 [.slice A1 m c1] rfl rfl rfl ?_ (by decide) hsz2 ?_)
          · omega
          intro A2 d2 w3 hown3 hg3
          have HB3 := hid (below_grown HB2.out hown2 hg3 (Nat.le_refl _) hsz2)
          have HO3 := hid hown3
          have HLS3 : Hid (Lists w.heap.size w3 (ls ++ [l]) (vs ++ [.slice A1 m c1])) := by
            have h1 := HO1.out.kept hg3 (own_ne HO1.out hown2 (by decide))
            have h2 := HLS2.out.grown hown2 hg3 (by decide)
            have := h2.snoc (l := l) (A := A1) (c := c1) (by rw [HM.out]; exact h1)
            rwa [HM.out] at this
          clear hown2 hg3 hown3 HB2 HLS2 HO1
          go_wp2_with fail
          go_roundw
          case rel => exact ⟨k + 1, d2, A2, ls ++ [l], vs ++ [.slice A1 m c1], by omega, by simp [HKL.out], by simp [HKV.out], by go_num, rfl, HG3.out, HO3.out, HLS3.out, HB3.out⟩
          case measure => simp [intOf]; omega
        · have he0 : ((e : Int) == 0) = false := by rw [beq_eq_false_iff_ne]; omega
          have HE : Hid (R = ([], k, e)) := by rw [Hid, HGO2.out, if_pos he]
          clear he HGO HGO2 hown2
          go_wp2_with fail
          go_ret3
          rw [← HQ.out, HE.out]
          exact ⟨none, 0, [], rfl, World.ownsRow_nil _ _ _ _, Lists.nil _ _, HB2.out⟩
      · have HE : Hid (R = (ls, 0, 0)) := by rw [Hid, ← HGO.out, List.drop_of_length_le (by rw [HL.out]; omega)]; rfl
        clear hown hb
        go_wp2_with fail
        go_ret3
        rw [← HQ.out, HE.out]
        refine ⟨A', c', vs, ?_, ?_, HLS.out, HB.out⟩
        · simp only [HKL.out]; rfl
        · simp only [HKL.out]; exact HO.out
end Go.Proofs.Ytpkkfdmhbbipoaa
