/- GlobPlain: for every text the law answers true. No condition. -/
import Derived.Test.YtgiffdgicmdmgaaMj
import Derived.Test.YtgiffdgicmdmgaaMh
import Derived.Test.YtgiffdgicmdmgaaMc
import Derived.Test.YtgiffdgicmdmgaaMi
namespace Go.Proofs.Ytgiffdgicmdmgaa
open Go.RowKit PopT

/-- What is read of items' texts, one behind the other. -/
theorem parseP_pairs (p : ByteArray) (l : List (Item × List Nat)) (hT : ∀ x ∈ l, ∀ q r, At q 0 (x.2 ++ r) → itemP q = (x.1, x.2.length, 0)) (hp : ∀ x ∈ l, 0 < x.2.length) (out : List Item) (a f : Nat)
    (h : At p a (l.flatMap Prod.snd)) (hl : out.length + l.length ≤ 60) (hf : l.length ≤ f) : parseP p f out a = (out ++ l.map Prod.fst, 0, 0) := by
  induction l generalizing out a f with
  | nil =>
    have h1 : At p a [] := h
    rw [parseP_end p f out a (by have := h1.nil; omega), List.map_nil, List.append_nil]
  | cons x l ih =>
    rw [List.flatMap_cons] at h
    cases f with
    | zero => simp at hf
    | succ f =>
      have hi := hT x List.mem_cons_self _ _ h.tail
      have ha : a < p.size := by
        have hpos := hp x List.mem_cons_self
        cases hx : x.2 with
        | nil => rw [hx] at hpos; simp at hpos
        | cons y r => rw [hx] at h; exact (show At p a (y :: (r ++ l.flatMap Prod.snd)) from h).cons.1
      rw [parseP, if_pos ha, if_neg (by simp only [List.length_cons] at hl; omega), hi, if_pos rfl]
      rw [ih (fun y hy => hT y (List.mem_cons_of_mem _ hy)) (fun y hy => hp y (List.mem_cons_of_mem _ hy)) _ _ f h.append (by simp only [List.length_append, List.length_cons, List.length_nil] at hl ⊢; omega) (by simp only [List.length_cons] at hf; omega)]
      rw [List.append_assoc]; rfl
theorem at_strOf (l : List Nat) (h : ∀ d ∈ l, d < 256) : At (strOf l) 0 l := by
  unfold At strOf
  rw [List.drop_zero]
  show List.map UInt8.toNat (List.map UInt8.ofNat l).toArray.toList = l
  rw [List.map_map]
  induction l with
  | nil => rfl
  | cons a l ih =>
    rw [List.map_cons, ih (fun c hc => h c (List.mem_cons_of_mem _ hc))]
    congr 1
    exact UInt8.toNat_ofNat_of_lt' (h a List.mem_cons_self)
def singles (L : List UInt8) : List Item := L.map fun c => ⟨false, spanTo c.toNat 1⟩
theorem parse_plain (L : List UInt8) (hL : L.length ≤ 60) : parseM (strOf (plainM L)) = (singles L, 0, 0) := by
  have h := parseP_pairs (strOf (plainM L)) (L.map fun c => ((⟨false, spanTo c.toNat 1⟩ : Item), gsignM c.toNat))
    (by
      intro x hx q r hq
      obtain ⟨c, _, rfl⟩ := List.mem_map.1 hx
      exact itemP_sign hq)
    (by
      intro x hx
      obtain ⟨c, _, rfl⟩ := List.mem_map.1 hx
      simp only [gsignM]; split <;> simp)
    [] 0 61 (by rw [List.flatMap_map]; exact at_strOf _ (plain_byte L)) (by simpa using hL) (by simp; omega)
  rw [parseM, h]
  simp [singles]
theorem cut_size4 (s : ByteArray) (m : Nat) : (if m < s.size then s.extract 0 m else s).size ≤ m := by
  split
  · rw [ByteArray.size_extract]; omega
  · omega

set_option maxRecDepth 20000 in
set_option maxHeartbeats 1600000 in
theorem globPlain_any (s : ByteArray) (w : World) (hs : s.size ≤ 9223372036854775807) :
    Calls Try.prog 11 #[.string s] w fun e w' => e = .returned (.bool true) ∧ Below w.heap.size w w' := by
  have HC := hid (cut_any s 60 w hs (by omega))
  have hsz := cut_size4 s 60
  obtain ⟨t, ht⟩ : ∃ t, (if 60 < s.size then s.extract 0 60 else s) = t := ⟨_, rfl⟩
  rw [ht] at HC hsz
  clear ht hs
  have hll : t.data.toList.length = t.size := by simp
  have C1 := hid (fun W => gplain_any t W (by omega))
  have C2 := hid (fun W => plainR_any t W (by omega))
  have C3 := hid (fun W => parse_any (strOf (plainM t.data.toList)) (by rw [strOf_size']; have := plain_len t.data.toList; omega) W)
  rw [parse_plain _ (by rw [hll]; exact hsz)] at C3
  have C5 := hid (fun W => lives07_any W)
  have HGET : Hid (∀ k (h : k < t.size), ∃ h2 : k < (singles t.data.toList).length, (singles t.data.toList)[k] = ⟨false, spanTo (t[k]).toNat 1⟩) := by
    intro k h
    refine ⟨by rw [singles, List.length_map, hll]; exact h, ?_⟩
    simp only [singles, List.getElem_map]; rfl
  have hln : (singles t.data.toList).length = t.size := by rw [singles, List.length_map, hll]
  obtain ⟨PS, hPS⟩ : ∃ S, strOf (plainM t.data.toList) = S := ⟨_, rfl⟩
  rw [hPS] at C1 C2 C3
  obtain ⟨l, hl⟩ : ∃ l, singles t.data.toList = l := ⟨_, rfl⟩
  rw [hl] at C3 HGET hln
  have HLN := hid hln
  clear hPS hl hll
  go_enter Try.func11, Try.ntmps11
  go_wp2_with fail
  refine HC.out.mono ?_
  rintro en w0 ⟨rfl, rfl⟩
  go_wp2_with fail
  refine (C1.out _).mono ?_
  rintro en w1 ⟨rfl, hb1⟩
  have HB1 := hid hb1
  clear hb1 HC
  go_wp2_with fail
  refine (C3.out _).mono ?_
  rintro en w2 ⟨A, c, rfl, hown, hb2⟩
  simp only at hown
  have HR2 := hid (Rd_of_own hown)
  have HB2 := hid (HB1.out.trans (hb2.mono HB1.out.size))
  clear hown hb2 HB1 C3
  simp only [hln]
  clear hln
  go_wp2_with fail
  refine (C1.out _).mono ?_
  rintro en w3 ⟨rfl, hb3⟩
  have HR3 := hid (HR2.out.below hb3)
  have HB3 := hid (HB2.out.trans (hb3.mono HB2.out.size))
  clear hb3 HR2 HB2 C1
  go_wp2_with fail
  refine (C2.out _).mono ?_
  rintro en w4 ⟨rfl, rfl⟩
  clear C2
  go_wp2_with fail
  go_loopw [6] (fun iv wr => ∃ (k : Nat), k ≤ t.size ∧ iv = .int .i64 (k : Int) ∧ Rd wr A (itemCells l) ∧ Below w.heap.size w wr) (fun iv _ => t.size - (intOf iv).toNat)
  case atStart => exact ⟨0, by omega, rfl, HR3.out, HB3.out⟩
  case round =>
    obtain ⟨k, hk, rfl, hr, hb⟩ := hrel
    have HR := hid hr; have HB := hid hb
    clear hr hb HR3 HB3
    by_cases hlt : k < t.size
    · obtain ⟨hkl, hx⟩ := HGET.out k hlt
      obtain ⟨b, off, rfl, hbl, hc⟩ := HR.out.at (by rw [itemCells_length, HLN.out]; omega)
      obtain ⟨d0, d1, d2, d3, d4⟩ := item_at hc k hkl
      rw [hx] at d0 d1 d2 d3 d4
      have hgk : (t[k]'hlt).toNat < 256 := UInt8.toNat_lt _
      obtain ⟨cb, hcb⟩ : ∃ c, (t[k]'hlt).toNat = c := ⟨_, rfl⟩
      rw [hcb] at d0 d1 d2 d3 d4 hgk
      have C4 := hid (fun W => spanR_any cb cb hgk hgk W)
      rw [Nat.add_sub_cancel_left] at C4
      obtain ⟨X, hX⟩ : ∃ X, spanTo cb 1 = X := ⟨_, rfl⟩
      rw [hX] at d0 d1 d2 d3 d4 C4
      simp only at d0 d1 d2 d3 d4
      have heq : ∀ W, (Op.equalIn 10000 52 (.agg #[.bool false, w64 X.w0, w64 X.w1, w64 X.w2, w64 X.w3]) (.agg #[.bool false, w64 X.w0, w64 X.w1, w64 X.w2, w64 X.w3])).run Try.prog W = .ok true W := by
        intro W
        have := Try.eqItem ⟨false, X⟩ ⟨false, X⟩ W
        rw [(eqI_iff _ _).2 rfl] at this
        exact this
      unfold BSet.val at C4
      clear hX hx hkl hc
      have D0 : ∀ q : BW wr.heap.size wr, q.1.cell? ⟨b, off + k * 5, none⟩ = some (.bool false) := fun q => q.cellAt hbl d0
      have D1 : ∀ q : BW wr.heap.size wr, q.1.cell? ⟨b, off + k * 5 + 1, none⟩ = some (w64 X.w0) := fun q => q.cellAt hbl d1
      have D2 : ∀ q : BW wr.heap.size wr, q.1.cell? ⟨b, off + k * 5 + 2, none⟩ = some (w64 X.w1) := fun q => q.cellAt hbl d2
      have D3 : ∀ q : BW wr.heap.size wr, q.1.cell? ⟨b, off + k * 5 + 3, none⟩ = some (w64 X.w2) := fun q => q.cellAt hbl d3
      have D4 : ∀ q : BW wr.heap.size wr, q.1.cell? ⟨b, off + k * 5 + 4, none⟩ = some (w64 X.w3) := fun q => q.cellAt hbl d4
      clear d0 d1 d2 d3 d4
      go_wp2_with fail
      refine wp_region_below wr.heap.size (by kernel_rfl) (by kernel_rfl) ?_
      repeat (go_big_quiet_step ((go_at_call 46; exact callBW (Nat.le_refl _) C4.out _)))
      refine wpQuiet_nil ?_
      intro w5 hq5
      have hb5 : Below wr.heap.size wr w5 := by obtain ⟨q, rfl⟩ := hq5; exact q.2
      clear hq5
      have HR5 := hid (HR.out.below hb5)
      have HB5 := hid (HB.out.trans (hb5.mono HB.out.size))
      clear hb5 HR HB D0 D1 D2 D3 D4
      go_wp2_with fail
      go_roundw
      case rel => exact ⟨k + 1, by omega, by go_num, HR5.out, HB5.out⟩
      case measure => simp [intOf]; omega
    · go_wp2_with fail
      refine (C5.out _).mono ?_
      rintro en w5 ⟨rfl, hb5⟩
      have HB5 := hid (HB.out.trans (hb5.mono HB.out.size))
      clear hb5
      go_wp2_with fail
      go_ret
      exact ⟨rfl, HB5.out⟩
end Go.Proofs.Ytgiffdgicmdmgaa
namespace Go.Proofs.Ytgiffdgicmdmgaa
open Go.ChangeShapes Go.WideShapes Go.ChangeAt Go.RowKit Go.WideElems Go.Deep
open Go.ChangeMaps (open_string shut_string)

set_option maxRecDepth 100000 in
theorem globPlain_lifted (os : Os) (started : os.Started) (H : Type) (enc : TypeId × Value → H) :
    ReturnsInHanded {} Try.checked os 11 .any (Rows.globPlainSpec.pre6 enc Try.prog Try.f11 [] false) (Rows.globPlainSpec.post enc Try.prog Try.f11 false true false false) := by
  refine law_lifted 11 Try.f11 Rows.globPlainSpec os started H enc Try.func11 (by kernel_rfl) (by kernel_rfl) (by kernel_rfl) rfl (fun ds h => ?_)
    (ChangeSpec.witness6 (enc := enc) (C := Try.checked) false ⟨#[], #[.string ⟨#[]⟩], []⟩ 8 (by kernel_rfl) (by kernel_rfl) (by kernel_rfl) (by kernel_rfl)) ?_
  · have hn : ds.length = 1 := h
    match ds, hn with
    | [d0], _ => rfl
  · intro W args ds p base hval hA _ _
    rw [show Try.f11.params.toList = [9] from by rw [Try.params11]] at hval hA
    obtain ⟨v0, _, d0, _, p0, _, rfl, rfl, rfl, h0, hA⟩ := all_cons hA
    obtain rfl := all_nil hA
    obtain ⟨s0, rfl, _, _, hs0⟩ := open_string Try.underlying9 (hval 0 _ v0 rfl rfl) h0
    exact globPlain_any s0 W hs0

theorem globPlain_holds : Rows.GlobPlainSaid :=
  OpenClaim.holds_of_wide 11 Try.f11 rfl rfl rfl rfl rfl rfl rfl ⟨rfl, rfl, rfl, rfl, rfl⟩ rfl rfl rfl rfl rfl (by kernel_rfl) Try.func11 (by kernel_rfl)
    (of_decide_eq_true (by kernel_rfl)) (by unfold Func.isWrapper; first | (rw [if_pos (by decide +kernel)]; kernel_rfl) | (rw [if_neg (by decide +kernel)]; exact ⟨rfl, rfl⟩))
    (fun os started H enc _ => globPlain_lifted os started H enc)
#print axioms globPlain_holds
end Go.Proofs.Ytgiffdgicmdmgaa
