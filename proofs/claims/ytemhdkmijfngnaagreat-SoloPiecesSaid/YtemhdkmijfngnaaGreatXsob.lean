/- SoloPieces: for all inputs the law answers true. No condition. -/
import Derived.Test.YtemhdkmijfngnaaGreatEd
import Derived.Test.YtemhdkmijfngnaaGreatMi
import Derived.Test.YtemhdkmijfngnaaGreatEb
namespace Go.Proofs.YtemhdkmijfngnaaGreat
open Go.RowKit PopT
theorem inVCells_drop (l : List InV) (k : Nat) : inVCells (l.drop k) = (inVCells l).drop (k * 4) := by
  induction k generalizing l with
  | zero => simp
  | succ k ih =>
    cases l with
    | nil => simp [inVCells]
    | cons x l =>
      rw [List.drop_succ_cons, ih l]
      have e : inVCells (x :: l) = x.cells ++ inVCells l := rfl
      have hl : x.cells.length = 4 := rfl
      have h0 : x.cells.drop ((k + 1) * 4) = [] := List.drop_eq_nil_of_le (by omega)
      rw [e, List.drop_append, h0, List.nil_append, hl]
      congr 1; omega
theorem slice_in (bb ob n k h : Nat) (W : World) (hh : h < n) (hk : n ≤ k) : (Instr.slice 27 (.slice (some ⟨bb, ob, none⟩) n k) (some (.int .i64 (h : Int))) none none).run Tryz.prog W = .ok (.slice (some ⟨bb, ob + h * 4, none⟩) (n - h) (k - h)) W := by
  have e : Tryz.prog.elem 27 = 46 := by kernel_rfl
  have es : ∀ w, (sizeOf 46).run Tryz.prog w = .ok 4 w := fun w => by kernel_rfl
  rw [run_slice_l W 27 (some ⟨bb, ob, none⟩) n k (by rw [e]; exact Tryz.underlying27) .i64 (h : Int) (by omega) (by omega), e, es]
  have hne : ¬ k = h := by omega
  simp [Result.andThen, sliced, Addr.add, hne]
theorem in_ok (k : Int) (b : ByteArray) (n t : Int) (hb : b.size ≤ 9223372036854775807) (hn : I6 n) (ht : I6 t) : (InV.mk k b n t).ok := ⟨hb, hn, ht⟩
theorem i6_0 : I6 0 := ⟨by decide, by decide⟩
theorem blk_cells {w : World} {g : Nat} {t : TypeId} {cs : Array Value} (h : Blk w g t cs) (j : Nat) (u : Value) (hu : cs.toList[j]? = some u) : w.cell? ⟨g, j, none⟩ = some u := by
  rw [h.cell j]; simpa using hu
theorem cells_up {w w' : World} {g : Nat} {xs : List Value} (hb : Below w.heap.size w w') (h : ∀ j u, xs[j]? = some u → w.cell? ⟨g, j, none⟩ = some u) : ∀ j u, xs[j]? = some u → w'.cell? ⟨g, j, none⟩ = some u :=
  fun j u hu => (World.cell?_of_block (hb.block g (World.block_lt_of_cell? w _ (h j u hu)))).trans (h j u hu)
theorem slice_out (g n k h : Nat) (hh : h ≤ n) (hk : n ≤ k) : ∃ (P : Option Addr) (c' : Nat), (∀ W : World, (Instr.slice 63 (.slice (some ⟨g, 0, none⟩) n k) (some (.int .i64 (h : Int))) none none).run Tryz.prog W = .ok (.slice P (n - h) c') W) ∧
    ∀ (w : World) (a b : List OutV), Rd w (some ⟨g, 0, none⟩) (outVCells (a ++ b)) → a.length = h → b.length = n - h → Rd w P (outVCells b) := by
  have e : Tryz.prog.elem 63 = 72 := by kernel_rfl
  have es : ∀ w, (sizeOf 72).run Tryz.prog w = .ok 9 w := fun w => by kernel_rfl
  refine ⟨if k = h then some ⟨g, 0, none⟩ else some ⟨g, h * 9, none⟩, k - h, fun W => ?_, fun w a b hr ha hb => ?_⟩
  · rw [run_slice_l W 63 (some ⟨g, 0, none⟩) n k (by rw [e]; exact Tryz.underlying63) .i64 (h : Int) (by omega) (by omega), e, es]
    by_cases hc : k = h
    · simp [Result.andThen, sliced, hc]
    · simp [Result.andThen, sliced, Addr.add, hc]
      try (intro h0; omega)
  · by_cases hc : k = h
    · have : b = [] := List.eq_nil_of_length_eq_zero (by omega)
      rw [this]; exact .inl rfl
    · rw [if_neg hc]
      rcases hr with h0 | ⟨bb, off, hA, hl, hcc⟩
      · rw [outVCells_append] at h0
        exact .inl (List.append_eq_nil_iff.1 h0).2
      · injection hA with hA
        injection hA with h1 h2 _
        subst h1; subst h2
        refine .inr ⟨g, h * 9, rfl, hl, fun j u hu => ?_⟩
        have := hcc (h * 9 + j) u (by
          rw [outVCells_append, List.getElem?_append_right (by rw [outVCells_length, ha]; omega), outVCells_length, ha]
          have e3 : h * 9 + j - h * 9 = j := by omega
          rw [e3]; exact hu)
        rwa [Nat.zero_add] at this
theorem elem9 {w : World} {base g n c idx : Nat} {l : List OutV} {o : OutV} (ox : w.ownsRow base 72 9 (.slice (some ⟨g, 0, none⟩) n c) n (outVCells l)) (hg : l[idx]? = some o) (q : BW w.heap.size w) :
    q.1.cell? ⟨g, idx * 9, none⟩ = some (.int .i64 o.n) ∧ q.1.cell? ⟨g, idx * 9 + 1, none⟩ = some (.string o.b) ∧ q.1.cell? ⟨g, idx * 9 + 2, none⟩ = some (.int .i64 o.t) ∧ q.1.cell? ⟨g, idx * 9 + 3, none⟩ = some (.int .i64 o.loc) ∧ q.1.cell? ⟨g, idx * 9 + 4, none⟩ = some (.int .i64 o.what) ∧
      q.1.cell? ⟨g, idx * 9 + 5, none⟩ = some (.int .i64 o.arm) ∧ q.1.cell? ⟨g, idx * 9 + 6, none⟩ = some (.int .i64 o.m) ∧ q.1.cell? ⟨g, idx * 9 + 7, none⟩ = some (.int .i64 o.st) ∧ q.1.cell? ⟨g, idx * 9 + 8, none⟩ = some (.bool o.did) := by
  have hl : g < w.heap.size := (ox.lt g rfl).2
  have key : ∀ j u, j < 9 → o.cells[j]? = some u → q.1.cell? ⟨g, idx * 9 + j, none⟩ = some u := fun j u hj hu => q.cellAt hl (own_cells ox _ _ ((outV_at l idx o hg j hj).trans hu))
  exact ⟨key 0 _ (by omega) rfl, key 1 _ (by omega) rfl, key 2 _ (by omega) rfl, key 3 _ (by omega) rfl, key 4 _ (by omega) rfl, key 5 _ (by omega) rfl, key 6 _ (by omega) rfl, key 7 _ (by omega) rfl, key 8 _ (by omega) rfl⟩
theorem get_a {XH XT : List OutV} {o1 o2 : OutV} {n1 : Nat} (h : XH.length = n1) : (XH ++ ([o1, o2] ++ XT))[n1]? = some o1 := by
  rw [List.getElem?_append_right (by omega), h, Nat.sub_self]; rfl
theorem get_b {XH XT : List OutV} {o1 o2 : OutV} {n1 : Nat} (h : XH.length = n1) : (XH ++ ([o1, o2] ++ XT))[n1 + 1]? = some o2 := by
  rw [List.getElem?_append_right (by omega), h, show n1 + 1 - n1 = 1 by omega]; rfl
theorem get_one {XH XT : List OutV} {o : OutV} {n1 : Nat} (h : XH.length = n1) : (XH ++ ([o] ++ XT))[n1]? = some o := by
  rw [List.getElem?_append_right (by omega), h, Nat.sub_self]; rfl
theorem ext_list (b : ByteArray) (i j : Nat) : (b.extract i j).data.toList = (b.data.toList.drop i).take (j - i) := by
  rw [ByteArray.data_extract, Array.toList_extract, List.extract_eq_take_drop]
theorem put_split (x : DialV) (b : ByteArray) (k : Nat) (hk : k ≤ b.size) : ((x.put (b.extract 0 k)).1.put (b.extract k b.size)).1 = (x.put b).1 ∧ (x.put b).2 = (x.put (b.extract 0 k)).2 + ((x.put (b.extract 0 k)).1.put (b.extract k b.size)).2 ∧ (x.put b).2 ≤ b.size := by
  unfold DialV.put
  by_cases h1 : x.st ≠ 0
  · simp [h1]
  · cases h2 : x.eof
    · have hs : b.data.toList.length = b.size := by rw [Array.length_toList]; rfl
      have e1 : (b.extract 0 k).data.toList = b.data.toList.take k := by rw [ext_list, List.drop_zero, Nat.sub_zero]
      have e2 : (b.extract k b.size).data.toList = b.data.toList.drop k := by rw [ext_list, List.take_of_length_le (by rw [List.length_drop, hs]; omega)]
      have s1 : (b.extract 0 k).size = k := by rw [ByteArray.size_extract]; omega
      have s2 : (b.extract k b.size).size = b.size - k := by rw [ByteArray.size_extract]; omega
      simp only [h1, Bool.false_eq_true, or_self, if_false, s1, s2, e1, e2]
      generalize hr : x.s.ring.toNat - x.R.length = r
      have hl : (x.R ++ (b.data.toList.take k).take r).length = x.R.length + min k r := by rw [List.length_append, List.length_take, List.length_take, hs]; omega
      have hr2 : x.s.ring.toNat - (x.R ++ (b.data.toList.take k).take r).length = r - min k r := by rw [hl]; omega
      rw [hr2]
      have hlist : x.R ++ (b.data.toList.take k).take r ++ (b.data.toList.drop k).take (r - min k r) = x.R ++ b.data.toList.take r := by
        rw [List.append_assoc]
        congr 1
        rcases Nat.le_total k r with h | h
        · rw [List.take_of_length_le (l := b.data.toList.take k) (by rw [List.length_take]; omega), Nat.min_eq_left h]
          have := List.take_add (l := b.data.toList) (i := k) (j := r - k)
          rw [show k + (r - k) = r by omega] at this
          exact this.symm
        · rw [Nat.min_eq_right h, Nat.sub_self, List.take_zero, List.append_nil, List.take_take, Nat.min_eq_left h]
      refine ⟨?_, ?_, ?_⟩
      · rw [hlist]
      · omega
      · omega
    · simp [h1, h2]
theorem pieces_run (x0 : DialV) (l1 tl : List InV) (cb : ByteArray) (k : Nat) (hk : k ≤ cb.size) (h12 : cb.size ≤ 12) : ∃ o o1 o2 XT, runL x0 (l1 ++ [⟨1, cb, 0, 0⟩] ++ tl) = runL x0 l1 ++ ([o] ++ XT) ∧ runL x0 (l1 ++ [⟨1, cb.extract 0 k, 0, 0⟩, ⟨1, cb.extract k cb.size, 0, 0⟩] ++ tl) = runL x0 l1 ++ ([o1, o2] ++ XT) ∧ XT.length = tl.length ∧ o.n = o1.n + o2.n ∧ (0 ≤ o1.n ∧ o1.n ≤ 12) ∧ (0 ≤ o2.n ∧ o2.n ≤ 12) := by
  obtain ⟨y, hy⟩ : ∃ y, runS x0 l1 = y := ⟨_, rfl⟩
  obtain ⟨e1, e2, e3⟩ := put_split y cb k hk
  refine ⟨(y.one ⟨1, cb, 0, 0⟩).2, (y.one ⟨1, cb.extract 0 k, 0, 0⟩).2, (((y.put (cb.extract 0 k)).1).one ⟨1, cb.extract k cb.size, 0, 0⟩).2, runL (y.put cb).1 tl, ?_, ?_, runL_length _ _, ?_, ?_, ?_⟩
  · rw [List.append_assoc, runL_append, hy]; rfl
  · rw [List.append_assoc, runL_append, hy]
    congr 1
    show (y.one ⟨1, cb.extract 0 k, 0, 0⟩).2 :: (((y.put (cb.extract 0 k)).1).one ⟨1, cb.extract k cb.size, 0, 0⟩).2 :: runL (((y.put (cb.extract 0 k)).1.put (cb.extract k cb.size)).1) tl = _
    rw [e1]; rfl
  · show (((y.put cb).2 : Nat) : Int) = (((y.put (cb.extract 0 k)).2 : Nat) : Int) + ((((y.put (cb.extract 0 k)).1.put (cb.extract k cb.size)).2 : Nat) : Int)
    omega
  · show (0 : Int) ≤ (((y.put (cb.extract 0 k)).2 : Nat) : Int) ∧ (((y.put (cb.extract 0 k)).2 : Nat) : Int) ≤ 12
    omega
  · show (0 : Int) ≤ ((((y.put (cb.extract 0 k)).1.put (cb.extract k cb.size)).2 : Nat) : Int) ∧ ((((y.put (cb.extract 0 k)).1.put (cb.extract k cb.size)).2 : Nat) : Int) ≤ 12
    omega

set_option maxRecDepth 20000 in
set_option maxHeartbeats 16000000 in
theorem soloPieces_any (A : Option Addr) (c : Nat) (B : Option Addr) (k : Nat) (x : PlayV) (sb : ByteArray) (z : Int) (w : World) (hx : PlayOk w x A B k) (hsb : sb.size ≤ 9223372036854775807) (hz : Lit.wf (.int .u8 z) = true) :
    Calls Tryz.prog 6 #[x.val A c B k, .string sb, .int .u8 z] w fun e w' => e = .returned (.bool true) ∧ Below w.heap.size w w' := by
  have CCB : Hid (∀ W, Calls Tryz.prog 32 #[.string sb, .int .i64 12] W fun e w' => e = .returned (.string (cutM 12 sb)) ∧ W = w') := fun W => cut_any sb 12 W hsb (by omega)
  have HCB : Hid ((cutM 12 sb).size ≤ 12) := cutM_size 12 sb
  obtain ⟨cb, hcb⟩ : ∃ y, cutM 12 sb = y := ⟨_, rfl⟩
  rw [hcb] at CCB HCB
  clear hcb
  have HZB : Hid (0 ≤ z ∧ z ≤ 255) := by
    simp [Lit.wf, IntKind.min, IntKind.max, IntKind.signed, IntKind.bits] at hz
    rw [Hid]; omega
  clear hsb hz
  obtain ⟨hop, hpok, hnow, hrd, hlen, hiok, -, hcap⟩ := hx
  have HLV : Hid (∀ W, Calls Tryz.prog 27 #[x.s.val] W fun e w' => e = .returned (.bool (smallM x.s)) ∧ Below W.heap.size W w') := fun W => light23_any x.s W
  have CFP : Hid (∀ W, Below w.heap.size w W → Calls Tryz.prog 30 #[x.p.val (.slice A x.p.ops.length c), .int .i64 9] W fun e w' => ∃ A' c', e = .returned ((fewP x.p 9).val (.slice A' (fewP x.p 9).ops.length c')) ∧ OpsOwn W.heap.size w' (.slice A' (fewP x.p 9).ops.length c') (fewP x.p 9).ops ∧ Below W.heap.size W w') := fun W hb =>
    fewP_any x.p A c 9 W (hop.below hb) hpok (by omega)
  have CFI : Hid (∀ (most : Nat) (W : World), most ≤ 1000 → Below w.heap.size w W → Calls Tryz.prog 16 #[.slice B x.l.length k, .int .i64 (most : Int)] W fun e w' => ∃ g c', e = .returned (.slice (some ⟨g, 0, none⟩) (fewI x.l most).length c') ∧ w'.ownsRow W.heap.size 46 4 (.slice (some ⟨g, 0, none⟩) (fewI x.l most).length c') (fewI x.l most).length (inVCells (fewI x.l most)) ∧ Below W.heap.size W w') := fun most W hm hb =>
    few22_any B x.l.length k x.l most W rfl (hrd.below hb) hiok hm
  have HRD : Hid (∀ W, Below w.heap.size w W → Rd W B (inVCells x.l)) := fun W hb => hrd.below hb
  have HIO := hid hiok
  have HNOW := hid hnow
  have HCAP := hid hcap
  have HPO := hid (fewP_ok x.p 9 hpok)
  obtain ⟨s, p, now, l, ask⟩ := x
  unfold PlayV.val
  simp only at HLV CFP CFI HRD HIO HNOW HPO HCAP hlen ⊢
  obtain ⟨n, hnn⟩ : ∃ y, l.length = y := ⟨_, rfl⟩
  have HNL := hid hnn
  rw [hnn] at CFI HCAP ⊢
  obtain ⟨m, hmm⟩ : ∃ y, p.ops.length = y := ⟨_, rfl⟩
  have HML := hid hmm
  rw [hmm] at CFP ⊢
  obtain ⟨pf, hpf⟩ : ∃ y, fewP p 9 = y := ⟨_, rfl⟩
  have HPF := hid hpf
  rw [hpf] at CFP HPO
  clear hop hpok hnow hrd hlen hiok hcap hnn hmm hpf
  have HRUN : Hid (∀ (W : World) (A' : Option Addr) (c' b0 : Nat) (AL : Option Addr) (q cl : Nat) (li : List InV), OpsOwn b0 W (.slice A' pf.ops.length c') pf.ops → li.length = q → (∀ i ∈ li, i.ok) → q ≤ 1000 → Rd W AL (inVCells li) →
      Calls Tryz.prog 29 #[s.val, pf.val (.slice A' pf.ops.length c'), .int .i64 now, .slice AL q cl] W fun e w' => ∃ A2 c2, e = .returned (.tuple #[.slice A2 (runO s pf now li).length c2, .int .i64 (runE s pf : Int)]) ∧
        w'.ownsRow W.heap.size 72 9 (.slice A2 (runO s pf now li).length c2) (runO s pf now li).length (outVCells (runO s pf now li)) ∧ Below W.heap.size W w') := fun W A' c' b0 AL q cl li h1 h2 h3 h4 h5 =>
    soloRun_any s pf A' c' b0 now AL q cl li W h1 HPO.out HNOW.out h2 h3 h4 h5
  obtain ⟨er, her⟩ : ∃ y, runE s pf = y := ⟨_, rfl⟩
  have HER := hid her
  rw [her] at HRUN
  obtain ⟨x0, hx0⟩ : ∃ y, (newV s pf now).come 0 = y := ⟨_, rfl⟩
  have HRO : Hid (∀ li, runO s pf now li = if er = 0 then runL x0 li else []) := fun li => by rw [← her, ← hx0]; rfl
  obtain ⟨RO, hRO⟩ : ∃ f, runO s pf now = f := ⟨_, rfl⟩
  rw [hRO] at HRUN HRO
  clear her hx0 hRO
  obtain ⟨sm, hsm⟩ : ∃ y, smallM s = y := ⟨_, rfl⟩
  rw [hsm] at HLV
  clear hsm
  obtain ⟨lv, rg, wn, ou, qu, vi⟩ := s
  obtain ⟨nm, dl, jp, ops⟩ := p
  obtain ⟨nm2, dl2, jp2, ops2⟩ := pf
  unfold SetV.val at HLV HRUN
  unfold ProgV.val at CFP HRUN
  simp only at HLV HRUN CFP ⊢
  obtain ⟨m2, hm2⟩ : ∃ y, ops2.length = y := ⟨_, rfl⟩
  rw [hm2] at CFP HRUN
  clear hm2 HML HER HPO HNOW
  have CFH : Hid (∀ W, Below w.heap.size w W → Calls Tryz.prog 16 #[.slice B n k, .int .i64 8] W fun e w' => ∃ g c', e = .returned (.slice (some ⟨g, 0, none⟩) (fewI l 8).length c') ∧ w'.ownsRow W.heap.size 46 4 (.slice (some ⟨g, 0, none⟩) (fewI l 8).length c') (fewI l 8).length (inVCells (fewI l 8)) ∧ Below W.heap.size W w') := fun W hb => CFI.out 8 W (by omega) hb
  have HI1 : Hid (∀ i ∈ fewI l 8, i.ok) := fewI_ok HIO.out 8
  have HL1 : Hid ((fewI l 8).length ≤ 8) := fewI_length l 8
  have HTW : Hid (fewI (fewI l 8) 8 = fewI l 8) := fewI_twice l 8 8 (Nat.le_refl _)
  obtain ⟨l1, hl1⟩ : ∃ y, fewI l 8 = y := ⟨_, rfl⟩
  rw [hl1] at CFH HI1 HL1 HTW
  obtain ⟨n1, hn1⟩ : ∃ y, l1.length = y := ⟨_, rfl⟩
  have HN1 := hid hn1
  rw [hn1] at CFH HL1
  have CFG : Hid (∀ (W : World) (g cg : Nat), Rd W (some ⟨g, 0, none⟩) (inVCells l1) → Calls Tryz.prog 16 #[.slice (some ⟨g, 0, none⟩) n1 cg, .int .i64 8] W fun e w' => ∃ g c', e = .returned (.slice (some ⟨g, 0, none⟩) n1 c') ∧ w'.ownsRow W.heap.size 46 4 (.slice (some ⟨g, 0, none⟩) n1 c') n1 (inVCells l1) ∧ Below W.heap.size W w') := fun W g cg hr => by
    have := few22_any (some ⟨g, 0, none⟩) n1 cg l1 8 W HN1.out hr HI1.out (by omega)
    rw [HTW.out, HN1.out] at this
    exact this
  have CFT : Hid (8 < n → ∃ bb ob, B = some ⟨bb, ob, none⟩ ∧ ∀ (W : World) (kk : Nat), Below w.heap.size w W → Calls Tryz.prog 16 #[.slice (some ⟨bb, ob + 32, none⟩) (n - 8) kk, .int .i64 16] W fun e w' => ∃ g c', e = .returned (.slice (some ⟨g, 0, none⟩) (fewI (l.drop 8) 16).length c') ∧ w'.ownsRow W.heap.size 46 4 (.slice (some ⟨g, 0, none⟩) (fewI (l.drop 8) 16).length c') (fewI (l.drop 8) 16).length (inVCells (fewI (l.drop 8) 16)) ∧ Below W.heap.size W w') := fun hbig => by
    obtain ⟨bb, ob, hB, hbl, hcc⟩ := (HRD.out w (Below.refl _ _)).at (by rw [inVCells_length, HNL.out]; omega)
    refine ⟨bb, ob, hB, fun W kk hb => few22_any _ _ kk (l.drop 8) 16 W (by rw [List.length_drop, HNL.out]) ?_ (fun i hi => HIO.out i (List.mem_of_mem_drop hi)) (by omega)⟩
    refine .inr ⟨bb, ob + 32, rfl, Nat.lt_of_lt_of_le hbl hb.size, fun j u hu => ?_⟩
    rw [inVCells_drop] at hu
    rw [Nat.add_assoc]
    exact (World.cell?_of_block (hb.block bb hbl)).trans (hcc _ u (by rw [List.getElem?_drop] at hu; exact hu))
  have HIT : Hid (∀ i ∈ fewI (l.drop 8) 16, i.ok) := fewI_ok (fun i hi => HIO.out i (List.mem_of_mem_drop hi)) 16
  have HLT : Hid ((fewI (l.drop 8) 16).length ≤ 16) := fewI_length _ 16
  obtain ⟨tl, hlt⟩ : ∃ y, fewI (l.drop 8) 16 = y := ⟨_, rfl⟩
  rw [hlt] at CFT HIT HLT
  clear hl1 hn1 hlt CFI HRD HIO HNL HPF HTW
  obtain ⟨wa, hwa⟩ : ∃ W, w.alloc (.cells #[.int .i64 lv, .int .i64 rg, .int .i64 wn, .int .i64 ou, .int .i64 qu, .int .i64 vi, .string nm, .int .i64 dl, .int .i64 jp, .slice A m c, .int .i64 now, .slice B n k, .int .i64 ask] 29) = W := ⟨_, rfl⟩
  have HBA : Hid (Below w.heap.size w wa) := by rw [← hwa]; exact (Below.refl _ _).alloc (Nat.le_refl _) _
  have HXA : Hid (Blk wa w.heap.size 29 #[.int .i64 lv, .int .i64 rg, .int .i64 wn, .int .i64 ou, .int .i64 qu, .int .i64 vi, .string nm, .int .i64 dl, .int .i64 jp, .slice A m c, .int .i64 now, .slice B n k, .int .i64 ask]) := by rw [← hwa]; exact Blk.new w _ _
  have HWA := hid hwa
  clear hwa
  obtain ⟨gb, hgb⟩ : ∃ y, w.heap.size = y := ⟨_, rfl⟩
  have HGB := hid hgb
  rw [hgb] at HXA
  clear hgb
  go_enter Tryz.func6, Tryz.ntmps6
  go_upto_region 1 with fail
  rw [HWA.out, HGB.out]
  clear HWA
  have x0 : wa.cell? ⟨gb, 0, none⟩ = some (.int .i64 lv) := HXA.out.cell 0
  have x1 : wa.cell? ⟨gb, 1, none⟩ = some (.int .i64 rg) := HXA.out.cell 1
  have x2 : wa.cell? ⟨gb, 2, none⟩ = some (.int .i64 wn) := HXA.out.cell 2
  have x3 : wa.cell? ⟨gb, 3, none⟩ = some (.int .i64 ou) := HXA.out.cell 3
  have x4 : wa.cell? ⟨gb, 4, none⟩ = some (.int .i64 qu) := HXA.out.cell 4
  have x5 : wa.cell? ⟨gb, 5, none⟩ = some (.int .i64 vi) := HXA.out.cell 5
  have hlx := HXA.out.lt
  go_wp2_with fail
  refine (HLV.out _).mono ?_
  rintro en w1 ⟨rfl, hb⟩
  have HB1 : Hid (Below w.heap.size w w1) := HBA.out.trans (hb.mono HBA.out.size)
  have HX1 := hid (HXA.out.below hb HXA.out.lt)
  clear hb x0 x1 x2 x3 x4 x5 hlx HXA HBA HLV
  cases sm
  · go_wp2_with fail
    refine (lives23_any _).mono ?_
    rintro en w2 ⟨rfl, hb⟩
    have HB2 := hid (HB1.out.trans (hb.mono HB1.out.size))
    clear hb
    go_wp2_with fail
    go_ret
    exact ⟨rfl, HB2.out⟩
  go_wp2_with fail
  refine (CCB.out _).mono ?_
  rintro en w1' ⟨rfl, rfl⟩
  have hzz := HZB.out
  have hcs : (cb.size : Int) ≤ 12 := by have := HCB.out; omega
  go_upto_region 5 with fail
  obtain ⟨kk, hkk⟩ : ∃ y : Nat, z % ((cb.size : Int) + 1) = (y : Int) := ⟨(z % ((cb.size : Int) + 1)).toNat, by have := Int.emod_nonneg z (b := (cb.size : Int) + 1) (by omega); omega⟩
  rw [hkk]
  have hk1 : kk ≤ cb.size := by have := Int.emod_lt_of_pos z (b := (cb.size : Int) + 1) (by omega); omega
  have hk2 : (kk : Int) ≤ (cb.size : Int) := by omega
  have HKK := hid hk1
  have HMO : Hid (∀ i ∈ ([⟨1, cb, 0, 0⟩] : List InV), i.ok) := fun i hi => by
    rw [List.mem_singleton] at hi; subst hi; exact in_ok _ _ _ _ (by have := HCB.out; omega) i6_0 i6_0
  have HMQ : Hid (∀ i ∈ ([⟨1, cb.extract 0 kk, 0, 0⟩, ⟨1, cb.extract kk cb.size, 0, 0⟩] : List InV), i.ok) := fun i hi => by
    have h12 := HCB.out
    rcases List.mem_cons.1 hi with rfl | hi
    · exact in_ok _ _ _ _ (by rw [ByteArray.size_extract]; omega) i6_0 i6_0
    · rw [List.mem_singleton] at hi; subst hi; exact in_ok _ _ _ _ (by rw [ByteArray.size_extract]; omega) i6_0 i6_0
  clear hkk hzz
  have x11 : w1.cell? ⟨gb, 11, none⟩ = some (.slice B n k) := HX1.out.cell 11
  have hlx := HX1.out.lt
  have CL := hid (CFH.out w1 HB1.out)
  go_wp2_with fail
  refine CL.out.mono ?_
  rintro en w3 ⟨gh, ch, rfl, ho, hb⟩
  have HB3 := hid (HB1.out.trans (hb.mono HB1.out.size))
  have HX3 := hid (HX1.out.below hb HX1.out.lt)
  have HH3 := hid (own_Rd ho)
  clear ho hb CL x11 hlx HB1 HX1 
  go_upto_region 6 with fail
  obtain ⟨w4, hw4⟩ : ∃ W, w3.alloc (.cells #[] 46) = W := ⟨_, rfl⟩
  have hb4 : Below w3.heap.size w3 w4 := by rw [← hw4]; exact (Below.refl _ _).alloc (Nat.le_refl _) _
  rw [hw4]
  clear hw4
  have HB4 := hid (HB3.out.trans (hb4.mono HB3.out.size))
  have HX4 := hid (HX3.out.below hb4 HX3.out.lt)
  have HH4 := hid (HH3.out.below hb4)
  clear hb4 HB3 HX3 HH3 
  obtain ⟨ge, hge⟩ : ∃ y, w3.heap.size = y := ⟨_, rfl⟩
  rw [hge]
  clear hge
  have x11 : w4.cell? ⟨gb, 11, none⟩ = some (.slice B n k) := HX4.out.cell 11
  have hlx := HX4.out.lt
  rcases Nat.lt_or_ge 8 n with hbig | hbig
  case' inl =>
    obtain ⟨bb, ob, rfl, CT⟩ := CFT.out hbig
    obtain ⟨n9, hn9⟩ : ∃ y, n - 8 = y := ⟨_, rfl⟩
    obtain ⟨k9, hk9⟩ : ∃ y, k - 8 = y := ⟨_, rfl⟩
    obtain ⟨o9, ho9⟩ : ∃ y, ob + 32 = y := ⟨_, rfl⟩
    rw [hn9, ho9] at CT
    have hsl : ∀ W : World, (Instr.slice 27 (.slice (some ⟨bb, ob, none⟩) n k) (some (.int .i64 8)) none none).run Tryz.prog W = .ok (.slice (some ⟨bb, o9, none⟩) n9 k9) W := fun W => by
      rw [← hn9, ← hk9, ← ho9]; exact slice_in bb ob n k 8 W (by omega) HCAP.out
    have CT := hid CT
    have hb2 : (8 : Int) < (n : Int) := by omega
    clear hn9 hk9 ho9
    obtain ⟨nt, hnt⟩ : ∃ y, tl.length = y := ⟨_, rfl⟩
    rw [hnt] at CT HLT
    have HTN : Hid (tl.length = nt ∧ nt ≤ 16 ∧ ∀ i ∈ tl, i.ok) := ⟨hnt, HLT.out, HIT.out⟩
    clear CFT hnt HLT HIT
    go_wp2_with fail
    refine (CT.out w4 _ HB4.out).mono ?_
    rintro en wD ⟨gt, ct, rfl, ho, hb⟩
    have HBD := hid (HB4.out.trans (hb.mono HB4.out.size))
    have HXD := hid (HX4.out.below hb HX4.out.lt)
    have HHD := hid (HH4.out.below hb)
    have HTD : Hid (∀ j u, (inVCells tl)[j]? = some u → wD.cell? ⟨gt, j, none⟩ = some u) := own_cells ho
    clear ho hb CT x11 hlx HB4 HX4 HH4 hb2 hsl hbig 
    go_upto_region 8 with fail
  case' inr =>
    have hb2 : ¬ (8 : Int) < (n : Int) := by omega
    clear CFT HLT HIT hbig
    go_upto_region 8 with fail
    obtain ⟨gt, hgt⟩ : ∃ y, ge = y := ⟨_, rfl⟩
    rw [hgt]
    obtain ⟨nt, ct, hte, hn0⟩ : ∃ a b : Nat, Value.slice (some ⟨gt, 0, none⟩) 0 0 = Value.slice (some ⟨gt, 0, none⟩) a b ∧ a = 0 := ⟨0, 0, rfl, rfl⟩
    rw [hte]
    obtain ⟨tl, htl⟩ : ∃ y : List InV, y = [] := ⟨_, rfl⟩
    have HTN : Hid (tl.length = nt ∧ nt ≤ 16 ∧ ∀ i ∈ tl, i.ok) := by rw [htl, hn0]; exact ⟨rfl, by omega, fun i hi => by cases hi⟩
    obtain ⟨wD, hwD⟩ : ∃ y, w4 = y := ⟨_, rfl⟩
    rw [hwD] at HB4 HX4 HH4  ⊢
    have HTD : Hid (∀ j u, (inVCells tl)[j]? = some u → wD.cell? ⟨gt, j, none⟩ = some u) := fun j u hu => by rw [htl] at hu; cases hu
    have HBD := HB4; have HXD := HX4; have HHD := HH4
    clear hte hn0 htl hwD hgt hb2 HB4 HX4 HH4 x11 hlx 
  all_goals
    have HB_wD : Hid (Below wD.heap.size wD wD) := Below.refl _ _
    have CL := hid (CFG.out wD gh ch (HHD.out.below HB_wD.out))
    go_wp2_with fail
    refine CL.out.mono ?_
    rintro en wd ⟨gA, cA, rfl, ho, hb⟩
    have HA_wd : Hid (wd.ownsRow wD.heap.size 46 4 (.slice (some ⟨gA, 0, none⟩) n1 cA) n1 (inVCells l1)) := own_base ho HB_wD.out.size
    have HB_wd : Hid (Below wD.heap.size wD wd) := HB_wD.out.trans (hb.mono HB_wD.out.size)
    clear ho hb CL
    have hbw : wD.heap.size ≤ wd.heap.size := HB_wd.out.size
    have hn16 := HL1.out; have hnt := HTN.out.2.1
    go_wp2_with (at_builtin; refine wpList_append1K _ rfl _ _ 27 rfl wD.heap.size 46 _ 4 40 Tryz.underlying27 Tryz.infoIn rfl (by decide) _ _ _ rfl HA_wd.out 1 [.int .i64 1, .string cb, .int .i64 0, .int .i64 0] rfl rfl rfl ?_ (by decide) hbw ?_)
    · omega
    intro g7 c7 wf hown hkk hff
    have HA_wf : Hid (wf.ownsRow wD.heap.size 46 4 (.slice (some ⟨g7, 0, none⟩) (n1 + 1) c7) (n1 + 1) (inVCells (l1 ++ [⟨1, cb, 0, 0⟩]))) := by rw [Hid, inVCells_append]; exact hown
    have HB_wf : Hid (Below wD.heap.size wD wf) := own_under HA_wd.out HB_wd.out (Nat.le_refl _) hbw hkk
    clear hown hkk hff hbw hn16 hnt
    have hbw : wD.heap.size ≤ wf.heap.size := HB_wf.out.size
    have hn16 := HL1.out; have hnt := HTN.out.2.1
    go_wp2_with (at_builtin; refine wpList_appendK _ rfl _ _ 27 rfl wD.heap.size 46 _ 4 40 Tryz.underlying27 Tryz.infoIn rfl (by decide) _ (n1 + 1) _ rfl HA_wf.out ⟨gt, 0, none⟩ (nt) _ (inVCells tl) rfl (by rw [inVCells_length, HTN.out.1]) (fun j u hu => by rw [in_add]; exact cells_up HB_wf.out HTD.out j u hu) (inV_one tl) ?_ (by decide) hbw ?_)
    · omega
    intro AO cO wg hown hkk hff
    have HA_wg : Hid (wg.ownsRow wD.heap.size 46 4 (.slice AO (n1 + 1 + nt) cO) (n1 + 1 + nt) (inVCells (l1 ++ [⟨1, cb, 0, 0⟩] ++ tl))) := by rw [Hid, inVCells_append (l1 ++ ([⟨1, cb, 0, 0⟩] : List InV)) tl]; exact hown
    have HB_wg : Hid (Below wD.heap.size wD wg) := own_under HA_wf.out HB_wf.out (Nat.le_refl _) hbw hkk
    clear hown hkk hff hbw hn16 hnt
    go_upto_region 9 with fail
    clear HA_wd HA_wf HB_wd HB_wf HB_wD
    obtain ⟨wE, hwe⟩ : ∃ y, wg = y := ⟨_, rfl⟩
    rw [hwe] at HA_wg HB_wg ⊢
    clear hwe
    have HBE := hid (HBD.out.trans (HB_wg.out.mono HBD.out.size))
    have HXE := hid (HXD.out.below HB_wg.out HXD.out.lt)
    have HHE := hid (HHD.out.below HB_wg.out)
    have HTE := hid (cells_up HB_wg.out HTD.out)
    have HLO : Hid (Rd wE AO (inVCells (l1 ++ [⟨1, cb, 0, 0⟩] ++ tl))) := own_Rd HA_wg.out
    obtain ⟨nO, hnO⟩ : ∃ y, n1 + 1 + nt = y := ⟨_, rfl⟩
    rw [hnO]
    have HNO := hid hnO
    clear hnO HA_wg HB_wg HBD HXD HHD HTD  
    refine wp_region_ordT wE.heap.size [] (.val 0 (.val 2 (.val 3 (.val 4 (.val 5 (.val 6 (.val 7 (.val 8 (.val 9 (.val 12 (.two 1 (.op 10 (.op 11 (.op 13 (.val 14 (.nil))))) 10 (.op 1 (.op 11 (.op 13 (.val 14 (.nil)))))))))))))))) (by kernel_rfl) (by kernel_rfl) ?_
    obtain ⟨wc, hwc⟩ : ∃ W, wE.drewN 1 = W := ⟨_, rfl⟩
    have HB_wc : Hid (Below wE.heap.size wE wc) := by rw [← hwc]; exact drewN_below wE 1
    rw [hwc]
    clear hwc
    refine wpOrdT_val rfl rfl ?_
    go_big_quiet_step (fail)
    refine wpQuiet_nil ?_
    refine wpOrdT_val rfl rfl ?_
    go_big_quiet_step (fail)
    refine wpQuiet_nil ?_
    refine wpOrdT_val rfl rfl ?_
    go_big_quiet_step (fail)
    refine wpQuiet_nil ?_
    refine wpOrdT_val rfl rfl ?_
    go_big_quiet_step (fail)
    refine wpQuiet_nil ?_
    refine wpOrdT_val rfl rfl ?_
    go_big_quiet_step (fail)
    refine wpQuiet_nil ?_
    refine wpOrdT_val rfl rfl ?_
    go_big_quiet_step (fail)
    refine wpQuiet_nil ?_
    refine wpOrdT_val rfl rfl ?_
    go_big_quiet_step (fail)
    refine wpQuiet_nil ?_
    refine wpOrdT_val rfl rfl ?_
    go_big_quiet_step (fail)
    refine wpQuiet_nil ?_
    refine wpOrdT_val rfl rfl ?_
    go_big_quiet_step (fail)
    refine wpQuiet_nil ?_
    refine wpOrdT_val rfl rfl ?_
    go_big_quiet_step (fail)
    refine wpQuiet_nil ?_
    refine wpOrdT_two rfl rfl ?_ ?_
    case' refine_1 =>
      have CL := hid (CFG.out wc gh ch (HHE.out.below HB_wc.out))
      go_wp2_with fail
      refine CL.out.mono ?_
      rintro en wd ⟨gA, cA, rfl, ho, hb⟩
      have HA_wd : Hid (wd.ownsRow wE.heap.size 46 4 (.slice (some ⟨gA, 0, none⟩) n1 cA) n1 (inVCells l1)) := own_base ho HB_wc.out.size
      have HB_wd : Hid (Below wE.heap.size wE wd) := HB_wc.out.trans (hb.mono HB_wc.out.size)
      clear ho hb CL
      go_wp2_with fail
      refine KT.keep (inBW HB_wd.out) ?_
      refine wpOrdT_op rfl ?_
      go_wp2_with fail
      obtain ⟨we, hwn⟩ : ∃ W, wd.alloc (.cells #[.int .i64 1, .string (cb.extract 0 kk), .int .i64 0, .int .i64 0, .int .i64 1, .string (cb.extract kk cb.size), .int .i64 0, .int .i64 0] 46) = W := ⟨_, rfl⟩
      have hbn : Below wd.heap.size wd we := by rw [← hwn]; exact (Below.refl _ _).alloc (Nat.le_refl _) _
      have HM_we : Hid (Blk we wd.heap.size 46 #[.int .i64 1, .string (cb.extract 0 kk), .int .i64 0, .int .i64 0, .int .i64 1, .string (cb.extract kk cb.size), .int .i64 0, .int .i64 0]) := by rw [← hwn]; exact Blk.new _ _ _
      rw [hwn]
      clear hwn
      have HB_we : Hid (Below wE.heap.size wE we) := HB_wd.out.trans (hbn.mono HB_wd.out.size)
      have HA_we := hid (own_below HA_wd.out hbn)
      obtain ⟨gM, hgM⟩ : ∃ y, wd.heap.size = y := ⟨_, rfl⟩
      rw [hgM] at HM_we ⊢
      clear hgM hbn
    case' refine_2 =>
      go_wp2_with fail
      obtain ⟨wd, hwn⟩ : ∃ W, wc.alloc (.cells #[.int .i64 1, .string (cb.extract 0 kk), .int .i64 0, .int .i64 0, .int .i64 1, .string (cb.extract kk cb.size), .int .i64 0, .int .i64 0] 46) = W := ⟨_, rfl⟩
      have hbn : Below wc.heap.size wc wd := by rw [← hwn]; exact (Below.refl _ _).alloc (Nat.le_refl _) _
      have HM_wd : Hid (Blk wd wc.heap.size 46 #[.int .i64 1, .string (cb.extract 0 kk), .int .i64 0, .int .i64 0, .int .i64 1, .string (cb.extract kk cb.size), .int .i64 0, .int .i64 0]) := by rw [← hwn]; exact Blk.new _ _ _
      rw [hwn]
      clear hwn
      have HB_wd : Hid (Below wE.heap.size wE wd) := HB_wc.out.trans (hbn.mono HB_wc.out.size)
      obtain ⟨gM, hgM⟩ : ∃ y, wc.heap.size = y := ⟨_, rfl⟩
      rw [hgM] at HM_wd ⊢
      clear hgM hbn
      refine KT.keep (inBW HB_wd.out) ?_
      refine wpOrdT_op rfl ?_
      have CL := hid (CFG.out wd gh ch (HHE.out.below HB_wd.out))
      go_wp2_with fail
      refine CL.out.mono ?_
      rintro en we ⟨gA, cA, rfl, ho, hb⟩
      have HA_we : Hid (we.ownsRow wE.heap.size 46 4 (.slice (some ⟨gA, 0, none⟩) n1 cA) n1 (inVCells l1)) := own_base ho HB_wd.out.size
      have HB_we : Hid (Below wE.heap.size wE we) := HB_wd.out.trans (hb.mono HB_wd.out.size)
      have HM_we := hid (HM_wd.out.below hb HM_wd.out.lt)
      clear ho hb CL
      go_wp2_with fail
    all_goals
      refine KT.keep (inBW HB_we.out) ?_
      refine wpOrdT_op rfl ?_
      have hbw : wE.heap.size ≤ we.heap.size := HB_we.out.size
      have hn16 := HL1.out; have hnt := HTN.out.2.1
      go_wp2_with (at_builtin; refine wpList_appendK _ rfl _ _ 27 rfl wE.heap.size 46 _ 4 40 Tryz.underlying27 Tryz.infoIn rfl (by decide) _ (n1) _ rfl HA_we.out ⟨gM, 0, none⟩ (2) _ (inVCells [⟨1, cb.extract 0 kk, 0, 0⟩, ⟨1, cb.extract kk cb.size, 0, 0⟩]) rfl (by rw [inVCells_length]; rfl) (fun j u hu => by rw [in_add]; exact blk_cells HM_we.out j u hu) (inV_one [⟨1, cb.extract 0 kk, 0, 0⟩, ⟨1, cb.extract kk cb.size, 0, 0⟩]) ?_ (by decide) hbw ?_)
      · omega
      intro A7 c7 wf hown hkk hff
      have HA_wf : Hid (wf.ownsRow wE.heap.size 46 4 (.slice A7 (n1 + 2) c7) (n1 + 2) (inVCells (l1 ++ [⟨1, cb.extract 0 kk, 0, 0⟩, ⟨1, cb.extract kk cb.size, 0, 0⟩]))) := by rw [Hid, inVCells_append]; exact hown
      have HB_wf : Hid (Below wE.heap.size wE wf) := own_under HA_we.out HB_we.out (Nat.le_refl _) hbw hkk
      clear hown hkk hff hbw hn16 hnt
      go_wp2_with fail
      refine KT.keep (inBW HB_wf.out) ?_
      refine wpOrdT_op rfl ?_
      have hbw : wE.heap.size ≤ wf.heap.size := HB_wf.out.size
      have hn16 := HL1.out; have hnt := HTN.out.2.1
      go_wp2_with (at_builtin; refine wpList_appendK _ rfl _ _ 27 rfl wE.heap.size 46 _ 4 40 Tryz.underlying27 Tryz.infoIn rfl (by decide) _ (n1 + 2) _ rfl HA_wf.out ⟨gt, 0, none⟩ (nt) _ (inVCells tl) rfl (by rw [inVCells_length, HTN.out.1]) (fun j u hu => by rw [in_add]; exact cells_up HB_wf.out HTE.out j u hu) (inV_one tl) ?_ (by decide) hbw ?_)
      · omega
      intro AQ cQ wg hown hkk hff
      have HA_wg : Hid (wg.ownsRow wE.heap.size 46 4 (.slice AQ (n1 + 2 + nt) cQ) (n1 + 2 + nt) (inVCells (l1 ++ [⟨1, cb.extract 0 kk, 0, 0⟩, ⟨1, cb.extract kk cb.size, 0, 0⟩] ++ tl))) := by rw [Hid, inVCells_append (l1 ++ ([⟨1, cb.extract 0 kk, 0, 0⟩, ⟨1, cb.extract kk cb.size, 0, 0⟩] : List InV)) tl]; exact hown
      have HB_wg : Hid (Below wE.heap.size wE wg) := own_under HA_wf.out HB_wf.out (Nat.le_refl _) hbw hkk
      clear hown hkk hff hbw hn16 hnt
      go_wp2_with fail
      refine KT.keep (inBW HB_wg.out) ?_
      refine wpOrdT_val rfl rfl ?_
      go_big_quiet_step (fail)
      refine wpQuiet_nil ?_
      refine wpOrdT_nil ?_
      clear HA_we HM_we HA_wf HB_we HB_wf HB_wc HB_wd
      obtain ⟨wG, hwe⟩ : ∃ y, wg = y := ⟨_, rfl⟩
      rw [hwe] at HA_wg HB_wg ⊢
      clear hwe
      have HBG := hid (HBE.out.trans (HB_wg.out.mono HBE.out.size))
      have HXG := hid (HXE.out.below HB_wg.out HXE.out.lt)
      have HHG := hid (HHE.out.below HB_wg.out)
      have HTG := hid (cells_up HB_wg.out HTE.out)
      have HLQ : Hid (Rd wG AQ (inVCells (l1 ++ [⟨1, cb.extract 0 kk, 0, 0⟩, ⟨1, cb.extract kk cb.size, 0, 0⟩] ++ tl))) := own_Rd HA_wg.out
      have HLO2 := hid (HLO.out.below HB_wg.out)
      obtain ⟨nQ, hnQ⟩ : ∃ y, n1 + 2 + nt = y := ⟨_, rfl⟩
      rw [hnQ]
      have HNQ := hid hnQ
      clear hnQ HA_wg HB_wg HBE HXE HHE HTE  HLO
      go_upto_region 10 with fail
      have X0 : ∀ q : BW wG.heap.size wG, q.1.cell? ⟨gb, 0, none⟩ = some (.int .i64 lv) := fun q => q.cellAt HXG.out.lt (HXG.out.cell 0)
      have X1 : ∀ q : BW wG.heap.size wG, q.1.cell? ⟨gb, 1, none⟩ = some (.int .i64 rg) := fun q => q.cellAt HXG.out.lt (HXG.out.cell 1)
      have X2 : ∀ q : BW wG.heap.size wG, q.1.cell? ⟨gb, 2, none⟩ = some (.int .i64 wn) := fun q => q.cellAt HXG.out.lt (HXG.out.cell 2)
      have X3 : ∀ q : BW wG.heap.size wG, q.1.cell? ⟨gb, 3, none⟩ = some (.int .i64 ou) := fun q => q.cellAt HXG.out.lt (HXG.out.cell 3)
      have X4 : ∀ q : BW wG.heap.size wG, q.1.cell? ⟨gb, 4, none⟩ = some (.int .i64 qu) := fun q => q.cellAt HXG.out.lt (HXG.out.cell 4)
      have X5 : ∀ q : BW wG.heap.size wG, q.1.cell? ⟨gb, 5, none⟩ = some (.int .i64 vi) := fun q => q.cellAt HXG.out.lt (HXG.out.cell 5)
      have X6 : ∀ q : BW wG.heap.size wG, q.1.cell? ⟨gb, 6, none⟩ = some (.string nm) := fun q => q.cellAt HXG.out.lt (HXG.out.cell 6)
      have X7 : ∀ q : BW wG.heap.size wG, q.1.cell? ⟨gb, 7, none⟩ = some (.int .i64 dl) := fun q => q.cellAt HXG.out.lt (HXG.out.cell 7)
      have X8 : ∀ q : BW wG.heap.size wG, q.1.cell? ⟨gb, 8, none⟩ = some (.int .i64 jp) := fun q => q.cellAt HXG.out.lt (HXG.out.cell 8)
      have X9 : ∀ q : BW wG.heap.size wG, q.1.cell? ⟨gb, 9, none⟩ = some (.slice A m c) := fun q => q.cellAt HXG.out.lt (HXG.out.cell 9)
      have X10 : ∀ q : BW wG.heap.size wG, q.1.cell? ⟨gb, 10, none⟩ = some (.int .i64 now) := fun q => q.cellAt HXG.out.lt (HXG.out.cell 10)
      refine wp_region_ordT wG.heap.size [] (.val 0 (.val 1 (.val 2 (.val 3 (.val 5 (.val 6 (.val 7 (.op 4 (.op 8 (.val 9 (.val 10 (.val 11 (.val 12 (.val 13 (.nil))))))))))))))) (by kernel_rfl) (by kernel_rfl) ?_
      obtain ⟨wc, hwc⟩ : ∃ W, wG.drewN 1 = W := ⟨_, rfl⟩
      have HBW : Hid (Below wG.heap.size wG wc) := by rw [← hwc]; exact drewN_below wG 1
      rw [hwc]
      clear hwc
      refine wpOrdT_val rfl rfl ?_
      go_big_quiet_step (fail)
      refine wpQuiet_nil ?_
      refine wpOrdT_load rfl rfl (inBW HBW.out) ?_
      go_big_quiet_step (fail)
      refine wpQuiet_nil ?_
      refine wpOrdT_val rfl rfl ?_
      go_big_quiet_step (fail)
      refine wpQuiet_nil ?_
      refine wpOrdT_load rfl rfl (inBW HBW.out) ?_
      go_big_quiet_step (fail)
      refine wpQuiet_nil ?_
      refine wpOrdT_val rfl rfl ?_
      go_big_quiet_step (fail)
      refine wpQuiet_nil ?_
      refine wpOrdT_load rfl rfl (inBW HBW.out) ?_
      go_big_quiet_step (fail)
      refine wpQuiet_nil ?_
      refine wpOrdT_val rfl rfl ?_
      go_big_quiet_step (fail)
      refine wpQuiet_nil ?_
      refine wpOrdT_op rfl ?_
      have CP := hid (CFP.out wc (HBG.out.trans (HBW.out.mono HBG.out.size)))
      go_wp2_with fail
      refine CP.out.mono ?_
      rintro en wd ⟨A3, c3, rfl, ho, hb⟩
      have HO3 := hid ho
      have HBX : Hid (Below wG.heap.size wG wd) := HBW.out.trans (hb.mono HBW.out.size)
      clear ho hb CP
      go_wp2_with fail
      refine KT.keep (inBW HBX.out) ?_
      refine wpOrdT_op rfl ?_
      have CR := HRUN.out wd A3 c3 _ AO nO cO (l1 ++ [⟨1, cb, 0, 0⟩] ++ tl) HO3.out (by rw [← HNO.out, List.length_append, List.length_append, HN1.out, HTN.out.1]; rfl) (fun i hi => (List.mem_append.1 hi).elim (fun hi => (List.mem_append.1 hi).elim (HI1.out i) (HMO.out i)) (HTN.out.2.2 i)) (by have := HL1.out; have := HTN.out.2.1; have := HNO.out; omega) (HLO2.out.below HBX.out)
      obtain ⟨nx, hnq⟩ : ∃ y, (RO (l1 ++ [⟨1, cb, 0, 0⟩] ++ tl)).length = y := ⟨_, rfl⟩
      rw [hnq] at CR
      have HNx := hid hnq
      clear hnq
      have CR := hid CR
      go_wp2_with fail
      refine CR.out.mono ?_
      rintro en wJ ⟨Ax, cx, rfl, ho, hb⟩
      have HRx := hid (own_base ho HBX.out.size)
      have HBX : Hid (Below wG.heap.size wG wJ) := HBX.out.trans (hb.mono HBX.out.size)
      clear ho hb CR
      go_wp2_with fail
      refine KT.keep (inBW HBX.out) ?_
      refine wpOrdT_val rfl rfl ?_
      go_big_quiet_step (fail)
      refine wpQuiet_nil ?_
      refine wpOrdT_val rfl rfl ?_
      go_big_quiet_step (fail)
      refine wpQuiet_nil ?_
      refine wpOrdT_val rfl rfl ?_
      go_big_quiet_step (fail)
      refine wpQuiet_nil ?_
      refine wpOrdT_val rfl rfl ?_
      go_big_quiet_step (fail)
      refine wpQuiet_nil ?_
      refine wpOrdT_val rfl rfl ?_
      go_big_quiet_step (fail)
      refine wpQuiet_nil ?_
      refine wpOrdT_nil ?_
      clear X0 X1 X2 X3 X4 X5 X6 X7 X8 X9 X10 HO3
      have HBJ := hid (HBG.out.trans (HBX.out.mono HBG.out.size))
      have HXJ := hid (HXG.out.below HBX.out HXG.out.lt)
      have HLQ2 := hid (HLQ.out.below HBX.out)
      clear HLQ HLO2 HHG HTG
      clear HBG HXG HBX HBW
      go_upto_region 11 with fail
      have X0 : ∀ q : BW wJ.heap.size wJ, q.1.cell? ⟨gb, 0, none⟩ = some (.int .i64 lv) := fun q => q.cellAt HXJ.out.lt (HXJ.out.cell 0)
      have X1 : ∀ q : BW wJ.heap.size wJ, q.1.cell? ⟨gb, 1, none⟩ = some (.int .i64 rg) := fun q => q.cellAt HXJ.out.lt (HXJ.out.cell 1)
      have X2 : ∀ q : BW wJ.heap.size wJ, q.1.cell? ⟨gb, 2, none⟩ = some (.int .i64 wn) := fun q => q.cellAt HXJ.out.lt (HXJ.out.cell 2)
      have X3 : ∀ q : BW wJ.heap.size wJ, q.1.cell? ⟨gb, 3, none⟩ = some (.int .i64 ou) := fun q => q.cellAt HXJ.out.lt (HXJ.out.cell 3)
      have X4 : ∀ q : BW wJ.heap.size wJ, q.1.cell? ⟨gb, 4, none⟩ = some (.int .i64 qu) := fun q => q.cellAt HXJ.out.lt (HXJ.out.cell 4)
      have X5 : ∀ q : BW wJ.heap.size wJ, q.1.cell? ⟨gb, 5, none⟩ = some (.int .i64 vi) := fun q => q.cellAt HXJ.out.lt (HXJ.out.cell 5)
      have X6 : ∀ q : BW wJ.heap.size wJ, q.1.cell? ⟨gb, 6, none⟩ = some (.string nm) := fun q => q.cellAt HXJ.out.lt (HXJ.out.cell 6)
      have X7 : ∀ q : BW wJ.heap.size wJ, q.1.cell? ⟨gb, 7, none⟩ = some (.int .i64 dl) := fun q => q.cellAt HXJ.out.lt (HXJ.out.cell 7)
      have X8 : ∀ q : BW wJ.heap.size wJ, q.1.cell? ⟨gb, 8, none⟩ = some (.int .i64 jp) := fun q => q.cellAt HXJ.out.lt (HXJ.out.cell 8)
      have X9 : ∀ q : BW wJ.heap.size wJ, q.1.cell? ⟨gb, 9, none⟩ = some (.slice A m c) := fun q => q.cellAt HXJ.out.lt (HXJ.out.cell 9)
      have X10 : ∀ q : BW wJ.heap.size wJ, q.1.cell? ⟨gb, 10, none⟩ = some (.int .i64 now) := fun q => q.cellAt HXJ.out.lt (HXJ.out.cell 10)
      refine wp_region_ordT wJ.heap.size [] (.val 0 (.val 1 (.val 2 (.val 3 (.val 5 (.val 6 (.val 7 (.op 4 (.op 8 (.val 9 (.val 10 (.val 11 (.val 12 (.val 13 (.nil))))))))))))))) (by kernel_rfl) (by kernel_rfl) ?_
      obtain ⟨wc, hwc⟩ : ∃ W, wJ.drewN 1 = W := ⟨_, rfl⟩
      have HBW : Hid (Below wJ.heap.size wJ wc) := by rw [← hwc]; exact drewN_below wJ 1
      rw [hwc]
      clear hwc
      refine wpOrdT_val rfl rfl ?_
      go_big_quiet_step (fail)
      refine wpQuiet_nil ?_
      refine wpOrdT_load rfl rfl (inBW HBW.out) ?_
      go_big_quiet_step (fail)
      refine wpQuiet_nil ?_
      refine wpOrdT_val rfl rfl ?_
      go_big_quiet_step (fail)
      refine wpQuiet_nil ?_
      refine wpOrdT_load rfl rfl (inBW HBW.out) ?_
      go_big_quiet_step (fail)
      refine wpQuiet_nil ?_
      refine wpOrdT_val rfl rfl ?_
      go_big_quiet_step (fail)
      refine wpQuiet_nil ?_
      refine wpOrdT_load rfl rfl (inBW HBW.out) ?_
      go_big_quiet_step (fail)
      refine wpQuiet_nil ?_
      refine wpOrdT_val rfl rfl ?_
      go_big_quiet_step (fail)
      refine wpQuiet_nil ?_
      refine wpOrdT_op rfl ?_
      have CP := hid (CFP.out wc (HBJ.out.trans (HBW.out.mono HBJ.out.size)))
      go_wp2_with fail
      refine CP.out.mono ?_
      rintro en wd ⟨A3, c3, rfl, ho, hb⟩
      have HO3 := hid ho
      have HBX : Hid (Below wJ.heap.size wJ wd) := HBW.out.trans (hb.mono HBW.out.size)
      clear ho hb CP
      go_wp2_with fail
      refine KT.keep (inBW HBX.out) ?_
      refine wpOrdT_op rfl ?_
      have CR := HRUN.out wd A3 c3 _ AQ nQ cQ (l1 ++ [⟨1, cb.extract 0 kk, 0, 0⟩, ⟨1, cb.extract kk cb.size, 0, 0⟩] ++ tl) HO3.out (by rw [← HNQ.out, List.length_append, List.length_append, HN1.out, HTN.out.1]; rfl) (fun i hi => (List.mem_append.1 hi).elim (fun hi => (List.mem_append.1 hi).elim (HI1.out i) (HMQ.out i)) (HTN.out.2.2 i)) (by have := HL1.out; have := HTN.out.2.1; have := HNQ.out; omega) (HLQ2.out.below HBX.out)
      obtain ⟨ny, hnq⟩ : ∃ y, (RO (l1 ++ [⟨1, cb.extract 0 kk, 0, 0⟩, ⟨1, cb.extract kk cb.size, 0, 0⟩] ++ tl)).length = y := ⟨_, rfl⟩
      rw [hnq] at CR
      have HNy := hid hnq
      clear hnq
      have CR := hid CR
      go_wp2_with fail
      refine CR.out.mono ?_
      rintro en wK ⟨Ay, cy, rfl, ho, hb⟩
      have HRy := hid (own_base ho HBX.out.size)
      have HBX : Hid (Below wJ.heap.size wJ wK) := HBX.out.trans (hb.mono HBX.out.size)
      clear ho hb CR
      go_wp2_with fail
      refine KT.keep (inBW HBX.out) ?_
      refine wpOrdT_val rfl rfl ?_
      go_big_quiet_step (fail)
      refine wpQuiet_nil ?_
      refine wpOrdT_val rfl rfl ?_
      go_big_quiet_step (fail)
      refine wpQuiet_nil ?_
      refine wpOrdT_val rfl rfl ?_
      go_big_quiet_step (fail)
      refine wpQuiet_nil ?_
      refine wpOrdT_val rfl rfl ?_
      go_big_quiet_step (fail)
      refine wpQuiet_nil ?_
      refine wpOrdT_val rfl rfl ?_
      go_big_quiet_step (fail)
      refine wpQuiet_nil ?_
      refine wpOrdT_nil ?_
      clear X0 X1 X2 X3 X4 X5 X6 X7 X8 X9 X10 HO3
      have HBK := hid (HBJ.out.trans (HBX.out.mono HBJ.out.size))
      have HXK := hid (HXJ.out.below HBX.out HXJ.out.lt)
      have HRx2 := hid (own_below HRx.out HBX.out)
      clear HLQ2 HRx
      clear HBJ HXJ HBX HBW
      go_upto_region 12 with fail
      by_cases her : er = 0
      · subst her
        have HRQ := hid (fun li => (HRO.out li).trans (if_pos rfl))
        clear HRO HRUN CFP CFG HI1 HMO HMQ HXK HZB
        obtain ⟨o, o1, o2, XT, hX, hY, hTl, hsum, hp0, hq0⟩ := pieces_run x0 l1 tl cb kk HKK.out HCB.out
        have hlx : nx = nO := by rw [← HNx.out, HRQ.out, runL_length, ← HNO.out, List.length_append, List.length_append, HN1.out, HTN.out.1]; rfl
        have hly : ny = nQ := by rw [← HNy.out, HRQ.out, runL_length, ← HNQ.out, List.length_append, List.length_append, HN1.out, HTN.out.1]; rfl
        subst hlx
        subst hly
        have HXL : Hid ((runL x0 l1).length = n1) := by rw [Hid, runL_length, HN1.out]
        have HTL : Hid (XT.length = nt) := by rw [Hid, hTl, HTN.out.1]
        have ox : wK.ownsRow wG.heap.size 72 9 (.slice Ax nx cx) nx (outVCells (runL x0 l1 ++ ([o] ++ XT))) := by have := HRx2.out; rwa [HRQ.out, hX] at this
        have oy : wK.ownsRow wJ.heap.size 72 9 (.slice Ay ny cy) ny (outVCells (runL x0 l1 ++ ([o1, o2] ++ XT))) := by have := HRy.out; rwa [HRQ.out, hY] at this
        clear hX hY hTl HRx2 HRy HRQ HNx HNy
        obtain ⟨XH, hXH⟩ : ∃ y, runL x0 l1 = y := ⟨_, rfl⟩
        rw [hXH] at ox oy HXL
        clear hXH HN1
        have hn1 := HNO.out
        have hn2 := HNQ.out
        obtain ⟨gX, rfl⟩ := own_zero ox (by omega)
        obtain ⟨gY, rfl⟩ := own_zero oy (by omega)
        have hcx := own_cap ox
        have hcy := own_cap oy
        obtain ⟨PX, kx, hsX, hrX⟩ := slice_out gX nx cx (n1 + 1) (by omega) hcx
        obtain ⟨PY, ky, hsY, hrY⟩ := slice_out gY ny cy (n1 + 2) (by omega) hcy
        have hex : nx - (n1 + 1) = nt := by omega
        have hey : ny - (n1 + 2) = nt := by omega
        rw [hex] at hsX hrX
        rw [hey] at hsY hrY
        have HRH1 : Hid (Rd wK (some ⟨gX, 0, none⟩) (outVCells XH)) := by have := own_Rd ox; rw [outVCells_append] at this; exact Rd_left this
        have HRH2 : Hid (Rd wK (some ⟨gY, 0, none⟩) (outVCells XH)) := by have := own_Rd oy; rw [outVCells_append] at this; exact Rd_left this
        have HRT1 : Hid (Rd wK PX (outVCells XT)) := hrX wK (XH ++ [o]) XT (by rw [List.append_assoc]; exact own_Rd ox) (by rw [List.length_append, HXL.out]; rfl) HTL.out
        have HRT2 : Hid (Rd wK PY (outVCells XT)) := hrY wK (XH ++ [o1, o2]) XT (by rw [List.append_assoc]; exact own_Rd oy) (by rw [List.length_append, HXL.out]; rfl) HTL.out
        have CA1 : Hid (∀ (q : BW wK.heap.size wK), Calls Tryz.prog 31 #[.slice (some ⟨gX, 0, none⟩) n1 cx, .slice (some ⟨gY, 0, none⟩) n1 cy] q.1 fun e w' => e = .returned (.bool true) ∧ Below q.1.heap.size q.1 w') := fun q =>
          alike_any _ n1 cx _ n1 cy XH q.1 HXL.out rfl (by have := HL1.out; omega) (HRH1.out.below q.2) (HRH2.out.below q.2)
        have CA2 : Hid (∀ (q : BW wK.heap.size wK), Calls Tryz.prog 31 #[.slice PX nt kx, .slice PY nt ky] q.1 fun e w' => e = .returned (.bool true) ∧ Below q.1.heap.size q.1 w') := fun q =>
          alike_any _ nt kx _ nt ky XT q.1 HTL.out rfl (by have := HTN.out.2.1; omega) (HRT1.out.below q.2) (HRT2.out.below q.2)
        have hs1 : ∀ W : World, (Instr.slice 63 (.slice (some ⟨gX, 0, none⟩) nx cx) (some (.int .i64 ((n1 : Int) + 1))) none none).run Tryz.prog W = .ok (.slice PX nt kx) W := fun W => by have := hsX W; simpa using this
        have hs2 : ∀ W : World, (Instr.slice 63 (.slice (some ⟨gY, 0, none⟩) ny cy) (some (.int .i64 ((n1 : Int) + 2))) none none).run Tryz.prog W = .ok (.slice PY nt ky) W := fun W => by have := hsY W; simpa using this
        clear hsX hsY
        obtain ⟨pn, pb, pt, pl, pw, pa, pm, ps, pd⟩ := o1
        obtain ⟨qn, qb, qt, ql, qw, qa, qm, qs, qd⟩ := o2
        obtain ⟨rn, rb, rt, rl, rw_, ra, rm, rs, rd⟩ := o
        simp only at hsum hp0 hq0
        subst hsum
        have hXA := elem9 ox (get_one HXL.out)
        have hYA := elem9 oy (get_a HXL.out)
        have hYB := elem9 oy (get_b HXL.out)
        have TXA0 : ∀ q : BW wK.heap.size wK, q.1.cell? ⟨gX, n1 * 9, none⟩ = some (.int .i64 (pn + qn)) := fun q => (hXA q).1
        have TYA0 : ∀ q : BW wK.heap.size wK, q.1.cell? ⟨gY, n1 * 9, none⟩ = some (.int .i64 pn) := fun q => (hYA q).1
        have TYB0 : ∀ q : BW wK.heap.size wK, q.1.cell? ⟨gY, (n1 + 1) * 9, none⟩ = some (.int .i64 qn) := fun q => (hYB q).1
        have hp1 := hp0.1
        have hp2 := hp0.2
        have hq1 := hq0.1
        have hq2 := hq0.2
        clear hrX hrY ox oy HRH1 HRH2 HRT1 HRT2 HXL HTL HTN hXA hYA hYB hp0 hq0
        have hnx1 : (n1 : Int) < (nx : Int) := by omega
        have hny1 : (n1 : Int) + 1 < (ny : Int) := by omega
        have hnx0 : (n1 : Int) < (nx : Int) := by omega
        have hny0 : (n1 : Int) < (ny : Int) := by omega
        have hb1 : n1 ≤ cx := by omega
        have hb2 : n1 ≤ cy := by omega
        have hnn : n1 ≤ 8 := HL1.out
        clear hn1 hn2 hex hey hcx hcy HL1
        go_upto_region 17 with fail
        refine wp_region_below wK.heap.size (by kernel_rfl) (by kernel_rfl) ?_
        repeat (go_big_quiet_step (fail))
        refine wpQuiet_nil ?_
        intro wu hqu
        have HBU : Hid (Below wK.heap.size wK wu) := by obtain ⟨q, rfl⟩ := hqu; exact q.2
        clear hqu TXA0 TYA0 TYB0
        have CB1 : Hid (∀ (q : BW wu.heap.size wu), Calls Tryz.prog 31 #[.slice (some ⟨gX, 0, none⟩) n1 cx, .slice (some ⟨gY, 0, none⟩) n1 cy] q.1 fun e w' => e = .returned (.bool true) ∧ Below q.1.heap.size q.1 w') := fun q => CA1.out ⟨q.1, HBU.out.trans (q.2.mono HBU.out.size)⟩
        have CB2 : Hid (∀ (q : BW wu.heap.size wu), Calls Tryz.prog 31 #[.slice PX nt kx, .slice PY nt ky] q.1 fun e w' => e = .returned (.bool true) ∧ Below q.1.heap.size q.1 w') := fun q => CA2.out ⟨q.1, HBU.out.trans (q.2.mono HBU.out.size)⟩
        have CLV := hid (fun W => lives23_any W)
        go_upto_region 19 with fail
        refine wp_region_below wu.heap.size (by kernel_rfl) (by kernel_rfl) ?_
        iterate 7 (go_big_quiet_step ((go_at_call 31; exact callBWq (Nat.le_refl _) CB1.out _)))
        repeat (go_big_quiet_step (first | (go_at_call 31; exact callBWq (Nat.le_refl _) CB2.out _) | (go_at_call 28; exact callBW (Nat.le_refl _) CLV.out _)))
        refine wpQuiet_nil ?_
        intro wz hqz
        have HBZ : Hid (Below wu.heap.size wu wz) := by obtain ⟨q, rfl⟩ := hqz; exact q.2
        clear hqz
        go_wp2_with fail
        go_ret
        have h1 := HBK.out.trans (HBU.out.mono HBK.out.size)
        exact ⟨rfl, h1.trans (HBZ.out.mono h1.size)⟩
      · have her0 : ((er : Int) == 0) = false := by rw [beq_eq_false_iff_ne]; omega
        have her2 : ¬ ((er : Int) = 0) := by omega
        have her3 : (er == 0) = false := by rw [beq_eq_false_iff_ne]; exact her
        go_wp2_with fail
        refine (lives23_any _).mono ?_
        rintro en wm ⟨rfl, hb⟩
        have HB6 := hid (HBK.out.trans (hb.mono HBK.out.size))
        clear hb
        go_wp2_with fail
        go_ret
        exact ⟨rfl, HB6.out⟩
end Go.Proofs.YtemhdkmijfngnaaGreat
namespace Go.Proofs.YtemhdkmijfngnaaGreat
open Go.ChangeShapes Go.WideShapes Go.ChangeAt Go.RowKit Go.WideElems Go.Deep
open Go.ChangeMaps (open_string shut_string)

set_option maxRecDepth 100000 in
theorem soloPieces_lifted (os : Os) (started : os.Started) (H : Type) (enc : TypeId × Value → H) :
    ReturnsInHanded {} Tryz.checked os 6 .any (Rows.soloPiecesSpec.pre6 enc Tryz.prog Tryz.f6 [] false) (Rows.soloPiecesSpec.post enc Tryz.prog Tryz.f6 false true false false) := by
  refine law_lifted 6 Tryz.f6 Rows.soloPiecesSpec os started H enc Tryz.func6 (by kernel_rfl) (by kernel_rfl) (by kernel_rfl) rfl (fun ds h => ?_)
    (ChangeSpec.witness6 (enc := enc) (C := Tryz.checked) false ⟨#[], #[.agg #[.int .i64 0, .int .i64 0, .int .i64 0, .int .i64 0, .int .i64 0, .int .i64 0, .string ⟨#[]⟩, .int .i64 0, .int .i64 0, .slice none 0 0, .int .i64 0, .slice none 0 0, .int .i64 0], .string ⟨#[]⟩, .int .u8 0], []⟩ 8 (by kernel_rfl) (by kernel_rfl) (by kernel_rfl) (by kernel_rfl)) ?_
  · have hn : ds.length = 3 := h
    match ds, hn with
    | [d0, d1, d2], _ => rfl
  · intro W args ds p base hval hA _ _
    rw [show Tryz.f6.params.toList = [29, 9, 5] from by rw [Tryz.params6]] at hval hA
    obtain ⟨v0, _, d0, _, p0, _, rfl, rfl, rfl, h0, hA⟩ := all_cons hA
    obtain ⟨v1, _, d1, _, p1, _, rfl, rfl, rfl, h1, hA⟩ := all_cons hA
    obtain ⟨v2, _, d2, _, p2, _, rfl, rfl, rfl, h2, hA⟩ := all_cons hA
    obtain rfl := all_nil hA
    obtain ⟨x0, A0, c0, B0, k0, rfl, hx0⟩ := open_play22Arg (hval 0 _ v0 rfl rfl) h0
    obtain ⟨s1, rfl, _, _, hs1⟩ := open_string Tryz.underlying9 (hval 1 _ v1 rfl rfl) h1
    obtain ⟨x2, rfl, rfl, rfl, hw2⟩ := open_int Tryz.underlying5 (hval 2 _ v2 rfl rfl) h2
    exact soloPieces_any A0 c0 B0 k0 x0 s1 x2 W hx0 hs1 hw2

theorem soloPieces_holds : Rows.SoloPiecesSaid :=
  OpenClaim.holds_of_wide 6 Tryz.f6 rfl rfl rfl rfl rfl rfl rfl ⟨rfl, rfl, rfl, rfl, rfl⟩ rfl rfl rfl rfl rfl (by kernel_rfl) Tryz.func6 (by kernel_rfl)
    (of_decide_eq_true (by kernel_rfl)) (by unfold Func.isWrapper; first | (rw [if_pos (by decide +kernel)]; kernel_rfl) | (rw [if_neg (by decide +kernel)]; exact ⟨rfl, rfl⟩))
    (fun os started H enc _ => soloPieces_lifted os started H enc)
#print axioms soloPieces_holds
end Go.Proofs.YtemhdkmijfngnaaGreat
