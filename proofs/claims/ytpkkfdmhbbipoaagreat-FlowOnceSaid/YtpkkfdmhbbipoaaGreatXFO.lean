/- FlowOnce: for all plays the law answers true. No condition. -/
import Derived.Test.YtpkkfdmhbbipoaaGreatFk
import Derived.Test.YtpkkfdmhbbipoaaGreatFj
import Derived.Test.YtpkkfdmhbbipoaaGreatFh
import Derived.Deep.MidRow
import Derived.Test.YtpkkfdmhbbipoaaGreatMi
import Derived.Test.YtpkkfdmhbbipoaaGreatEb
namespace Go.Proofs.YtpkkfdmhbbipoaaGreat
open Go.RowKit PopT
theorem few9_in (p : ProgV) (hok : ProgOk p) : ProgOk (fewP p 9) ∧ (fewP p 9).ops.length ≤ 9 ∧ (∀ o ∈ (fewP p 9).ops, o.arms.length ≤ 10) ∧ ∀ o ∈ (fewP p 9).ops, ∀ a ∈ o.arms, a.pat.size ≤ 1000000 := by
 refine ⟨fewP_ok p 9 hok, ?_, fun o ho => ?_, fun o ho a ha => ?_⟩
 ·show ((p.ops.take 9).map cutO).length ≤ 9
  rw [List.length_map, List.length_take]; omega
 ·obtain ⟨o', _, rfl⟩ := List.mem_map.1 ho
  show ((o'.arms.take 10).map cutA).length ≤ 10
  rw [List.length_map, List.length_take]; omega
 ·obtain ⟨o', _, rfl⟩ := List.mem_map.1 ho
  obtain ⟨a', _, rfl⟩ := List.mem_map.1 ha
  have := cutM_size 70 a'.pat
  show (cutM 70 a'.pat).size ≤ 1000000
  omega
theorem few9_script (p : ProgV) (hok : ProgOk p) {W : World} {A : Option Addr} (h : OpsIn W A (fewP p 9).ops) : ScriptIn (fewP p 9) A W := by
 obtain ⟨h1, h2, h3, h4⟩ := few9_in p hok
 exact ⟨h, by omega, h1.1, fun o ho => by have := h3 o ho; omega⟩
theorem PlayOk.belowF {w w' : World} {x : PlayV} {A B : Option Addr} {k : Nat} (h : PlayOk w x A B k) (hb : Below w.heap.size w w') : PlayOk w' x A B k := by
 obtain ⟨h1, h2, h3, h4, h5, h6, h7, h8⟩ := h
 exact ⟨h1.below hb, h2, h3, h4.below hb, h5, h6, h7, h8⟩
theorem stV_at (l : List StepV) (i : Nat) (x : StepV) (hi : l[i]? = some x) (j : Nat) (hj : j < 6) : (stVCells l)[i * 6 + j]? = x.row[j]? := by
 induction l generalizing i with
 | nil => simp at hi
 | cons m l ih =>
  have e : stVCells (m :: l) = m.row ++ stVCells l := rfl
  have hm : m.row.length = 6 := rfl
  rw [e]
  cases i with
  | zero =>
   simp at hi; subst hi
   rw [Nat.zero_mul, Nat.zero_add, List.getElem?_append_left (by omega)]
  | succ i =>
   rw [List.getElem?_append_right (by omega), hm, show (i + 1) * 6 + j - 6 = i * 6 + j from by omega, ih i (by simpa using hi)]
set_option maxRecDepth 20000 in
set_option maxHeartbeats 16000000 in
theorem flowOnce_any (A : Option Addr) (c : Nat) (B : Option Addr) (k : Nat) (x : PlayV) (w : World) (hx : PlayOk w x A B k) :
  Calls Tryz.prog 11 #[x.val A c B k] w fun e w' => e = .returned (.bool true) ∧ Below w.heap.size w w' := by
 have CRU : Hid (∀ W, Below w.heap.size w W → Calls Tryz.prog 58 #[x.val A c B k] W fun e w' => RunQ x.s (fewP x.p 9) W e w') := fun W hb => run24_any A c B k x W (hx.belowF hb)
 have CFP : Hid (∀ W, Below w.heap.size w W → Calls Tryz.prog 26 #[x.p.val (.slice A x.p.ops.length c), .int .i64 9] W fun e w' => ∃ A' c', e = .returned ((fewP x.p 9).val (.slice A' (fewP x.p 9).ops.length c')) ∧ OpsIn w' A' (fewP x.p 9).ops ∧ Below W.heap.size W w') := fun W hb =>
  (fewP_any x.p A c 9 W (hx.ops.below hb) hx.pok (by omega)).mono fun e w' ⟨A', c', h1, h2, h3⟩ => ⟨A', c', h1, h2.inn rfl, h3⟩
 have CLO : Hid (∀ W A c, OpsIn W A (fewP x.p 9).ops → Calls Tryz.prog 37 #[(fewP x.p 9).val (.slice A (fewP x.p 9).ops.length c)] W fun e w' => e = .returned (.bool (loopsB (fewP x.p 9))) ∧ Below W.heap.size W w') := fun W A c h => fLoops_any (few9_script x.p hx.pok h)
 have CLV := hid (fun W => lives24_any W)
 have HBQ : Hid (∀ W e w', RunQ x.s (fewP x.p 9) W e w' → Below W.heap.size W w' ∧ (e = .returned (.tuple #[.slice none 0 0, .int .i64 0, .bool false]) ∨
   ∃ (v : Value) (l : List StepV) (n : Nat), e = .returned (.tuple #[v, .int .i64 (n : Int), .bool true]) ∧ w'.ownsRow W.heap.size 51 6 v l.length (stVCells l) ∧ l.length ≤ 360 ∧ n ≤ 3840 ∧ (loopsB (fewP x.p 9) = false → l.Pairwise fun a b => stays a = false → b.loc ≠ a.loc))) := fun W e w' h => by
  obtain ⟨h1, h2 | ⟨v, y, l, n, h2, h3, h4, h5, h6, h7⟩⟩ := h
  ·exact ⟨h1, .inl h2⟩
  ·exact ⟨h1, .inr ⟨v, l, n, h2, h3, h4, h5, h7.alone h6⟩⟩
 obtain ⟨LB, hLB⟩ : ∃ y, loopsB (fewP x.p 9) = y := ⟨_, rfl⟩
 rw [hLB] at CLO HBQ
 obtain ⟨RQ, hRQ⟩ : ∃ y : World → Ending → World → Prop, RunQ x.s (fewP x.p 9) = y := ⟨_, rfl⟩
 rw [hRQ] at CRU HBQ
 obtain ⟨s, p, now, l, ask⟩ := x
 unfold PlayV.val
 unfold PlayV.val at CRU
 simp only at CRU CFP CLO ⊢
 obtain ⟨n, hnn⟩ : ∃ y, l.length = y := ⟨_, rfl⟩
 obtain ⟨m, hmm⟩ : ∃ y, p.ops.length = y := ⟨_, rfl⟩
 obtain ⟨pf, hpf⟩ : ∃ y, fewP p 9 = y := ⟨_, rfl⟩
 rw [hnn, hmm]
 rw [hnn, hmm] at CRU
 rw [hmm] at CFP
 rw [hpf] at CFP CLO
 clear hx hnn hmm hpf hLB hRQ
 obtain ⟨lv, rg, wn, ou, qu, vi⟩ := s
 obtain ⟨nm, dl, jp, ops⟩ := p
 obtain ⟨nm2, dl2, jp2, ops2⟩ := pf
 unfold ProgV.val at CFP CLO
 simp only at CRU CFP CLO ⊢
 obtain ⟨m2, hm2⟩ : ∃ y, ops2.length = y := ⟨_, rfl⟩
 rw [hm2] at CFP CLO
 clear hm2
 go_enter Tryz.func11, Tryz.ntmps11
 go_upto_region 1 with fail
 generalize hwz : w.alloc (.cells #[.int .i64 lv, .int .i64 rg, .int .i64 wn, .int .i64 ou, .int .i64 qu, .int .i64 vi, .string nm, .int .i64 dl, .int .i64 jp, .slice A m c, .int .i64 now, .slice B n k, .int .i64 ask] 29) = wz
 have HXX : Hid (Blk wz w.heap.size 29 #[.int .i64 lv, .int .i64 rg, .int .i64 wn, .int .i64 ou, .int .i64 qu, .int .i64 vi, .string nm, .int .i64 dl, .int .i64 jp, .slice A m c, .int .i64 now, .slice B n k, .int .i64 ask]) := by rw [← hwz]; exact Blk.new w _ _
 have HB : Hid (Below w.heap.size w wz) := by rw [← hwz]; exact (Below.refl _ _).alloc (Nat.le_refl _) _
 obtain ⟨gx, hgx⟩ : ∃ y, w.heap.size = y := ⟨_, rfl⟩
 have HGX := hid hgx
 rw [hgx] at HXX ⊢
 clear hwz hgx
 have CB := hid (CRU.out wz HB.out)
 clear CRU
 have x0 : wz.cell? ⟨gx, 0, none⟩ = some (.int .i64 lv) := HXX.out.cell 0
 have x1 : wz.cell? ⟨gx, 1, none⟩ = some (.int .i64 rg) := HXX.out.cell 1
 have x2 : wz.cell? ⟨gx, 2, none⟩ = some (.int .i64 wn) := HXX.out.cell 2
 have x3 : wz.cell? ⟨gx, 3, none⟩ = some (.int .i64 ou) := HXX.out.cell 3
 have x4 : wz.cell? ⟨gx, 4, none⟩ = some (.int .i64 qu) := HXX.out.cell 4
 have x5 : wz.cell? ⟨gx, 5, none⟩ = some (.int .i64 vi) := HXX.out.cell 5
 have x6 : wz.cell? ⟨gx, 6, none⟩ = some (.string nm) := HXX.out.cell 6
 have x7 : wz.cell? ⟨gx, 7, none⟩ = some (.int .i64 dl) := HXX.out.cell 7
 have x8 : wz.cell? ⟨gx, 8, none⟩ = some (.int .i64 jp) := HXX.out.cell 8
 have x9 : wz.cell? ⟨gx, 9, none⟩ = some (.slice A m c) := HXX.out.cell 9
 have x10 : wz.cell? ⟨gx, 10, none⟩ = some (.int .i64 now) := HXX.out.cell 10
 have x11 : wz.cell? ⟨gx, 11, none⟩ = some (.slice B n k) := HXX.out.cell 11
 have x12 : wz.cell? ⟨gx, 12, none⟩ = some (.int .i64 ask) := HXX.out.cell 12
 have xl := HXX.out.lt
 go_wp2_with fail
 refine CB.out.mono ?_
 intro en w2 hq
 obtain ⟨hb, hq⟩ := HBQ.out _ _ _ hq
 have HX2 := hid (HXX.out.below hb HXX.out.lt)
 have HB2 : Hid (Below w.heap.size w w2) := HB.out.trans (hb.mono HB.out.size)
 have HSZ : Hid (w.heap.size ≤ wz.heap.size ∧ gx < wz.heap.size) := ⟨HB.out.size, HXX.out.lt⟩
 clear hb CB HBQ HXX HB x0 x1 x2 x3 x4 x5 x6 x7 x8 x9 x10 x11 x12 xl
 rcases hq with rfl | ⟨v, li, nb, rfl, hown, hli, hnb, hal⟩
 ·go_wp2_with fail
  refine (CLV.out _).mono ?_
  rintro en w4 ⟨rfl, hb⟩
  have HB4 := hid (HB2.out.trans (hb.mono HB2.out.size))
  clear hb
  go_wp2_with fail
  go_ret
  exact ⟨rfl, HB4.out⟩
 have HAL := hid hal; have HLI := hid hli; have HOW := hid hown
 clear hal hli hnb hown
 have C1 := hid (CFP.out w2 HB2.out)
 have x6 : w2.cell? ⟨gx, 6, none⟩ = some (.string nm) := HX2.out.cell 6
 have x7 : w2.cell? ⟨gx, 7, none⟩ = some (.int .i64 dl) := HX2.out.cell 7
 have x8 : w2.cell? ⟨gx, 8, none⟩ = some (.int .i64 jp) := HX2.out.cell 8
 have x9 : w2.cell? ⟨gx, 9, none⟩ = some (.slice A m c) := HX2.out.cell 9
 have xl := HX2.out.lt
 go_wp2_with fail
 refine C1.out.mono ?_
 rintro en w3 ⟨A1, c1, rfl, ho, hb⟩
 have C2 := hid (CLO.out w3 A1 c1 ho)
 have HW3 := hid (own_below HOW.out hb)
 have HB3 : Hid (Below w.heap.size w w3) := HB2.out.trans (hb.mono HB2.out.size)
 clear ho hb C1 x6 x7 x8 x9 xl HX2 HOW HB2
 go_wp2_with fail
 refine C2.out.mono ?_
 rintro en w4 ⟨rfl, hb⟩
 have HW4 := hid (own_below HW3.out hb)
 have HB4 : Hid (Below w.heap.size w w4) := HB3.out.trans (hb.mono HB3.out.size)
 clear hb C2 HW3 HB3
 cases LB
 case true =>
  go_wp2_with fail
  refine (CLV.out _).mono ?_
  rintro en w5 ⟨rfl, hb⟩
  have HB5 := hid (HB4.out.trans (hb.mono HB4.out.size))
  clear hb
  go_wp2_with fail
  go_ret
  exact ⟨rfl, HB5.out⟩
 have HPW := hid (HAL.out rfl)
 obtain ⟨A6, c6, rfl, hrd6⟩ := own_shape HW4.out
 have HRW := hid hrd6
 obtain ⟨nl, hnl⟩ : ∃ y, li.length = y := ⟨_, rfl⟩
 have HNL := hid hnl
 rw [hnl] at HLI ⊢
 clear hrd6 hnl HW4 HAL CFP CLO
 go_wp2_with fail
 go_loopw [6] (fun iv wr => ∃ i : Nat, i ≤ nl ∧ iv = .int .i64 (i : Int) ∧ Below w4.heap.size w4 wr) (fun iv _ => nl - (intOf iv).toNat)
 case atStart => exact ⟨0, by omega, rfl, Below.refl _ _⟩
 case round =>
  obtain ⟨i, hi, rfl, hbr⟩ := hrel
  have HBR := hid hbr
  clear hbr
  by_cases hlt : i < nl
  case neg =>
   have hi2 : ¬ (i : Int) < (nl : Int) := by omega
   go_wp2_with fail
   refine (CLV.out _).mono ?_
   rintro en w5 ⟨rfl, hb⟩
   have HB5 := hid ((HB4.out.trans (HBR.out.mono HB4.out.size)).trans (hb.mono (Nat.le_trans HB4.out.size HBR.out.size)))
   clear hb
   go_wp2_with fail
   go_ret
   exact ⟨rfl, HB5.out⟩
  case pos =>
   have hi2 : (i : Int) < (nl : Int) := by omega
   have hi3 : i ≤ 360 := by have := HLI.out; omega
   go_wp2_with fail
   go_loopw [7] (fun kv wq => ∃ kk : Nat, i < kk ∧ kk ≤ nl ∧ kv = .int .i64 (kk : Int) ∧ Below w4.heap.size w4 wq) (fun kv _ => nl - (intOf kv).toNat)
   case atStart => exact ⟨i + 1, by omega, by omega, by go_num, HBR.out⟩
   case round =>
    obtain ⟨kk, hik, hkn, rfl, hbq⟩ := hrel
    have HBN := hid hbq
    clear hbq
    by_cases hkl : kk < nl
    case neg =>
     have hk2 : ¬ (kk : Int) < (nl : Int) := by omega
     go_wp2_with fail
     go_roundw
     case rel => exact ⟨i + 1, by omega, by go_num, HBN.out⟩
     case measure => simp [intOf]; omega
    case pos =>
     have hk2 : (kk : Int) < (nl : Int) := by omega
     have hk3 : kk ≤ 360 := by have := HLI.out; omega
     have h1 : i < li.length := by rw [HNL.out]; exact hlt
     have h2 : kk < li.length := by rw [HNL.out]; exact hkl
     have hp : stays (li[i]'h1) = false → (li[kk]'h2).loc ≠ (li[i]'h1).loc := (List.pairwise_iff_getElem.1 HPW.out) i kk h1 h2 hik
     obtain ⟨bl, off, rfl, hbl, hcc⟩ := (HRW.out.below HBN.out).at (by rw [stVCells_length]; omega)
     have a1 : wr.cell? ⟨bl, off + (i * 6 + 1), none⟩ = some (.int .i64 ((li[i]'h1).loc : Int)) := hcc _ _ ((stV_at li i _ (List.getElem?_eq_getElem h1) 1 (by omega)).trans rfl)
     have a2 : wr.cell? ⟨bl, off + (i * 6 + 2), none⟩ = some (.int .i64 ((li[i]'h1).what : Int)) := hcc _ _ ((stV_at li i _ (List.getElem?_eq_getElem h1) 2 (by omega)).trans rfl)
     have b1 : wr.cell? ⟨bl, off + (kk * 6 + 1), none⟩ = some (.int .i64 ((li[kk]'h2).loc : Int)) := hcc _ _ ((stV_at li kk _ (List.getElem?_eq_getElem h2) 1 (by omega)).trans rfl)
     unfold stays at hp
     generalize (li[i]'h1).loc = p1 at a1 hp
     generalize (li[i]'h1).what = wh at a2 hp
     generalize (li[kk]'h2).loc = p2 at b1 hp
     simp only [← Nat.add_assoc] at a1 a2 b1
     clear hcc h1 h2
     rcases Decidable.em (wh = 1) with k1 | k1
     ·have e1 : ((wh : Int) == 1) = true := by rw [beq_iff_eq]; omega
      clear hp
      go_wp2_with fail
      go_quiet (fail)
      have HB3 := hid (HBN.out.trans ((drewN_below wr nq).mono HBN.out.size))
      go_wp2_with fail
      go_roundw
      case rel => exact ⟨kk + 1, by omega, by omega, by go_num, HB3.out⟩
      case measure => simp [intOf]; omega
     ·have e1 : ((wh : Int) == 1) = false := by rw [beq_eq_false_iff_ne]; omega
      rcases Decidable.em (wh = 5) with k5 | k5
      ·have e5 : ((wh : Int) == 5) = true := by rw [beq_iff_eq]; omega
       clear hp
       go_wp2_with fail
       go_quiet (fail)
       have HB3 := hid (HBN.out.trans ((drewN_below wr nq).mono HBN.out.size))
       go_wp2_with fail
       go_roundw
       case rel => exact ⟨kk + 1, by omega, by omega, by go_num, HB3.out⟩
       case measure => simp [intOf]; omega
      ·have e5 : ((wh : Int) == 5) = false := by rw [beq_eq_false_iff_ne]; omega
       have hne := hp (by simp [k1, k5])
       have e6 : ((p2 : Int) == (p1 : Int)) = false := by rw [beq_eq_false_iff_ne]; omega
       clear hp
       go_wp2_with fail
       go_quiet (fail)
       have HB3 := hid (HBN.out.trans ((drewN_below wr nq).mono HBN.out.size))
       go_wp2_with fail
       go_roundw
       case rel => exact ⟨kk + 1, by omega, by omega, by go_num, HB3.out⟩
       case measure => simp [intOf]; omega
open Go.ChangeShapes Go.WideShapes Go.ChangeAt Go.WideElems Go.Deep
open Go.ChangeMaps (open_string shut_string)
set_option maxRecDepth 100000 in
theorem flowOnce_lifted (os : Os) (started : os.Started) (H : Type) (enc : TypeId × Value → H) :
  ReturnsInHanded {} Tryz.checked os 11 .any (Rows.flowOnceSpec.pre6 enc Tryz.prog Tryz.f11 [] false) (Rows.flowOnceSpec.post enc Tryz.prog Tryz.f11 false true false false) := by
 refine law_lifted 11 Tryz.f11 Rows.flowOnceSpec os started H enc Tryz.func11 (by kernel_rfl) (by kernel_rfl) (by kernel_rfl) rfl (fun ds h => ?_)
  (ChangeSpec.witness6 (enc := enc) (C := Tryz.checked) false ⟨#[], #[.agg #[.int .i64 0, .int .i64 0, .int .i64 0, .int .i64 0, .int .i64 0, .int .i64 0, .string ⟨#[]⟩, .int .i64 0, .int .i64 0, .slice none 0 0, .int .i64 0, .slice none 0 0, .int .i64 0]], []⟩ 8 (by kernel_rfl) (by kernel_rfl) (by kernel_rfl) (by kernel_rfl)) ?_
 ·have hn : ds.length = 1 := h
  match ds, hn with
  | [d0], _ => rfl
 ·intro W args ds p base hval hA _ _
  rw [show Tryz.f11.params.toList = [29] from by rw [Tryz.params11]] at hval hA
  obtain ⟨v0, _, d0, _, p0, _, rfl, rfl, rfl, h0, hA⟩ := all_cons hA
  obtain rfl := all_nil hA
  obtain ⟨x0, A0, c0, B0, k0, rfl, hx0⟩ := open_play22Arg (hval 0 _ v0 rfl rfl) h0
  exact flowOnce_any A0 c0 B0 k0 x0 W hx0
theorem flowOnce_holds : Rows.FlowOnceSaid :=
 OpenClaim.holds_of_wide 11 Tryz.f11 rfl rfl rfl rfl rfl rfl rfl ⟨rfl, rfl, rfl, rfl, rfl⟩ rfl rfl rfl rfl rfl (by kernel_rfl) Tryz.func11 (by kernel_rfl)
  (of_decide_eq_true (by kernel_rfl)) (by unfold Func.isWrapper; first | (rw [if_pos (by decide +kernel)]; kernel_rfl) | (rw [if_neg (by decide +kernel)]; exact ⟨rfl, rfl⟩))
  (fun os started H enc _ => flowOnce_lifted os started H enc)
#print axioms flowOnce_holds
end Go.Proofs.YtpkkfdmhbbipoaaGreat
