/- Walks: 'slices.Index' over ints. -/
import Derived.Test.YtdhoedohchbagaaSa
namespace Go.Proofs.Ytdhoedohchbagaa
open Go.RowKit Go.Maps

def idxI (v : Int) : List Int → Option Nat
  | [] => none
  | a :: r => if a = v then some 0 else (idxI v r).map (· + 1)
theorem idxI_drop (v : Int) (L : List Int) (k : Nat) (h : k < L.length) : idxI v (L.drop k) = if L[k] = v then some 0 else (idxI v (L.drop (k + 1))).map (· + 1) := by
  rw [List.drop_eq_getElem_cons h]; rfl

set_option maxHeartbeats 400000 in
theorem indexI_any (A : Option Addr) (n c : Nat) (L : List Int) (v : Int) (w : World) (hl : L.length = n) (hn : n ≤ 1000001) (hr : Rd w A (intCells L)) :
    Calls Try.prog 97 #[.slice A n c, .int .i64 v] w fun e w' => e = .returned (.int .i64 (optI (idxI v L))) ∧ w = w' := by
  have HL := hid hl; clear hl
  go_enter Try.func97, Try.ntmps97
  go_wp2
  go_loop [8] (fun i => ∃ k, k ≤ n ∧ i = .int .i64 k ∧ Hid (idxI v L = (idxI v (L.drop k)).map (· + k))) (fun i => n - (intOf i).toNat)
  case atStart => exact ⟨0, by omega, rfl, by simp [Hid]⟩
  case round =>
    obtain ⟨k, hk, rfl, HI⟩ := hrel
    by_cases hlt : k < n
    · have hkl : k < L.length := by rw [HL.out]; exact hlt
      obtain ⟨b, off, rfl, hbl, hc⟩ := hr.at (by rw [intCells_length]; omega)
      have h0 := hc k _ (intCells_get L k hkl)
      have HD := hid (idxI_drop v L k hkl)
      generalize L[k]'hkl = x at *
      clear hc hkl
      by_cases hx : x = v
      · subst hx
        go_wp2
        go_ret
        have e : idxI x L = some k := by rw [HI.out, HD.out]; simp
        rw [e]; exact ⟨rfl, rfl⟩
      · have hx2 : (v == x) = false := by simp; exact fun h => hx h.symm
        have HX := hid hx
        clear hx
        go_wp2
        go_round
        case rel => exact ⟨k + 1, by omega, by go_num, by
          rw [Hid, HI.out, HD.out, if_neg HX.out, Option.map_map]
          congr 1; funext q; simp; omega⟩
        case measure => simp [intOf]; omega
    · go_wp2
      go_ret
      have e : idxI v L = none := by rw [HI.out, List.drop_of_length_le (by rw [HL.out]; omega)]; rfl
      rw [e]; exact ⟨rfl, rfl⟩
end Go.Proofs.Ytdhoedohchbagaa
