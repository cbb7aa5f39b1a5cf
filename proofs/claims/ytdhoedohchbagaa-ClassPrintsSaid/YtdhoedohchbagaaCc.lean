/- Walks: math/bits.OnesCount64. -/
import Derived.Test.YtdhoedohchbagaaCa
import Derived.Test.YtdhoedohchbagaaPop
import Derived.IntWalk
import Derived.Laws.Bits128
namespace Go.Proofs.Ytdhoedohchbagaa
open Go.RowKit PopT

theorem wrap_nat (a : Nat) (h : a < 18446744073709551616) : IntKind.u64.wrap (a : Int) = (a : Int) := by rw [IntKind.wrap_u64]; omega
set_option maxRecDepth 20000 in
theorem ones_any (x : Nat) (hx : x < 18446744073709551616) (w : World) :
    Calls Try.prog 112 #[.int .u64 (x : Int)] w fun e w' => e = .returned (.int .i64 (pc 64 x : Int)) ∧ w = w' := by
  obtain ⟨p4, p3a, p3b, p2b, p1b⟩ := pop_all x
  obtain ⟨f1, f2, f3, f4, f5⟩ := fold8 _ p3a p3b
  rw [p4] at f4
  obtain ⟨a1, ha1⟩ : ∃ a, x / 2 &&& 6148914691236517205 = a := ⟨_, rfl⟩
  obtain ⟨a2, ha2⟩ : ∃ a, x &&& 6148914691236517205 = a := ⟨_, rfl⟩
  obtain ⟨y, hy⟩ : ∃ y, p1 x = y := ⟨_, rfl⟩
  have hy2 : y = a1 + a2 := by rw [← hy, p1, ha1, ha2]
  rw [hy] at f1 f2 f3 f4 f5 p2b p1b
  obtain ⟨b1, hb1⟩ : ∃ a, y / 4 &&& 3689348814741910323 = a := ⟨_, rfl⟩
  obtain ⟨b2, hb2⟩ : ∃ a, y &&& 3689348814741910323 = a := ⟨_, rfl⟩
  obtain ⟨z, hz⟩ : ∃ y', p2 y = y' := ⟨_, rfl⟩
  have hz2 : z = b1 + b2 := by rw [← hz, p2, hb1, hb2]
  rw [hz] at f1 f2 f3 f4 f5 p2b
  obtain ⟨u, hu⟩ : ∃ y', p3 z = y' := ⟨_, rfl⟩
  rw [hu] at f1 f2 f3 f4 f5
  obtain ⟨q, hq⟩ : ∃ q, pc 64 x = q := ⟨_, rfl⟩
  rw [hq] at f4 ⊢
  have by1 : y < 18446744073709551616 := by have : (4 : Nat) ^ 32 = 18446744073709551616 := by decide
                                            omega
  have bz1 : z < 18446744073709551616 := by have : (16 : Nat) ^ 16 = 18446744073709551616 := by decide
                                            omega
  have e1 : bits .and .u64 ((x : Int) / 2) 6148914691236517205 = (a1 : Int) := by
    have := u64_and_nat (x / 2) 6148914691236517205 (by omega) (by omega)
    rw [ha1, show ((x / 2 : Nat) : Int) = (x : Int) / 2 from by omega] at this
    exact this
  have e2 : bits .and .u64 (x : Int) 6148914691236517205 = (a2 : Int) := by
    have := u64_and_nat x 6148914691236517205 hx (by omega)
    rw [ha2] at this; exact this
  have e3 : IntKind.u64.wrap ((a1 : Int) + (a2 : Int)) = (y : Int) := by
    have := wrap_nat y by1
    rw [show (a1 : Int) + (a2 : Int) = (y : Int) from by omega]; exact this
  have e4 : bits .and .u64 ((y : Int) / 4) 3689348814741910323 = (b1 : Int) := by
    have := u64_and_nat (y / 4) 3689348814741910323 (by omega) (by omega)
    rw [hb1, show ((y / 4 : Nat) : Int) = (y : Int) / 4 from by omega] at this
    exact this
  have e5 : bits .and .u64 (y : Int) 3689348814741910323 = (b2 : Int) := by
    have := u64_and_nat y 3689348814741910323 by1 (by omega)
    rw [hb2] at this; exact this
  have e6 : IntKind.u64.wrap ((b1 : Int) + (b2 : Int)) = (z : Int) := by
    have := wrap_nat z bz1
    rw [show (b1 : Int) + (b2 : Int) = (z : Int) from by omega]; exact this
  have lb1 : b1 ≤ 3689348814741910323 := by rw [← hb1]; exact Nat.and_le_right
  have lb2 : b2 ≤ 3689348814741910323 := by rw [← hb2]; exact Nat.and_le_right
  obtain ⟨c, hc⟩ : ∃ c, z / 16 + z = c := ⟨_, rfl⟩
  have bc : c < 18446744073709551616 := by omega
  have hu2 : c &&& 1085102592571150095 = u := by rw [← hc, ← hu]; rfl
  have e7 : IntKind.u64.wrap ((z : Int) / 16 + (z : Int)) = (c : Int) := by
    rw [show (z : Int) / 16 + (z : Int) = (c : Int) from by omega]; exact wrap_nat c bc
  have e8 : bits .and .u64 (c : Int) 1085102592571150095 = (u : Int) := by
    have := u64_and_nat c 1085102592571150095 bc (by omega)
    rw [hu2] at this; exact this
  obtain ⟨v, hv⟩ : ∃ v, u + u / 256 = v := ⟨_, rfl⟩
  rw [hv] at f1 f2 f3 f4 f5
  obtain ⟨v2, hv2⟩ : ∃ v2, v + v / 65536 = v2 := ⟨_, rfl⟩
  rw [hv2] at f2 f3 f4 f5
  obtain ⟨t, ht⟩ : ∃ t, v2 + v2 / 4294967296 = t := ⟨_, rfl⟩
  rw [ht] at f3 f4 f5
  have hP : (2 : Nat) ^ 64 = 18446744073709551616 := by decide
  have hP3 : (2 : Nat) ^ 63 = 9223372036854775808 := by decide
  rw [hP] at f1 f2 f3
  rw [hP3] at f5
  have e9 : IntKind.u64.wrap ((u : Int) + (u : Int) / 256) = (v : Int) := by
    rw [show (u : Int) + (u : Int) / 256 = (v : Int) from by omega]; exact wrap_nat v f1
  have e10 : IntKind.u64.wrap ((v : Int) + (v : Int) / 65536) = (v2 : Int) := by
    rw [show (v : Int) + (v : Int) / 65536 = (v2 : Int) from by omega]; exact wrap_nat v2 f2
  have e11 : IntKind.u64.wrap ((v2 : Int) + (v2 : Int) / 4294967296) = (t : Int) := by
    rw [show (v2 : Int) + (v2 : Int) / 4294967296 = (t : Int) from by omega]; exact wrap_nat t f3
  have e12 : IntKind.i64.wrap (t : Int) = (t : Int) := IntWalk.i64_in _ (by omega)
  have e13 : bits .and .i64 (t : Int) 127 = (q : Int) := by rw [i64_and127]; omega
  have ht0 : (0 : Int) ≤ (t : Int) := by omega
  clear p4 p3a p3b p2b p1b f1 f2 f3 f4 f5 ha1 ha2 hy hy2 hb1 hb2 hz hz2 hu hq by1 bz1 lb1 lb2 hc bc hu2 hv hv2 ht hP hP3
  go_enter Try.func112, Try.ntmps112
  go_wp2_with fail
  go_ret
  exact ⟨rfl, rfl⟩
end Go.Proofs.Ytdhoedohchbagaa
