/- Plain laws: how many bits of a number are set, by halves. No program in sight. -/
import Derived.Test.YtdhoedohchbagaaBase
namespace Go.Proofs.Ytdhoedohchbagaa
namespace PopT
def pc : Nat → Nat → Nat
  | 0, _ => 0
  | n + 1, x => x % 2 + pc n (x / 2)
def dig (b : Nat) (f : Nat → Nat) : Nat → Nat → Nat
  | 0, _ => 0
  | n + 1, x => f (x % b) + b * dig b f n (x / b)
theorem and_split (x y k : Nat) : x &&& y = ((x % 2 ^ k) &&& (y % 2 ^ k)) + 2 ^ k * ((x / 2 ^ k) &&& (y / 2 ^ k)) := by
  have h1 : (x &&& y) % 2 ^ k = (x % 2 ^ k) &&& (y % 2 ^ k) := Nat.and_mod_two_pow
  have h2 : (x &&& y) / 2 ^ k = (x / 2 ^ k) &&& (y / 2 ^ k) := Nat.and_div_two_pow
  rw [← h1, ← h2, Nat.mod_add_div]
def maskN (c k : Nat) : Nat → Nat
  | 0 => 0
  | n + 1 => c + 2 ^ k * maskN c k n
theorem mask_mod (c k n : Nat) (hc : c < 2 ^ k) : maskN c k (n + 1) % 2 ^ k = c ∧ maskN c k (n + 1) / 2 ^ k = maskN c k n := by
  have hp : 0 < 2 ^ k := Nat.pow_pos (by omega)
  constructor
  · show (c + 2 ^ k * maskN c k n) % 2 ^ k = c
    rw [Nat.add_mul_mod_self_left, Nat.mod_eq_of_lt hc]
  · show (c + 2 ^ k * maskN c k n) / 2 ^ k = maskN c k n
    rw [Nat.add_mul_div_left _ _ hp, Nat.div_eq_of_lt hc, Nat.zero_add]
theorem and_mask (c k n x : Nat) (hc : c < 2 ^ k) : x &&& maskN c k n = dig (2 ^ k) (fun d => d &&& c) n x := by
  induction n generalizing x with
  | zero => simp [maskN, dig]
  | succ n ih =>
    obtain ⟨h1, h2⟩ := mask_mod c k n hc
    rw [and_split x _ k, h1, h2, ih]; rfl
def sumd (b : Nat) : Nat → Nat → Nat
  | 0, _ => 0
  | n + 1, x => x % b + sumd b n (x / b)
def allLe (b m : Nat) : Nat → Nat → Prop
  | 0, _ => True
  | n + 1, x => x % b ≤ m ∧ allLe b m n (x / b)
theorem dig_step (b : Nat) (f : Nat → Nat) (n x : Nat) (h : f (x % b) < b) : dig b f (n + 1) x % b = f (x % b) ∧ dig b f (n + 1) x / b = dig b f n (x / b) := by
  have hb : 0 < b := by omega
  constructor
  · show (f (x % b) + b * dig b f n (x / b)) % b = _
    rw [Nat.add_mul_mod_self_left, Nat.mod_eq_of_lt h]
  · show (f (x % b) + b * dig b f n (x / b)) / b = _
    rw [Nat.add_mul_div_left _ _ hb, Nat.div_eq_of_lt h, Nat.zero_add]
theorem and1 (d : Nat) : d &&& 1 = d % 2 := Nat.and_one_is_mod d
theorem and3 (d : Nat) : d &&& 3 = d % 4 := Nat.and_two_pow_sub_one_eq_mod d 2
theorem and15 (d : Nat) : d &&& 15 = d % 16 := Nat.and_two_pow_sub_one_eq_mod d 4

theorem step1 (n x : Nat) : (x / 2 &&& maskN 1 2 n) + (x &&& maskN 1 2 n) = dig 4 (fun d => d / 2 + d % 2) n x := by
  rw [and_mask 1 2 n _ (by decide), and_mask 1 2 n _ (by decide)]
  show dig 4 (fun d => d &&& 1) n (x / 2) + dig 4 (fun d => d &&& 1) n x = _
  induction n generalizing x with
  | zero => rfl
  | succ n ih =>
    have := ih (x / 4)
    simp only [dig, and1] at this ⊢
    rw [show x / 2 / 4 = x / 4 / 2 from by omega]
    omega
theorem step2 (n x : Nat) : (x / 4 &&& maskN 3 4 n) + (x &&& maskN 3 4 n) = dig 16 (fun d => d / 4 + d % 4) n x := by
  rw [and_mask 3 4 n _ (by decide), and_mask 3 4 n _ (by decide)]
  show dig 16 (fun d => d &&& 3) n (x / 4) + dig 16 (fun d => d &&& 3) n x = _
  induction n generalizing x with
  | zero => rfl
  | succ n ih =>
    have := ih (x / 16)
    simp only [dig, and3] at this ⊢
    rw [show x / 4 / 16 = x / 16 / 4 from by omega]
    omega
theorem step3 (n x : Nat) (h : allLe 16 7 (2 * n + 1) x) : (x / 16 + x) &&& maskN 15 8 n = dig 256 (fun d => d / 16 + d % 16) n x := by
  rw [and_mask 15 8 n _ (by decide)]
  show dig 256 (fun d => d &&& 15) n (x / 16 + x) = _
  induction n generalizing x with
  | zero => rfl
  | succ n ih =>
    rw [show 2 * (n + 1) + 1 = 2 * n + 1 + 1 + 1 from by omega] at h
    obtain ⟨h0, h1, h2⟩ := h
    have hx : x / 16 / 16 = x / 256 := by omega
    have h3 : x / 256 % 16 ≤ 7 := by rw [← hx]; exact h2.1
    have := ih (x / 256) (by rw [← hx]; exact h2)
    simp only [dig, and15] at this ⊢
    rw [show (x / 16 + x) / 256 = x / 256 / 16 + x / 256 from by omega, this]
    omega
theorem le_dig (b m : Nat) (f : Nat → Nat) (n x : Nat) (hf : ∀ d, d < b → f d ≤ m) (hm : m < b) : allLe b m n (dig b f n x) := by
  induction n generalizing x with
  | zero => trivial
  | succ n ih =>
    have hb : 0 < b := by omega
    have h1 := hf (x % b) (Nat.mod_lt _ hb)
    obtain ⟨e1, e2⟩ := dig_step b f n x (by omega)
    exact ⟨by rw [e1]; exact h1, by rw [e2]; exact ih _⟩
theorem le_more (b m : Nat) (n x k : Nat) (h : allLe b m n x) (hx : x < b ^ n) (hb : 0 < b) : allLe b m (n + k) x := by
  induction n generalizing x with
  | zero =>
    have : x = 0 := by simpa using hx
    subst this
    rw [Nat.zero_add]
    induction k with
    | zero => trivial
    | succ k ih => exact ⟨by simp, by simpa using ih⟩
  | succ n ih =>
    rw [show n + 1 + k = n + k + 1 from by omega]
    exact ⟨h.1, ih _ h.2 (by rw [Nat.div_lt_iff_lt_mul hb]; rwa [← Nat.pow_succ])⟩
theorem dig_lt (b : Nat) (f : Nat → Nat) (n x : Nat) (hf : ∀ d, d < b → f d < b) (hb : 0 < b) : dig b f n x < b ^ n := by
  induction n generalizing x with
  | zero => simp [dig]
  | succ n ih =>
    have h1 := hf (x % b) (Nat.mod_lt _ hb)
    have h2 := ih (x / b)
    show f (x % b) + b * dig b f n (x / b) < b ^ (n + 1)
    have h3 : b * (dig b f n (x / b) + 1) ≤ b * b ^ n := Nat.mul_le_mul_left _ h2
    rw [Nat.pow_succ, Nat.mul_comm (b ^ n) b]
    rw [Nat.mul_add] at h3
    omega
theorem sum1 (n x : Nat) : sumd 4 n (dig 4 (fun d => d / 2 + d % 2) n x) = pc (2 * n) x := by
  induction n generalizing x with
  | zero => rfl
  | succ n ih =>
    obtain ⟨e1, e2⟩ := dig_step 4 (fun d => d / 2 + d % 2) n x (by show x % 4 / 2 + x % 4 % 2 < 4; omega)
    rw [show 2 * (n + 1) = 2 * n + 1 + 1 from by omega]
    show dig 4 _ (n + 1) x % 4 + sumd 4 n (dig 4 _ (n + 1) x / 4) = x % 2 + (x / 2 % 2 + pc (2 * n) (x / 2 / 2))
    rw [e1, e2, ih, show x / 2 / 2 = x / 4 from by omega]
    omega
theorem sum2 (n x : Nat) : sumd 16 n (dig 16 (fun d => d / 4 + d % 4) n x) = sumd 4 (2 * n) x := by
  induction n generalizing x with
  | zero => rfl
  | succ n ih =>
    obtain ⟨e1, e2⟩ := dig_step 16 (fun d => d / 4 + d % 4) n x (by show x % 16 / 4 + x % 16 % 4 < 16; omega)
    rw [show 2 * (n + 1) = 2 * n + 1 + 1 from by omega]
    show dig 16 _ (n + 1) x % 16 + sumd 16 n (dig 16 _ (n + 1) x / 16) = x % 4 + (x / 4 % 4 + sumd 4 (2 * n) (x / 4 / 4))
    rw [e1, e2, ih, show x / 4 / 4 = x / 16 from by omega]
    omega
theorem sum3 (n x : Nat) : sumd 256 n (dig 256 (fun d => d / 16 + d % 16) n x) = sumd 16 (2 * n) x := by
  induction n generalizing x with
  | zero => rfl
  | succ n ih =>
    obtain ⟨e1, e2⟩ := dig_step 256 (fun d => d / 16 + d % 16) n x (by show x % 256 / 16 + x % 256 % 16 < 256; omega)
    rw [show 2 * (n + 1) = 2 * n + 1 + 1 from by omega]
    show dig 256 _ (n + 1) x % 256 + sumd 256 n (dig 256 _ (n + 1) x / 256) = x % 16 + (x / 16 % 16 + sumd 16 (2 * n) (x / 16 / 16))
    rw [e1, e2, ih, show x / 16 / 16 = x / 256 from by omega]
    omega
/-- A digit base 16 of what has digits base 4 up to 2. -/
theorem le16 (n x : Nat) (h : allLe 4 2 (2 * n) x) : allLe 16 4 n (dig 16 (fun d => d / 4 + d % 4) n x) := by
  induction n generalizing x with
  | zero => trivial
  | succ n ih =>
    rw [show 2 * (n + 1) = 2 * n + 1 + 1 from by omega] at h
    obtain ⟨h0, h1, h2⟩ := h
    obtain ⟨e1, e2⟩ := dig_step 16 (fun d => d / 4 + d % 4) n x (by show x % 16 / 4 + x % 16 % 4 < 16; omega)
    exact ⟨by rw [e1]; show x % 16 / 4 + x % 16 % 4 ≤ 4; omega, by rw [e2]; exact ih _ (by rwa [show x / 4 / 4 = x / 16 from by omega] at h2)⟩
theorem le256 (n x : Nat) (h : allLe 16 4 (2 * n) x) : allLe 256 8 n (dig 256 (fun d => d / 16 + d % 16) n x) := by
  induction n generalizing x with
  | zero => trivial
  | succ n ih =>
    rw [show 2 * (n + 1) = 2 * n + 1 + 1 from by omega] at h
    obtain ⟨h0, h1, h2⟩ := h
    obtain ⟨e1, e2⟩ := dig_step 256 (fun d => d / 16 + d % 16) n x (by show x % 256 / 16 + x % 256 % 16 < 256; omega)
    exact ⟨by rw [e1]; show x % 256 / 16 + x % 256 % 16 ≤ 8; omega, by rw [e2]; exact ih _ (by rwa [show x / 16 / 16 = x / 256 from by omega] at h2)⟩
theorem le_mono (b m m' n x : Nat) (h : allLe b m n x) (hm : m ≤ m') : allLe b m' n x := by
  induction n generalizing x with
  | zero => trivial
  | succ n ih => exact ⟨Nat.le_trans h.1 hm, ih _ h.2⟩

def p1 (x : Nat) : Nat := (x / 2 &&& 6148914691236517205) + (x &&& 6148914691236517205)
def p2 (y : Nat) : Nat := (y / 4 &&& 3689348814741910323) + (y &&& 3689348814741910323)
def p3 (z : Nat) : Nat := (z / 16 + z) &&& 1085102592571150095
theorem m1 : maskN 1 2 32 = 6148914691236517205 := by decide
theorem m2 : maskN 3 4 16 = 3689348814741910323 := by decide
theorem m3 : maskN 15 8 8 = 1085102592571150095 := by decide
theorem pop_all (x : Nat) : sumd 256 8 (p3 (p2 (p1 x))) = pc 64 x ∧ allLe 256 8 8 (p3 (p2 (p1 x))) ∧ p3 (p2 (p1 x)) < 256 ^ 8 ∧ p2 (p1 x) < 16 ^ 16 ∧ p1 x < 4 ^ 32 := by
  have h1 : p1 x = dig 4 (fun d => d / 2 + d % 2) 32 x := by rw [← step1, m1]; rfl
  have h2 : p2 (p1 x) = dig 16 (fun d => d / 4 + d % 4) 16 (p1 x) := by rw [← step2, m2]; rfl
  have l1 : allLe 4 2 32 (p1 x) := by rw [h1]; exact le_dig 4 2 _ 32 x (fun d hd => by show d / 2 + d % 2 ≤ 2; omega) (by omega)
  have l2 : allLe 16 4 16 (p2 (p1 x)) := by rw [h2]; exact le16 16 _ l1
  have b1 : p1 x < 4 ^ 32 := by rw [h1]; exact dig_lt 4 _ 32 x (fun d hd => by show d / 2 + d % 2 < 4; omega) (by omega)
  have b2 : p2 (p1 x) < 16 ^ 16 := by rw [h2]; exact dig_lt 16 _ 16 _ (fun d hd => by show d / 4 + d % 4 < 16; omega) (by omega)
  have h3 : p3 (p2 (p1 x)) = dig 256 (fun d => d / 16 + d % 16) 8 (p2 (p1 x)) := by
    rw [← step3 8 _ (le_more 16 7 16 _ 1 (le_mono _ _ _ _ _ l2 (by omega)) b2 (by omega)), m3]; rfl
  refine ⟨?_, ?_, ?_, b2, b1⟩
  · rw [h3, sum3, h2, sum2, h1, sum1]
  · rw [h3]; exact le256 8 _ l2
  · rw [h3]; exact dig_lt 256 _ 8 _ (fun d hd => by show d / 16 + d % 16 < 256; omega) (by omega)
theorem div_of {A B d : Nat} (h : A < d) : (A + d * B) / d = B := by
  have hd : 0 < d := by omega
  rw [Nat.add_mul_div_left _ _ hd, Nat.div_eq_of_lt h, Nat.zero_add]
theorem mod_of {A B d : Nat} (h : A < d) : (A + d * B) % d = A := by
  rw [Nat.add_mul_mod_self_left, Nat.mod_eq_of_lt h]
theorem split8 (u : Nat) (h : allLe 256 8 8 u) (hu : u < 256 ^ 8) : ∃ b0 b1 b2 b3 b4 b5 b6 b7, b0 ≤ 8 ∧ b1 ≤ 8 ∧ b2 ≤ 8 ∧ b3 ≤ 8 ∧ b4 ≤ 8 ∧ b5 ≤ 8 ∧ b6 ≤ 8 ∧ b7 ≤ 8 ∧
    u = b0 + 256 * (b1 + 256 * (b2 + 256 * (b3 + 256 * (b4 + 256 * (b5 + 256 * (b6 + 256 * b7)))))) ∧ sumd 256 8 u = b0 + b1 + b2 + b3 + b4 + b5 + b6 + b7 := by
  obtain ⟨a0, a1, a2, a3, a4, a5, a6, a7, -⟩ := h
  refine ⟨_, _, _, _, _, _, _, _, a0, a1, a2, a3, a4, a5, a6, a7, ?_, ?_⟩
  · have h7 : u / 256 / 256 / 256 / 256 / 256 / 256 / 256 < 256 := by
      simp only [Nat.div_div_eq_div_mul]
      exact Nat.div_lt_of_lt_mul (by simpa using hu)
    have e := fun x : Nat => (Nat.mod_add_div x 256).symm
    rw [Nat.mod_eq_of_lt h7]
    rw [← e (u / 256 / 256 / 256 / 256 / 256 / 256), ← e (u / 256 / 256 / 256 / 256 / 256), ← e (u / 256 / 256 / 256 / 256), ← e (u / 256 / 256 / 256), ← e (u / 256 / 256), ← e (u / 256), ← e u]
  · simp only [sumd]; omega
theorem fold8 (u : Nat) (h : allLe 256 8 8 u) (hu : u < 256 ^ 8) :
    u + u / 256 < 2 ^ 64 ∧ u + u / 256 + (u + u / 256) / 65536 < 2 ^ 64 ∧ u + u / 256 + (u + u / 256) / 65536 + (u + u / 256 + (u + u / 256) / 65536) / 4294967296 < 2 ^ 64 ∧
    (u + u / 256 + (u + u / 256) / 65536 + (u + u / 256 + (u + u / 256) / 65536) / 4294967296) % 128 = sumd 256 8 u ∧ u + u / 256 + (u + u / 256) / 65536 + (u + u / 256 + (u + u / 256) / 65536) / 4294967296 < 2 ^ 63 := by
  obtain ⟨b0, b1, b2, b3, b4, b5, b6, b7, h0, h1, h2, h3, h4, h5, h6, h7, hu2, hs⟩ := split8 u h hu
  rw [hs]
  have q0 : u / 256 = b1 + 256 * (b2 + 256 * (b3 + 256 * (b4 + 256 * (b5 + 256 * (b6 + 256 * b7))))) := by rw [hu2]; exact div_of (by omega)
  obtain ⟨v, hv⟩ : ∃ v, u + u / 256 = v := ⟨_, rfl⟩
  have v0 : v = (b0 + b1 + 256 * (b1 + b2)) + 65536 * (b2 + b3 + 256 * (b3 + b4) + 65536 * (b4 + b5) + 16777216 * (b5 + b6) + 4294967296 * (b6 + b7) + 1099511627776 * b7) := by rw [← hv, q0, hu2]; clear hv q0 hu2 hs h hu; omega
  have v1 : v / 65536 = b2 + b3 + 256 * (b3 + b4) + 65536 * (b4 + b5) + 16777216 * (b5 + b6) + 4294967296 * (b6 + b7) + 1099511627776 * b7 := by rw [v0]; exact div_of (by clear v0 hv q0 hu2 hs h hu; omega)
  rw [hv]
  obtain ⟨y, hy⟩ : ∃ y, v + v / 65536 = y := ⟨_, rfl⟩
  have y0 : y = (b0 + b1 + b2 + b3 + 256 * (b1 + b2 + b3 + b4) + 65536 * (b2 + b3 + b4 + b5) + 16777216 * (b3 + b4 + b5 + b6)) + 4294967296 * (b4 + b5 + b6 + b7 + 256 * (b5 + b6 + b7) + 65536 * (b6 + b7) + 16777216 * b7) := by rw [← hy, v1, v0]; clear hy v1 v0 hv q0 hu2 hs h hu; omega
  have y1 : y / 4294967296 = b4 + b5 + b6 + b7 + 256 * (b5 + b6 + b7) + 65536 * (b6 + b7) + 16777216 * b7 := by rw [y0]; exact div_of (by clear hy y0 v1 v0 hv q0 hu2 hs h hu; omega)
  rw [hy]
  have t0 : y + y / 4294967296 = (b0 + b1 + b2 + b3 + b4 + b5 + b6 + b7) + 128 * (2 * (b1 + b2 + b3 + b4 + b5 + b6 + b7) + 512 * (b2 + b3 + b4 + b5 + b6 + b7) + 131072 * (b3 + b4 + b5 + b6 + b7) + 33554432 * (b4 + b5 + b6 + b7 + 256 * (b5 + b6 + b7) + 65536 * (b6 + b7) + 16777216 * b7)) := by rw [y1, y0]; clear y1 hy y0 v1 v0 hv q0 hu2 hs h hu; omega
  clear hu hs h q0 hu2 hv hy v1 y1
  refine ⟨by rw [v0]; clear v0 y0 t0; omega, by rw [y0]; clear v0 y0 t0; omega, ?_, ?_, ?_⟩
  · rw [t0]; clear v0 y0 t0; omega
  · rw [t0]; exact mod_of (by clear v0 y0 t0; omega)
  · rw [t0]; clear v0 y0 t0; omega
end PopT
end Go.Proofs.Ytdhoedohchbagaa
