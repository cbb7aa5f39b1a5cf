/- Plain: a set's text is read back, whatever stands behind it. -/
import Derived.Test.YtdhoedohchbagaaCx
namespace Go.Proofs.Ytdhoedohchbagaa
open Go.RowKit

/-- What stands in a text from a place on. -/
def At (s : ByteArray) (i : Nat) (l : List Nat) : Prop := (s.data.toList.drop i).map UInt8.toNat = l
theorem At.cons {s : ByteArray} {i y : Nat} {r : List Nat} (h : At s i (y :: r)) : i < s.size ∧ (s.data.toList.getD i 0).toNat = y ∧ At s (i + 1) r := by
  unfold At at h
  have hi : i < s.data.toList.length := by
    rcases Nat.lt_or_ge i s.data.toList.length with h1 | h1
    · exact h1
    · rw [List.drop_eq_nil_of_le h1] at h; cases h
  rw [List.drop_eq_getElem_cons hi, List.map_cons] at h
  injection h with h1 h2
  refine ⟨by simpa using hi, ?_, h2⟩
  rw [List.getD, List.getElem?_eq_getElem hi, Option.getD_some, h1]
theorem At.nil {s : ByteArray} {i : Nat} (h : At s i []) : s.size ≤ i := by
  unfold At at h
  rw [List.map_eq_nil_iff, List.drop_eq_nil_iff] at h
  simpa using h
theorem At.is {s : ByteArray} {i y : Nat} {r : List Nat} (h : At s i (y :: r)) (c : Nat) : isM s i c = (y == c) := by
  obtain ⟨h1, h2, -⟩ := h.cons
  rw [isM, decide_eq_true h1, Bool.true_and, h2]
theorem At.is_nil {s : ByteArray} {i : Nat} (h : At s i []) (c : Nat) : isM s i c = false := by
  have := h.nil
  rw [isM, decide_eq_false (by omega), Bool.false_and]
theorem At.append {s : ByteArray} {i : Nat} {l r : List Nat} (h : At s i (l ++ r)) : At s (i + l.length) r := by
  induction l generalizing i with
  | nil => exact h
  | cons a l ih =>
    have := ih h.cons.2.2
    rwa [List.length_cons, show i + (l.length + 1) = i + 1 + l.length from by omega]

theorem rdSign_sign {s : ByteArray} {i c : Nat} {r : List Nat} (h : At s i (signM c ++ r)) : rdSign s i 0 = (c, i + (signM c).length, 0) := by
  unfold signM at h ⊢
  by_cases hc : c = 37 ∨ c = 93 ∨ c = 45 ∨ c = 94
  · rw [if_pos hc] at h ⊢
    have h1 : At s i (37 :: (c :: r)) := h
    obtain ⟨-, -, h2⟩ := h1.cons
    obtain ⟨h3, h4, -⟩ := h2.cons
    rw [rdSign, if_pos (by rw [h1.is]; rfl), if_pos h3, h4]; rfl
  · rw [if_neg hc] at h ⊢
    have h1 : At s i (c :: r) := h
    obtain ⟨h2, h3, -⟩ := h1.cons
    rw [rdSign, if_neg (by rw [h1.is, beq_iff_eq]; omega), if_pos ⟨h2, by rw [h1.is, beq_eq_false_iff_ne]; omega, by rw [h1.is, beq_eq_false_iff_ne]; omega⟩, h3]; rfl
theorem rdPart_long {s : ByteArray} {i a t : Nat} {r : List Nat} (h : At s i (signM a ++ ([45] ++ (signM t ++ r)))) (hat : a ≤ t) :
    rdPart s i = (spanTo a (t + 1 - a), i + (signM a).length + 1 + (signM t).length, 0) := by
  have h1 := rdSign_sign h
  have h2 := h.append
  have h3 : At s (i + (signM a).length) (45 :: (signM t ++ r)) := h2
  have h4 := rdSign_sign h3.cons.2.2
  simp only [rdPart, h1]
  rw [if_pos ⟨trivial, by rw [h3.is]; rfl⟩, h4, if_neg (by simp only; omega)]
theorem rdPart_short {s : ByteArray} {i a : Nat} {r : List Nat} (h : At s i (signM a ++ r)) (hn : isM s (i + (signM a).length) 45 = false) :
    rdPart s i = (spanTo a 1, i + (signM a).length, 0) := by
  have h1 := rdSign_sign h
  simp only [rdPart, h1]
  rw [if_neg (by rw [hn]; simp)]
theorem sign_head (c : Nat) (r : List Nat) : ∃ y r', signM c ++ r = y :: r' ∧ y ≠ 45 ∧ y ≠ 93 ∧ y ≠ 94 := by
  unfold signM
  split
  · exact ⟨37, c :: r, rfl, by decide, by decide, by decide⟩
  · exact ⟨c, r, rfl, by omega, by omega, by omega⟩
theorem prA_head (x : BSet) (n b : Nat) (hn : 256 - b = n) : (prA x b = [] ∧ ∀ c, b ≤ c → c < 256 → x.has c = false) ∨ ∃ y r, prA x b = y :: r ∧ y ≠ 45 ∧ y ≠ 93 ∧ y ≠ 94 := by
  induction n generalizing b with
  | zero => exact .inl ⟨prA_end x b (by omega), fun c _ _ => by omega⟩
  | succ n ih =>
    rw [prA_step x b (by omega)]
    split
    · exact .inr (sign_head _ _)
    · split
      · exact .inr (sign_head _ _)
      · rename_i h1 h2
        rcases ih (b + 1) (by omega) with ⟨h3, h4⟩ | h3
        · refine .inl ⟨h3, fun c hc1 hc2 => ?_⟩
          by_cases he : c = b
          · rw [he]
            cases hx : x.has b
            · rfl
            · exfalso
              have hstep := runEnd_step x b (by omega) hx
              have := (runEnd_facts x _ (b + 1) rfl (by omega)).1
              omega
          · exact h4 c (by omega) hc2
        · exact .inr h3

theorem rdGo_prA (s : ByteArray) (x : BSet) (t : List Nat) (n b i f : Nat) (out : BSet) (hn : 256 - b = n) (hb : b ≤ 256) (h : At s i (prA x b ++ 93 :: t))
    (ho : ∀ c, c < 256 → out.has c = (x.has c && decide (c < b))) (hf : (prA x b).length ≤ f) :
    ∃ y, rdGo s f out i 0 = (y, i + (prA x b).length, 0) ∧ ∀ c, c < 256 → y.has c = x.has c := by
  induction n using Nat.strongRecOn generalizing b i f out with
  | _ n ih =>
    by_cases hb2 : 256 ≤ b
    · rw [prA_end x b hb2] at h ⊢
      have h1 : At s i (93 :: t) := h
      refine ⟨out, rdGo_shut s f out i 0 (by rw [h1.is]; rfl), fun c hc => ?_⟩
      rw [ho c hc, decide_eq_true (by omega), Bool.and_true]
    · by_cases hx : x.has b = true
      · have hstep := runEnd_step x b (by omega) hx
        obtain ⟨f1, f2, f3, f4⟩ := runEnd_facts x _ (b + 1) rfl (by omega)
        rw [← hstep] at f1 f2 f3 f4
        rw [prA_step x b (by omega)] at h hf ⊢
        by_cases hl : 2 < runEnd x b - b
        · rw [if_pos hl] at h hf ⊢
          obtain ⟨k, hk⟩ : ∃ k, runEnd x b = k := ⟨_, rfl⟩
          rw [hk] at h hf f1 f2 f3 f4 hl ⊢
          have h' : At s i (signM b ++ ([45] ++ (signM (k - 1) ++ (prA x k ++ 93 :: t)))) := by simpa [List.append_assoc] using h
          have hp := rdPart_long h' (by omega)
          have h93 : isM s i 93 = false := by
            obtain ⟨y, r', hy, -, h2, -⟩ := sign_head b ([45] ++ (signM (k - 1) ++ (prA x k ++ 93 :: t)))
            rw [hy] at h'
            rw [h'.is, beq_eq_false_iff_ne]; exact h2
          have h2 : At s (i + (signM b).length + 1 + (signM (k - 1)).length) (prA x k ++ 93 :: t) := by
            have := h'.append.cons.2.2
            exact At.append (l := signM (k - 1)) this
          simp only [List.length_append, List.length_cons, List.length_nil] at hf ⊢
          cases f with
          | zero => omega
          | succ f =>
            rw [rdGo, if_pos ⟨rfl, h93⟩, hp]
            obtain ⟨y, hy1, hy2⟩ := ih (256 - k) (by omega) k _ f (orM out (spanTo b (k - 1 + 1 - b))) rfl f2 h2 (fun c hc => by
              rw [has_orM _ _ _ hc, ho c hc, has_spanTo _ _ _ (by omega) hc]
              by_cases c1 : c < b
              · rw [decide_eq_true c1, decide_eq_true (show c < k by omega), decide_eq_false (by omega), Bool.or_false]
              · rw [decide_eq_false c1, Bool.and_false, Bool.false_or]
                by_cases c2 : c < k
                · rw [decide_eq_true c2, Bool.and_true, decide_eq_true (by omega)]
                  by_cases c3 : c = b
                  · rw [c3]; exact hx.symm
                  · exact (f3 c (by omega) c2).symm
                · rw [decide_eq_false c2, Bool.and_false, decide_eq_false (by omega)]) (by omega)
            refine ⟨y, ?_, hy2⟩
            rw [hy1]
            simp only [Prod.mk.injEq, and_true, true_and]; omega
        · rw [if_neg hl, if_pos (by omega)] at h hf ⊢
          have h' : At s i (signM b ++ (prA x (b + 1) ++ 93 :: t)) := by simpa [List.append_assoc] using h
          have h2 : At s (i + (signM b).length) (prA x (b + 1) ++ 93 :: t) := h'.append
          have h45 : isM s (i + (signM b).length) 45 = false := by
            rcases prA_head x _ (b + 1) rfl with ⟨hh, -⟩ | ⟨y, r, hh, hy, -, -⟩
            · rw [hh] at h2
              have h3 : At s (i + (signM b).length) (93 :: t) := h2
              rw [h3.is]; rfl
            · rw [hh] at h2
              have h3 : At s (i + (signM b).length) (y :: (r ++ 93 :: t)) := h2
              rw [h3.is, beq_eq_false_iff_ne]; exact hy
          have hp := rdPart_short h' h45
          have h93 : isM s i 93 = false := by
            obtain ⟨y, r', hy, -, h3, -⟩ := sign_head b (prA x (b + 1) ++ 93 :: t)
            rw [hy] at h'
            rw [h'.is, beq_eq_false_iff_ne]; exact h3
          have hpos : 0 < (signM b).length := by unfold signM; split <;> simp
          simp only [List.length_append] at hf ⊢
          cases f with
          | zero => omega
          | succ f =>
            rw [rdGo, if_pos ⟨rfl, h93⟩, hp]
            obtain ⟨y, hy1, hy2⟩ := ih (256 - (b + 1)) (by omega) (b + 1) _ f (orM out (spanTo b 1)) rfl (by omega) h2 (fun c hc => by
              rw [has_orM _ _ _ hc, ho c hc, has_spanTo _ _ _ (by omega) hc]
              by_cases c1 : c < b
              · rw [decide_eq_true c1, decide_eq_true (show c < b + 1 by omega), decide_eq_false (by omega), Bool.or_false]
              · rw [decide_eq_false c1, Bool.and_false, Bool.false_or]
                by_cases c2 : c < b + 1
                · rw [decide_eq_true c2, Bool.and_true, decide_eq_true (by omega), show c = b from by omega]; exact hx.symm
                · rw [decide_eq_false c2, Bool.and_false, decide_eq_false (by omega)]) (by omega)
            refine ⟨y, ?_, hy2⟩
            rw [hy1]
            simp only [Prod.mk.injEq, and_true, true_and]; omega
      · have hs : prA x b = prA x (b + 1) := by
          rw [prA_step x b (by omega), runEnd_stop x b (fun hh => hx hh.2), if_neg (by omega), if_neg (by omega)]
        rw [hs] at h hf ⊢
        refine ih (256 - (b + 1)) (by omega) (b + 1) i f out rfl (by omega) h (fun c hc => ?_) hf
        rw [ho c hc]
        by_cases c1 : c = b
        · rw [c1, show x.has b = false from by simpa using hx]; rfl
        · rw [show decide (c < b) = decide (c < b + 1) from by rw [decide_eq_decide]; omega]

theorem bytes_none (x : BSet) (h : ∀ c, c < 256 → x.has c = false) : (bytesM x).length = 0 := by
  rw [← List.length_map (f := UInt8.toNat), bytes_risen, risen, List.length_eq_zero_iff, List.filter_eq_nil_iff]
  intro c hc
  rw [List.mem_range'_1] at hc
  rw [h c (by omega)]; simp
theorem bytes_all (x : BSet) (h : ∀ c, c < 256 → x.has c = true) : (bytesM x).length = 256 := by
  rw [← List.length_map (f := UInt8.toNat), bytes_risen, risen, List.filter_eq_self.2, List.length_range']
  intro c hc
  rw [List.mem_range'_1] at hc
  exact h c (by omega)
theorem orM_zero (x : BSet) : orM BSet.zero x = x := by
  refine BSet.ext_has fun c hc => ?_
  rw [has_orM _ _ _ hc, has_zero, Bool.false_or]

theorem rdFirst (s : ByteArray) (i f : Nat) (h : isM s i 93 = false) : rdGo s f (rdPart s i).1 (rdPart s i).2.1 (rdPart s i).2.2 = rdGo s (f + 1) BSet.zero i 0 := by
  rw [rdGo, if_pos ⟨rfl, h⟩, orM_zero]
theorem At.size {s : ByteArray} {l : List Nat} (h : At s 0 l) : s.size = l.length := by
  have := congrArg List.length (show (s.data.toList.drop 0).map UInt8.toNat = l from h)
  rw [List.length_map, List.drop_zero] at this
  simpa using this
/-- A set's text is read back, whatever stands behind it. -/
theorem rdWhole_text (s : ByteArray) (x : BSet) (t : List Nat) (h : At s 0 (textM x ++ t)) : rdWhole s = (x, (textM x).length, 0) := by
  have hsz := h.size
  unfold textM at h hsz ⊢
  by_cases hp : prNot x = true
  · rw [if_pos hp] at h hsz ⊢
    have h0 : At s 0 (91 :: (94 :: (prA (notM x) 0 ++ 93 :: t))) := by simpa [List.append_assoc] using h
    have h1 : At s 1 (94 :: (prA (notM x) 0 ++ 93 :: t)) := h0.cons.2.2
    have h2 : At s 2 (prA (notM x) 0 ++ 93 :: t) := h1.cons.2.2
    have hne : (bytesM x).length ≠ 256 := by
      intro h0
      rw [prNot, h0] at hp
      simp at hp
    rcases prA_head (notM x) _ 0 rfl with ⟨-, hh⟩ | ⟨y, r, hh, -, hy2, hy3⟩
    · exact absurd (bytes_all x (fun c hc => by have := hh c (Nat.zero_le _) hc; rw [has_notM _ _ hc] at this; simpa using this)) hne
    · have h3 : At s 2 (y :: (r ++ 93 :: t)) := by rw [hh] at h2; exact h2
      have h94 : isM s 1 94 = true := by rw [h1.is]; rfl
      have h93 : isM s 2 93 = false := by rw [h3.is, beq_eq_false_iff_ne]; exact hy2
      simp only [List.length_append, List.length_cons, List.length_nil] at hsz ⊢
      obtain ⟨z, hz1, hz2⟩ := rdGo_prA s (notM x) t 256 0 2 (s.size + 1 + 1) BSet.zero rfl (by omega) h2 (fun c _ => by rw [has_zero]; simp) (by omega)
      have he : notM z = x := BSet.ext_has fun c hc => by rw [has_notM _ _ hc, hz2 c hc, has_notM _ _ hc, Bool.not_not]
      simp only [rdWhole, h94, if_true]
      rw [if_pos (by rw [h0.is]; rfl), rdFirst s 2 _ h93, hz1]
      simp only [if_true]
      rw [he, show 2 + (prA (notM x) 0).length + 1 = (0 + 1 + 1) + (prA (notM x) 0).length + (0 + 1) from by omega]
  · rw [if_neg hp] at h hsz ⊢
    have h0 : At s 0 (91 :: (prA x 0 ++ 93 :: t)) := by simpa [List.append_assoc] using h
    have h1 : At s 1 (prA x 0 ++ 93 :: t) := h0.cons.2.2
    have hne : (bytesM x).length ≠ 0 := by
      intro h0
      rw [prNot, h0] at hp
      simp at hp
    rcases prA_head x _ 0 rfl with ⟨-, hh⟩ | ⟨y, r, hh, -, hy2, hy3⟩
    · exact absurd (bytes_none x (fun c hc => hh c (Nat.zero_le _) hc)) hne
    · have h2 : At s 1 (y :: (r ++ 93 :: t)) := by rw [hh] at h1; exact h1
      have h94 : isM s 1 94 = false := by rw [h2.is, beq_eq_false_iff_ne]; exact hy3
      have h93 : isM s 1 93 = false := by rw [h2.is, beq_eq_false_iff_ne]; exact hy2
      simp only [List.length_append, List.length_cons, List.length_nil] at hsz ⊢
      obtain ⟨z, hz1, hz2⟩ := rdGo_prA s x t 256 0 1 (s.size + 1 + 1) BSet.zero rfl (by omega) h1 (fun c _ => by rw [has_zero]; simp) (by omega)
      have he : z = x := BSet.ext_has hz2
      subst he
      simp only [rdWhole, h94, Bool.false_eq_true, if_false]
      rw [if_pos (by rw [h0.is]; rfl), rdFirst s 1 _ h93, hz1]
      simp only [if_true]
end Go.Proofs.Ytdhoedohchbagaa
