/- Law 22's begin: both dialogues of a play. What a dialogue sends, in plain Lean: what was taken is the texts sent, then a head of the op's text. -/
import Derived.Test.YtpkkfdmhbbipoaaGreatRg
import Derived.Test.YtpkkfdmhbbipoaaGreatEb
import Derived.Test.YtpkkfdmhbbipoaaGreatDk
namespace Go.Proofs.YtpkkfdmhbbipoaaGreat
open Go.RowKit PopT
theorem Zpy (p : Xl) (most : Nat) : ∀ o ∈ (Zer p most).ops, ∀ a ∈ o.arms, a.pat.size ≤ 1000000 := by
 intro o ho a ha;obtain ⟨o2, _, rfl⟩ := List.mem_map.1 ho;obtain ⟨a2, _, rfl⟩ := List.mem_map.1 ha;have := Za8 70 a2.pat;show (Kk 70 a2.pat).size ≤ _;omega
theorem Zf8 (a : ByteArray) : a ++ ⟨#[]⟩ = a := by apply ByteArray.ext; simp
theorem Zcn {a : ByteArray} (h : a.size = 0) : a = ⟨#[]⟩ := (Gc a).2 h
def Zmk (x : Zf) : Prop := x.pd.sent ≤ x.pd.laid ∧ x.pd.laid ≤ x.pd.text.size
structure Zsp (x : Zf) (sent part : ByteArray) : Prop where
 rest : part.size ≠ 0 → x.loc < x.p.ops.length ∧ part.size ≤ x.op.text.size ∧ x.op.text.extract 0 part.size = part
 sends : x.st = 0 → x.op.kind = 1 → x.pd.text = x.op.text ∧ part = x.pd.text.extract 0 x.pd.sent
 none : x.st = 0 → x.op.kind ≠ 1 → part.size = 0 ∧ x.pd.sent = x.pd.laid
theorem Zl.pdOk {B d : Nat} {F : Nat → Prop} {w0 w : World} {x : Zf} (h : Zl B F w0 w d x) : Zmk x := by
 obtain ⟨gi, gb, gh, gp, F2, A, c, h⟩ := h;exact ⟨h.pend.2.1, h.pend.2.2.1⟩
end Go.Proofs.YtpkkfdmhbbipoaaGreat
