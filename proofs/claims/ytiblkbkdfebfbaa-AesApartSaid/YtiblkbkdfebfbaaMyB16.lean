/- An array of sixteen bytes that came in, opened. No conditions. -/
import Derived.Test.YtiblkbkdfebfbaaMyArr
import Derived.OpenShut
import Derived.ProofKit
namespace Go.Proofs.Ytiblkbkdfebfbaa.Aes
open Go.RowKit Go.Proofs.Ytiblkbkdfebfbaa.Own

theorem byte_of' (a : Int) (h : (Lit.int .u8 a).wf = true) : ∃ b : B8, a = (b.toNat : Int) := by
  have h2 : IntKind.u8.min ≤ a ∧ a ≤ IntKind.u8.max := by simpa [Lit.wf] using h
  have h3 : IntKind.u8.min = 0 := rfl
  have h4 : IntKind.u8.max = 255 := rfl
  exact ⟨BitVec.ofNat 8 a.toNat, by rw [BitVec.toNat_ofNat]; omega⟩
theorem open_b16 {H : Type} {enc : TypeId × Value → H} {W : World} {base b0 : Nat} {spare : Nat → Bool} {held : Bool} {v : Value} {d : DataW H} {ps : List MemPlace}
    (hval : Value.okWide Try.prog W .any b0 23 v) (hd : DataW.Trod enc Try.prog W base spare held 23 v d ps) : ∃ f : Nat → B8, v = .agg (ba 16 f) := by
  simp only [Value.okWide, Try.underlying23] at hval
  obtain ⟨cs, rfl, hsz, _⟩ := hval
  have h16 : cs.size = 16 := hsz.trans (by kernel_rfl)
  obtain ⟨fuel, hf⟩ := hd
  obtain ⟨xs, m, _, _, _, hl, hel⟩ := DataW.trod_array Try.underlying23 hf
  have hc : Try.prog.cellsOf 5 = 1 := by kernel_rfl
  have key : ∀ i, i < 16 → ∃ b : B8, cs[i]? = some (.int .u8 (b.toNat : Int)) := by
    intro i hi
    have h1 := hel i hi
    rw [List.getElem?_eq_getElem (by omega), hc] at h1
    obtain ⟨n, hn, _, hw⟩ := DataW.trod_int Try.underlying5 h1
    obtain ⟨b, rfl⟩ := byte_of' n hw
    refine ⟨b, ?_⟩
    have h2 := congrArg (·[0]?) hn
    simp [Value.cells] at h2
    exact h2
  have key' : ∀ i : Nat, ∃ b : B8, i < 16 → cs[i]? = some (.int .u8 (b.toNat : Int)) := by
    intro i
    by_cases hi : i < 16
    · obtain ⟨b, hb⟩ := key i hi
      exact ⟨b, fun _ => hb⟩
    · exact ⟨0#8, fun h => absurd h hi⟩
  obtain ⟨f, hf'⟩ := Classical.axiomOfChoice key'
  refine ⟨f, ?_⟩
  congr 1
  apply Array.ext_getElem?
  intro i
  by_cases hi : i < 16
  · rw [ba_get 16 _ i hi, hf' i hi]
  · rw [Array.getElem?_eq_none (by omega), Array.getElem?_eq_none (by rw [ba_size]; omega)]
end Go.Proofs.Ytiblkbkdfebfbaa.Aes
