/- Keys of maps that are structs of numbers; own work. -/
import Derived.Test.YtbbadmlekagloaaDoorShN
import Derived.WideKeyRuns
namespace Go.Sh
open Go.RowKit
section
variable {P : Program} {T : List (Nat × TI)} {w : World}
theorem run_check_struct {t : TypeId} {fs : Array Field} {cs : Array Value} {b : Bool} {n : Nat} (hu : P.underlying t = some (.struct fs))
    (hf : ∀ f ∈ fs.toList, ∃ v, (part f.type cs f.offset).run P w = .ok v w ∧ (Instr.checkKey b n f.type v).run P w = .ok () w) : (Instr.checkKey b (n + 1) t (.agg cs)).run P w = .ok () w := by
  unfold Instr.checkKey
  simp only [Sem.run_bind, run_underlying hu, Result.andThen_ok]
  rw [← Array.forIn_toList]
  generalize fs.toList = l at hf
  clear hu
  induction l with
  | nil => simp
  | cons f r ih =>
    obtain ⟨v, h1, h2⟩ := hf f (by simp)
    have := ih (fun g hg => hf g (by simp [hg]))
    by_cases hn : f.name = "_"
    · simpa [hn] using this
    · simpa [hn, h1, h2] using this
theorem run_check_int {t : TypeId} {q : IntKind} {v : Value} {b : Bool} {n : Nat} (hu : P.underlying t = some (.int q)) : (Instr.checkKey b (n + 1) t v).run P w = .ok () w := by
  simp [Instr.checkKey, run_underlying hu]
end
theorem keyOK_struct {P : Program} {T : Tab} {κ : Type} [DecidableEq κ] {kv : κ → Value} (hT : TabOk P T) {K : TypeId} {ti : TI} {fs : Array Field} (ht : getT T.ts K = some ti) (hd : ti.desc = .struct fs)
    (hf : ∀ x, ∃ cs, kv x = .agg cs ∧ ∀ f ∈ fs.toList, ∃ v fi q, partF T.ts f.type cs.toList f.offset = some v ∧ getT T.ts f.type = some fi ∧ fi.desc = .int q)
    (heq : ∀ x y, eqF T.ts 8 K (kv x) (kv y) = some (decide (x = y))) (hbits : ∀ x, Instr.sameBits 10000 (kv x) (kv x) = true) : KeyOK P K kv := by
  have hu := (hT.1.get ht).1
  rw [hd] at hu
  refine ⟨fun b x w => ?_, ⟨_, hu, .inr ⟨fun x y => ?_, fun x y w => ?_⟩⟩, hbits⟩
  · obtain ⟨cs, hx, h⟩ := hf x
    rw [hx, show (10000 : Nat) = 9998 + 1 + 1 from rfl]
    refine run_check_struct hu fun f hm => ?_
    obtain ⟨v, fi, q, h1, h2, h3⟩ := h f hm
    have hq := (hT.1.get h2).1
    rw [h3] at hq
    exact ⟨v, run_part hT.1 w h1, run_check_int hq⟩
  · obtain ⟨cs, hx, _⟩ := hf x
    rw [hx]; rfl
  · exact run_eqF hT.1 8 _ (by decide) K _ _ _ w (heq x y)
end Go.Sh
