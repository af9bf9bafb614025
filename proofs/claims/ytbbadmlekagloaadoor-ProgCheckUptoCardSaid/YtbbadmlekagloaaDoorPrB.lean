/- layer prog: programs as arguments; own work. -/
import Derived.Test.YtbbadmlekagloaaDoorPrA
import Derived.Test.YtbbadmlekagloaaDoorPhB
namespace Go.Proofs.YtbbadmlekagloaaDoor
open Go Go.Sh
set_option linter.unusedVariables false
set_option linter.unusedSimpArgs false
attribute [local irreducible] Blk Ext RdS
theorem u_prog : Tryd.prog.underlying 46 = some T.t46.desc := (T.ok.1.get (t := 46) rfl).1
theorem u_funs : Tryd.prog.underlying 44 = some (.slice 24) := (T.ok.1.get (t := 44) (i := T.t44) rfl).1
theorem n_prog : Tryd.prog.cellsOf 46 = 1 := by kernel_rfl
theorem n_funs : Tryd.prog.cellsOf 44 = 1 := by kernel_rfl
def FunAt (w : World) (a : FE) (cs : List Value) : Prop := cs = a.enc ∧ RdC w a.2.1 a.1.code
section
variable {H : Type} {enc : TypeId × Value → H} {w : World} {sp : Nat → Bool} {held : Bool}
theorem fun_bulk {fuel : Nat} {cs : List Value} {x : DataW H × List MemPlace} (h : DataW.trod enc Tryd.prog w 0 sp held fuel 24 cs = some x) : ∃ a : FE, cs.length = 4 ∧ FunAt w a cs ∧ a.1.code.length ≤ Rows.uptoBulk x.1 := by
  obtain ⟨f, A, c, h1, h2, h3, h4, h5, h6⟩ := read_fun fuel cs x h
  refine ⟨(f, A, c), by rw [h1]; rfl, ⟨h1, h2⟩, ?_⟩
  rcases h6 with h6 | ⟨ps, es, rest, h7, h8, h9⟩
  · simp [h6]
  · have hp := part_le h8
    have hl := len_le es
    rw [show x.1 = .agg ps from h7]
    simp only [Rows.uptoBulk] at hp ⊢
    omega
set_option maxRecDepth 100000 in
theorem read_prog {fuel : Nat} {cs : List Value} {x : DataW H × List MemPlace} (h : DataW.trod enc Tryd.prog w 0 sp held fuel 46 cs = some x) :
    ∃ (l : List FE) (A : Option Addr) (c : Nat), cs = [.slice A l.length c] ∧ RdP w A l ∧ l.length ≤ c ∧ c ≤ maxLen ∧ (A = none → c = 0) ∧ l.length ≤ Rows.uptoBulk x.1 ∧ ∀ y ∈ l, y.1.code.length ≤ Rows.uptoBulk x.1 := by
  obtain ⟨xs, n, _, hx, hl, hxs, hf⟩ := DataW.trod_struct u_prog h
  rw [n_prog] at hl
  obtain ⟨c0, rfl⟩ : ∃ c0, cs = [c0] := by
    match cs, hl with
    | [a], _ => exact ⟨a, rfl⟩
  obtain ⟨y0, rfl⟩ : ∃ y0, xs = [y0] := by
    match xs, (show xs.length = 1 from hxs) with
    | [a], _ => exact ⟨a, rfl⟩
  have f0 : DataW.trod enc Tryd.prog w 0 sp held n 44 ((List.drop 0 [c0]).take (Tryd.prog.cellsOf 44)) = some y0 := hf 0 _ rfl
  rw [n_funs] at f0
  obtain ⟨A, l, c, h1, h2, h3, h4, h5, h6⟩ := read_slice (R := FunAt) (Q := fun a d => a.1.code.length ≤ Rows.uptoBulk d) (sz := 4) u_funs n_fun (by decide) (fun fuel cs y hy => fun_bulk hy) f0
  have h1 : [c0] = [.slice A l.length c] := h1
  refine ⟨l, A, c, h1, ⟨?_, fun z hz => ?_⟩, h2, h3, h4, ?_⟩
  · unfold RdS
    refine ⟨h5.some, fun i z hz => ?_⟩
    obtain ⟨vs, q1, q2, q3⟩ := h5.at_ i z hz
    exact ⟨vs, q1, q2.1, q3⟩
  · obtain ⟨i, hi⟩ := List.getElem?_of_mem hz
    obtain ⟨vs, q1, q2, q3⟩ := h5.at_ i z hi
    exact q2.2
  · rcases h6 with h6 | ⟨es, rest, h7, h8, h9⟩
    · subst h6; exact ⟨by simp, by simp⟩
    · have hb : x.1 = .agg [.slice es rest] := by rw [hx]; simp [h7]
      have hle : Rows.uptoBulkAll es ≤ Rows.uptoBulk x.1 := by rw [hb]; simp only [Rows.uptoBulk, Rows.uptoBulkAll]; omega
      refine ⟨by have := len_le es; omega, fun z hz => ?_⟩
      obtain ⟨i, hi⟩ := List.getElem?_of_mem hz
      obtain ⟨d, hd⟩ : ∃ d, es[i]? = some d := ⟨_, List.getElem?_eq_getElem (by rw [h8]; exact (List.getElem?_eq_some_iff.1 hi).1)⟩
      have := h9 i z d hi hd
      have := part_le (List.mem_of_getElem? hd)
      omega
set_option maxRecDepth 100000 in
theorem arg_prog {v : Value} {d : DataW H} {p : List MemPlace} {r : Go.Reach} {b0 : Nat} (hv : Value.okWide Tryd.prog w r b0 46 v) (h : DataW.Trod enc Tryd.prog w 0 sp held 46 v d p) :
    ∃ (l : List FE) (A : Option Addr) (c : Nat), v = pv A l.length c ∧ RdP w A l ∧ l.length ≤ c ∧ c ≤ maxLen ∧ l.length ≤ Rows.uptoBulk d ∧ ∀ y ∈ l, y.1.code.length ≤ Rows.uptoBulk d := by
  obtain ⟨n, hn⟩ := h
  obtain ⟨l, A, c, h1, h2, h3, h4, h5, h6, h7⟩ := read_prog hn
  refine ⟨l, A, c, ?_, h2, h3, h4, h6, h7⟩
  unfold Value.okWide at hv
  rw [u_prog] at hv
  obtain ⟨cs, rfl, _, _⟩ := hv
  have : cs.toList = [.slice A l.length c] := h1
  rw [pv]
  congr 1
  exact Array.ext' this
end
def noProg : Value := .agg #[.slice none 0 0]
end Go.Proofs.YtbbadmlekagloaaDoor
