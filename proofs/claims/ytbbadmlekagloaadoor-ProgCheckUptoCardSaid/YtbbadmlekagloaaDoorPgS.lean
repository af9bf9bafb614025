/- layer prog: functions and instructions as arguments; own work. -/
import Derived.Test.YtbbadmlekagloaaDoorPgA
import Derived.Test.YtbbadmlekagloaaDoorShQ
namespace Go.Proofs.YtbbadmlekagloaaDoor
open Go Go.Sh
attribute [local irreducible] Blk Ext RdS
theorem u_int : Tryd.prog.underlying 3 = some (.int .i64) := (T.ok.1.get (t := 3) (i := T.t3) rfl).1
theorem u_int64 : Tryd.prog.underlying 2 = some (.int .i64) := (T.ok.1.get (t := 2) (i := T.t2) rfl).1
theorem u_ins : Tryd.prog.underlying 35 = some T.t35.desc := (T.ok.1.get (t := 35) rfl).1
theorem u_fun : Tryd.prog.underlying 24 = some T.t24.desc := (T.ok.1.get (t := 24) rfl).1
theorem u_code : Tryd.prog.underlying 22 = some (.slice 35) := (T.ok.1.get (t := 22) (i := T.t22) rfl).1
theorem n_int : Tryd.prog.cellsOf 3 = 1 := by kernel_rfl
theorem n_int64 : Tryd.prog.cellsOf 2 = 1 := by kernel_rfl
theorem n_ins : Tryd.prog.cellsOf 35 = 5 := by kernel_rfl
theorem n_fun : Tryd.prog.cellsOf 24 = 4 := by kernel_rfl
theorem n_code : Tryd.prog.cellsOf 22 = 1 := by kernel_rfl
theorem len5 {α : Type} : ∀ {l : List α}, l.length = 5 → ∃ a b c d e, l = [a, b, c, d, e]
  | [a, b, c, d, e], _ => ⟨a, b, c, d, e, rfl⟩
theorem len4 {α : Type} : ∀ {l : List α}, l.length = 4 → ∃ a b c d, l = [a, b, c, d]
  | [a, b, c, d], _ => ⟨a, b, c, d, rfl⟩
section
variable {H : Type} {enc : TypeId × Value → H} {w : World} {sp : Nat → Bool} {held : Bool}
theorem read_ins (fuel : Nat) (cs : List Value) (x : DataW H × List MemPlace) (h : DataW.trod enc Tryd.prog w 0 sp held fuel 35 cs = some x) : ∃ a : Ins, cs.length = 5 ∧ cs = a.enc ∧ True := by
  obtain ⟨xs, n, _, _, hl, hxs, hf⟩ := DataW.trod_struct u_ins h
  rw [n_ins] at hl
  obtain ⟨c0, c1, c2, c3, c4, rfl⟩ := len5 hl
  have hx5 : xs.length = 5 := hxs
  have g (i : Nat) (hi : i < 5) : ∃ y, xs[i]? = some y := ⟨_, List.getElem?_eq_getElem (by omega)⟩
  have f0 : DataW.trod enc Tryd.prog w 0 sp held n 3 ((List.drop 0 [c0, c1, c2, c3, c4]).take (Tryd.prog.cellsOf 3)) = xs[0]? := hf 0 _ rfl
  have f1 : DataW.trod enc Tryd.prog w 0 sp held n 3 ((List.drop 1 [c0, c1, c2, c3, c4]).take (Tryd.prog.cellsOf 3)) = xs[1]? := hf 1 _ rfl
  have f2 : DataW.trod enc Tryd.prog w 0 sp held n 3 ((List.drop 2 [c0, c1, c2, c3, c4]).take (Tryd.prog.cellsOf 3)) = xs[2]? := hf 2 _ rfl
  have f3 : DataW.trod enc Tryd.prog w 0 sp held n 3 ((List.drop 3 [c0, c1, c2, c3, c4]).take (Tryd.prog.cellsOf 3)) = xs[3]? := hf 3 _ rfl
  have f4 : DataW.trod enc Tryd.prog w 0 sp held n 2 ((List.drop 4 [c0, c1, c2, c3, c4]).take (Tryd.prog.cellsOf 2)) = xs[4]? := hf 4 _ rfl
  obtain ⟨y0, e0⟩ := g 0 (by decide)
  obtain ⟨y1, e1⟩ := g 1 (by decide)
  obtain ⟨y2, e2⟩ := g 2 (by decide)
  obtain ⟨y3, e3⟩ := g 3 (by decide)
  obtain ⟨y4, e4⟩ := g 4 (by decide)
  rw [e0] at f0; rw [e1] at f1; rw [e2] at f2; rw [e3] at f3; rw [e4] at f4
  rw [n_int] at f0 f1 f2 f3
  rw [n_int64] at f4
  obtain ⟨n0, q0, _, _⟩ := read_int u_int f0
  obtain ⟨n1, q1, _, _⟩ := read_int u_int f1
  obtain ⟨n2, q2, _, _⟩ := read_int u_int f2
  obtain ⟨n3, q3, _, _⟩ := read_int u_int f3
  obtain ⟨n4, q4, _, _⟩ := read_int u_int64 f4
  simp at q0 q1 q2 q3 q4
  subst q0 q1 q2 q3 q4
  exact ⟨⟨n0, n1, n2, n3, n4⟩, rfl, rfl, trivial⟩
theorem read_fun (fuel : Nat) (cs : List Value) (x : DataW H × List MemPlace) (h : DataW.trod enc Tryd.prog w 0 sp held fuel 24 cs = some x) :
    ∃ (f : Fn) (A : Option Addr) (c : Nat), cs = (f.v A c).cells.toList ∧ RdC w A f.code ∧ f.code.length ≤ c ∧ c ≤ maxLen ∧ (A = none → c = 0) ∧ (f.code = [] ∨ ∃ ps es rest, x.1 = .agg ps ∧ DataW.slice es rest ∈ ps ∧ es.length = f.code.length) := by
  obtain ⟨xs, n, _, hx, hl, hxs, hf⟩ := DataW.trod_struct u_fun h
  rw [n_fun] at hl
  obtain ⟨c0, c1, c2, c3, rfl⟩ := len4 hl
  have hx4 : xs.length = 4 := hxs
  have g (i : Nat) (hi : i < 4) : ∃ y, xs[i]? = some y := ⟨_, List.getElem?_eq_getElem (by omega)⟩
  have f0 : DataW.trod enc Tryd.prog w 0 sp held n 3 ((List.drop 0 [c0, c1, c2, c3]).take (Tryd.prog.cellsOf 3)) = xs[0]? := hf 0 _ rfl
  have f1 : DataW.trod enc Tryd.prog w 0 sp held n 3 ((List.drop 1 [c0, c1, c2, c3]).take (Tryd.prog.cellsOf 3)) = xs[1]? := hf 1 _ rfl
  have f2 : DataW.trod enc Tryd.prog w 0 sp held n 3 ((List.drop 2 [c0, c1, c2, c3]).take (Tryd.prog.cellsOf 3)) = xs[2]? := hf 2 _ rfl
  have f3 : DataW.trod enc Tryd.prog w 0 sp held n 22 ((List.drop 3 [c0, c1, c2, c3]).take (Tryd.prog.cellsOf 22)) = xs[3]? := hf 3 _ rfl
  obtain ⟨y0, e0⟩ := g 0 (by decide)
  obtain ⟨y1, e1⟩ := g 1 (by decide)
  obtain ⟨y2, e2⟩ := g 2 (by decide)
  obtain ⟨y3, e3⟩ := g 3 (by decide)
  rw [e0] at f0; rw [e1] at f1; rw [e2] at f2; rw [e3] at f3
  rw [n_int] at f0 f1 f2
  rw [n_code] at f3
  obtain ⟨n0, q0, _, _⟩ := read_int u_int f0
  obtain ⟨n1, q1, _, _⟩ := read_int u_int f1
  obtain ⟨n2, q2, _, _⟩ := read_int u_int f2
  obtain ⟨A, l, c, q3, h1, h2, h3, h4, h5⟩ := read_slice (R := Fl Ins.enc) (Q := fun _ _ => True) u_code n_ins (by decide) read_ins f3
  simp at q0 q1 q2 q3
  subst q0 q1 q2 q3
  refine ⟨⟨n0, n1, n2, l⟩, A, c, rfl, by unfold RdC RdS; exact h4, h1, h2, h3, ?_⟩
  rcases h5 with h5 | ⟨es, rest, h6, h7, _⟩
  · exact .inl h5
  · refine .inr ⟨xs.map (·.1), es, rest, by rw [hx], ?_, h7⟩
    rw [← h6]
    exact List.mem_map.2 ⟨y3, List.mem_of_getElem? e3, rfl⟩
end
end Go.Proofs.YtbbadmlekagloaaDoor
