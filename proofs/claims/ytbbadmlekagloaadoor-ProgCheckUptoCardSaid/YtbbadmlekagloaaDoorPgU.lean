/- layer prog: what a row's list says of the program's table; own work. -/
import Derived.Test.YtbbadmlekagloaaDoorPgB
import Derived.Test.YtbbadmlekagloaaDoorPgS
import Derived.Test.YtbbadmlekagloaaDoorRows
import Derived.OpenShut
namespace Go.Proofs.YtbbadmlekagloaaDoor
open Go Go.Sh
attribute [local irreducible] Blk Ext RdS
theorem u_role : Tryd.prog.underlying 109 = some (.int .i64) := (T.ok.1.get (t := 109) (i := T.t109) rfl).1
theorem u_bool : Tryd.prog.underlying 4 = some .bool := (T.ok.1.get (t := 4) (i := T.t4) rfl).1
theorem u_line : Tryd.prog.underlying 110 = some T.t110.desc := (T.ok.1.get (t := 110) rfl).1
theorem u_lines : Tryd.prog.underlying 111 = some (.array 10 110) := (T.ok.1.get (t := 111) (i := T.t111) rfl).1
theorem n_role : Tryd.prog.cellsOf 109 = 1 := by kernel_rfl
theorem n_bool : Tryd.prog.cellsOf 4 = 1 := by kernel_rfl
theorem n_line : Tryd.prog.cellsOf 110 = 5 := by kernel_rfl
theorem n_lines : Tryd.prog.cellsOf 111 = 50 := by kernel_rfl
theorem g_fields : Tryd.prog.globalNamed "plunder/prog.fields" = some 0 := by kernel_rfl
theorem g_type : (Tryd.prog.globals[0]?).map (·.type) = some 111 := by kernel_rfl
def Row.data {H : Type} (r : Row) : DataW H := .agg [.lit (.int .i64 r.a), .lit (.int .i64 r.b), .lit (.int .i64 r.c), .lit (.int .i64 r.k), .lit (.bool r.nx)]
theorem laid_eq {H : Type} : (Rows.laid_plunder_prog_fields : DataW H) = .agg (rows10.map Row.data) := rfl
section
variable {H : Type} {enc : TypeId × Value → H} {w : World} {sp : Nat → Bool} {held : Bool}
theorem read_line (fuel : Nat) (cs : List Value) (x : DataW H × List MemPlace) (r : Row) (h : DataW.trod enc Tryd.prog w 0 sp held fuel 110 cs = some x) (hd : x.1 = r.data) : cs = r.enc := by
  obtain ⟨xs, n, _, hx, hl, hxs, hf⟩ := DataW.trod_struct u_line h
  rw [n_line] at hl
  obtain ⟨c0, c1, c2, c3, c4, rfl⟩ := len5 hl
  obtain ⟨y0, y1, y2, y3, y4, rfl⟩ := len5 (show xs.length = 5 from hxs)
  have f0 : DataW.trod enc Tryd.prog w 0 sp held n 109 ((List.drop 0 [c0, c1, c2, c3, c4]).take (Tryd.prog.cellsOf 109)) = some y0 := hf 0 _ rfl
  have f1 : DataW.trod enc Tryd.prog w 0 sp held n 109 ((List.drop 1 [c0, c1, c2, c3, c4]).take (Tryd.prog.cellsOf 109)) = some y1 := hf 1 _ rfl
  have f2 : DataW.trod enc Tryd.prog w 0 sp held n 109 ((List.drop 2 [c0, c1, c2, c3, c4]).take (Tryd.prog.cellsOf 109)) = some y2 := hf 2 _ rfl
  have f3 : DataW.trod enc Tryd.prog w 0 sp held n 109 ((List.drop 3 [c0, c1, c2, c3, c4]).take (Tryd.prog.cellsOf 109)) = some y3 := hf 3 _ rfl
  have f4 : DataW.trod enc Tryd.prog w 0 sp held n 4 ((List.drop 4 [c0, c1, c2, c3, c4]).take (Tryd.prog.cellsOf 4)) = some y4 := hf 4 _ rfl
  rw [n_role] at f0 f1 f2 f3
  rw [n_bool] at f4
  obtain ⟨n0, q0, e0, _⟩ := DataW.trod_int u_role f0
  obtain ⟨n1, q1, e1, _⟩ := DataW.trod_int u_role f1
  obtain ⟨n2, q2, e2, _⟩ := DataW.trod_int u_role f2
  obtain ⟨n3, q3, e3, _⟩ := DataW.trod_int u_role f3
  obtain ⟨n4, q4, e4⟩ := DataW.trod_bool u_bool f4
  simp at q0 q1 q2 q3 q4
  subst q0 q1 q2 q3 q4 e0 e1 e2 e3 e4 hx
  simp [Row.data] at hd
  obtain ⟨rfl, rfl, rfl, rfl, rfl⟩ := hd
  rfl
theorem lines_at {fuel : Nat} {cs : List Value} {x : DataW H × List MemPlace} (h : DataW.trod enc Tryd.prog w 0 sp held fuel 111 cs = some x) (hd : x.1 = .agg (rows10.map Row.data)) :
    cs.length = 50 ∧ ∀ (i : Nat) (r : Row), rows10[i]? = some r → (cs.drop (i * 5)).take 5 = r.enc := by
  obtain ⟨xs, m, _, rfl, hl, hxs, hf⟩ := DataW.trod_array u_lines h
  rw [n_lines] at hl
  rw [n_line] at hf
  refine ⟨hl, fun i r hr => ?_⟩
  have hi : i < 10 := by have := (List.getElem?_eq_some_iff.1 hr).1; simpa [rows10] using this
  have := hf i hi
  rw [List.getElem?_eq_getElem (by omega)] at this
  refine read_line m _ _ r this ?_
  have h2 : (xs.map (·.1))[i]? = (rows10.map Row.data)[i]? := by
    simp only [DataW.agg.injEq] at hd
    rw [hd]
  rw [List.getElem?_map, List.getElem?_map, hr, List.getElem?_eq_getElem (by omega)] at h2
  simpa using h2
end
/-- from a row's condition -/
theorem rdG_of {w : World} (h : laidMetH Tryd.prog [("plunder/prog.fields", Rows.laid_plunder_prog_fields)] w) : RdG w := by
  have h : laidMet Tryd.prog [("plunder/prog.fields", Rows.laid_plunder_prog_fields)] w := h
  obtain ⟨ps, ⟨g', t', cs, fuel, p, q, hg', ht', hvar, hd, _, _⟩, _⟩ := h
  obtain rfl := Option.some.inj (g_fields.symm.trans hg')
  obtain rfl := Option.some.inj (g_type.symm.trans ht')
  obtain ⟨hl, hat⟩ := lines_at hd laid_eq
  have hblk : ∃ tt fr, w.heap[0]? = some (.cells cs tt fr) := by
    simp only [World.var?, g_fields, Option.bind_some] at hvar
    split at hvar
    · rename_i c1 t1 f1 hh
      simp at hvar; subst hvar
      exact ⟨t1, f1, hh⟩
    · simp at hvar
  obtain ⟨tt, fr, hb⟩ := hblk
  unfold RdG RdS
  refine ⟨fun _ => ⟨by simp, (Array.getElem?_eq_some_iff.1 hb).1⟩, fun i r hr => ⟨r.enc, rfl, rfl, fun j v hv => ?_⟩⟩
  have := hat i r hr
  rw [← this] at hv
  have hj : j < 5 := by
    have := (List.getElem?_eq_some_iff.1 hv).1
    simp at this; omega
  rw [List.getElem?_take_of_lt hj, List.getElem?_drop] at hv
  simp only [gA]
  rw [add_lit]
  simp only [World.cell?, hb]
  rw [Nat.zero_add, ← Array.getElem?_toList]
  exact hv
end Go.Proofs.YtbbadmlekagloaaDoor
