/- From a walk to a row: what the arguments read as, and that they read so still; own work. -/
import Derived.Test.YtbbadmlekagloaaDoorShP
import Derived.ReadAgain
import Derived.ChangeArms
import Derived.ChangeSame
import Derived.ChangeShapes
import Derived.Lib.LaidTab
namespace Go.Sh
open Go.RowKit Go.ChangeShapes
section
variable {H : Type} {enc : TypeId × Value → H} {P : Program}
theorem sameAt_ext {w w' : World} (e : Ext w w') {p : MemPlace} (h : p.block < w.heap.size) : w.sameAt w' p := by
  cases p with
  | cell b off => exact Below.cell e h
  | map b => exact Below.block e b h
theorem trodAll_ext {w w' : World} (e : Ext w w') {base : Nat} {spare : Nat → Bool} {held : Bool} : ∀ {ts : List TypeId} {vs : List Value} {ds : List (DataW H)} {ps : List MemPlace},
    DataW.TrodAll enc P w base spare held ts vs ds ps → (∀ p ∈ ps, p.block < w.heap.size) → DataW.TrodAll enc P w' base spare held ts vs ds ps
  | [], [], [], _, h, _ => h
  | _ :: _, _ :: _, _ :: _, _, ⟨p, q, ⟨n, hn⟩, h2, he⟩, hlt =>
    ⟨p, q, ⟨n, DataW.trod_carry n _ _ _ hn fun x hx => sameAt_ext e (hlt x (by rw [he]; exact List.mem_append_left _ hx))⟩, trodAll_ext e h2 (fun x hx => hlt x (by rw [he]; exact List.mem_append_right _ hx)), he⟩
theorem keptBut_ext {w w' : World} (e : Ext w w') (may : MemPlace → Prop) : w.keptBut w' may := by
  refine ⟨Below.os e, Below.output e, fun i hi => ?_⟩
  rw [Below.block e i hi]
  cases w.heap[i]? with
  | none => rfl
  | some o => cases o <;> first | exact ⟨rfl, rfl, rfl, fun _ _ => rfl⟩ | exact .inr ⟨rfl, rfl⟩ | rfl
/-- what a law's row asks of a call that answers true and writes over nothing -/
theorem post_kept (K : Kids P (· < P.types.size)) (hz : ∀ t e, t < P.types.size → P.underlying t = some (.slice e) → 0 < P.cellsOf e) {f : Func} {s : ChangeSpec} {apart fresh handsOn : Bool} {W W' : World} {args : Array Value} {ds gs : List (DataW H)} {before : List MemPlace} {t : TypeId}
    (hW : DataW.Whole enc P f.params.toList s.vars apart W args.toList ds gs before) (hts : ∀ t ∈ f.params.toList, t < P.types.size) (hv : s.vars = []) (e : Ext W W')
    (hfn : s.fn H (ds ++ []) = { results := [.lit (.bool true)], args := ds }) (hr : f.resultTypes = #[t]) (ht : P.underlying t = some .bool) :
    s.post enc P f apart fresh handsOn false W args (.bool true) W' := by
  have hlt := hW.lt
  have hW0 := hW
  obtain ⟨p, q, h1, h2, rfl, _⟩ := hW0
  rw [hv] at h2
  obtain ⟨rfl, rfl⟩ := trodVars_none h2
  rw [List.append_nil] at hlt
  refine ⟨ds, [], p ++ [], [], p, [], hW, ?_, ?_, ?_, keptBut_ext e _, fun h => by cases h⟩
  · rw [hfn, hr]
    exact ⟨[], [], shut_bool ht true, rfl, rfl⟩
  · rw [hfn]
    refine DataW.TrodAll.respare K hz hts (trodAll_ext e h1 hlt) fun x hx => ?_
    simpa using hlt x hx
  · rw [hfn, hv]; rfl
theorem cell_lt {w : World} {a : Addr} {v : Value} (h : w.cell? a = some v) : a.block < w.heap.size := by
  unfold World.cell? at h
  split at h
  · rename_i h1
    exact (Array.getElem?_eq_some_iff.1 h1).1
  · simp at h
theorem exists_list {α : Type} {Q : Nat → α → Prop} : ∀ (n : Nat), (∀ i, i < n → ∃ a, Q i a) → ∃ l : List α, l.length = n ∧ ∀ (i : Nat) (a : α), l[i]? = some a → Q i a
  | 0, _ => ⟨[], rfl, fun i a h => by simp at h⟩
  | n + 1, h => by
    obtain ⟨l, h1, h2⟩ := exists_list (Q := Q) n fun i hi => h i (by omega)
    obtain ⟨a, ha⟩ := h n (by omega)
    refine ⟨l ++ [a], by simp [h1], fun i b hb => ?_⟩
    rcases Nat.lt_or_ge i l.length with hl | hl
    · rw [List.getElem?_append_left hl] at hb; exact h2 i b hb
    · have : i = l.length := by have := (List.getElem?_eq_some_iff.1 hb).1; simp at this; omega
      subst this
      simp at hb; subst hb
      rw [h1]; exact ha
variable {w : World} {sp : Nat → Bool} {held : Bool} {fuel : Nat} {t : TypeId} {cs : List Value} {x : DataW H × List MemPlace}
theorem read_int {k : IntKind} (ht : P.underlying t = some (.int k)) (h : DataW.trod enc P w 0 sp held fuel t cs = some x) : ∃ n, cs = [.int k n] ∧ (Lit.int k n).wf = true ∧ x.1 = .lit (.int k n) := by
  cases fuel with
  | zero => simp [DataW.trod] at h
  | succ n =>
    unfold DataW.trod at h
    rw [ht] at h
    simp only at h
    split at h <;> try (rename_i he; simp at he; done)
    all_goals first
      | (rename_i k1 k2 m he
         simp only [Option.some.injEq, TypeDesc.int.injEq] at he
         subst he
         split at h
         · rename_i hc
           obtain ⟨rfl, hw⟩ := hc
           simp at h; subst h
           exact ⟨m, rfl, hw, rfl⟩
         · simp at h)
      | simp at h
theorem read_slice {α : Type} {R : World → α → List Value → Prop} {Q : α → DataW H → Prop} {e : TypeId} {sz : Nat} (ht : P.underlying t = some (.slice e)) (hsz : P.cellsOf e = sz) (hpos : 0 < sz)
    (he : ∀ fuel cs y, DataW.trod enc P w 0 sp held fuel e cs = some y → ∃ a, cs.length = sz ∧ R w a cs ∧ Q a y.1) (h : DataW.trod enc P w 0 sp held fuel t cs = some x) :
    ∃ (A : Option Addr) (l : List α) (c : Nat), cs = [.slice A l.length c] ∧ l.length ≤ c ∧ c ≤ maxLen ∧ (A = none → c = 0) ∧ Rd R sz w w.heap.size A l ∧
      (l = [] ∨ ∃ es rest, x.1 = .slice es rest ∧ es.length = l.length ∧ ∀ (i : Nat) (a : α) (d : DataW H), l[i]? = some a → es[i]? = some d → Q a d) := by
  rcases DataW.trod_slice ht h with ⟨rfl, rfl⟩ | ⟨a, len, cap, elems, rest, n, _, rfl, rfl, _, hl, hm, hlen, hel, _⟩
  · exact ⟨none, [], 0, rfl, by simp, by simp, fun _ => rfl, Rd.nil, .inl rfl⟩
  · rw [hsz] at hel
    obtain ⟨l, h1, h2⟩ := exists_list (Q := fun i (b : α) => ∃ vs, vs.length = sz ∧ w.cells? 0 (a.add (i * sz)) sz = some vs ∧ R w b vs ∧ ∀ d, (elems.map (·.1))[i]? = some d → Q b d) len (fun i hi => by
      have hi' : i < elems.length := by omega
      have := hel i hi
      rw [List.getElem?_eq_getElem hi', Option.bind_eq_some_iff] at this
      obtain ⟨vs, hv, hy⟩ := this
      obtain ⟨b, hb1, hb2, hb3⟩ := he _ _ _ hy
      refine ⟨b, vs, hb1, hv, hb2, fun d hd => ?_⟩
      rw [List.getElem?_map, List.getElem?_eq_getElem hi'] at hd
      simp at hd; subst hd; exact hb3)
    have hcell : ∀ i b, l[i]? = some b → ∃ vs, vs.length = sz ∧ R w b vs ∧ ∀ j v, vs[j]? = some v → w.cell? (a.add (i * sz + j)) = some v := by
      intro i b hb
      obtain ⟨vs, g1, g2, g3, _⟩ := h2 i b hb
      refine ⟨vs, g1, g3, fun j v hv => ?_⟩
      unfold World.cells? at g2
      rw [if_pos (Nat.zero_le _)] at g2
      have hj : j < sz := by have := (List.getElem?_eq_some_iff.1 hv).1; omega
      have := Lib.mapM_at g2 j j (by simp [hj])
      obtain ⟨u, hu1, hu2⟩ := this
      rw [hv] at hu1; simp at hu1; subst hu1
      rw [← add_add]; exact hu2
    refine ⟨some a, l, cap, by rw [h1], by omega, hm, fun h => by simp at h, ⟨fun hn => ⟨by simp, ?_⟩, fun i b hb => hcell i b hb⟩, .inr ⟨elems.map (·.1), rest.map (·.1), rfl, by rw [List.length_map, hlen, h1], fun i b d hb hd => ?_⟩⟩
    · obtain ⟨b, hb⟩ : ∃ b, l[0]? = some b := ⟨l[0]'(List.length_pos_iff.2 hn), List.getElem?_eq_getElem _⟩
      obtain ⟨vs, g1, _, g3⟩ := hcell 0 b hb
      have := g3 0 vs[0] (List.getElem?_eq_getElem (by omega))
      simp only [gA]
      rw [← block_add a (0 * sz + 0)]
      exact cell_lt this
    · obtain ⟨_, _, _, _, g⟩ := h2 i b hb
      exact g d hd
end
end Go.Sh
