/- Writes into a known set of blocks; appends that always move; own work. -/
import Derived.Test.YtbbadmlekagloaaDoorShO
namespace Go.Sh
open Go.RowKit
/-- of the blocks there were, those in S alone may have changed -/
structure Tch (S : Nat → Prop) (w w' : World) : Prop where
  os : w'.os = w.os
  tape : w'.tape = w.tape
  output : w'.output = w.output
  size : w.heap.size ≤ w'.heap.size
  block : ∀ k, k < w.heap.size → ¬ S k → w'.heap[k]? = w.heap[k]?
section
variable {S : Nat → Prop} {w0 w w' w'' : World}
theorem Tch.refl (S : Nat → Prop) (w : World) : Tch S w w := ⟨rfl, rfl, rfl, Nat.le_refl _, fun _ _ _ => rfl⟩
theorem Tch.ext (t : Tch S w w') (e : Ext w' w'') : Tch S w w'' :=
  ⟨(Below.os e).trans t.os, (Below.tape e).trans t.tape, (Below.output e).trans t.output, Nat.le_trans t.size (Below.size e), fun k hk hs => (Below.block e k (Nat.lt_of_lt_of_le hk t.size)).trans (t.block k hk hs)⟩
theorem Tch.upd {b : Nat} (t : Tch S w w') (u : Upd b w' w'') (hb : S b ∨ w.heap.size ≤ b) : Tch S w w'' :=
  ⟨u.os.trans t.os, u.tape.trans t.tape, u.output.trans t.output, by rw [u.size]; exact t.size, fun k hk hs => (u.block k fun e => by
    subst e
    rcases hb with h | h
    · exact hs h
    · omega).trans (t.block k hk hs)⟩
theorem Tch.of_ext (e : Ext w w') : Tch S w w' := (Tch.refl S w).ext e
theorem Ext.tch (e : Ext w0 w) (t : Tch S w w') (hS : ∀ k, S k → w0.heap.size ≤ k) : Ext w0 w' :=
  Below.trans e ⟨t.os, t.tape, t.output, t.size, fun k hk => t.block k (Nat.lt_of_lt_of_le hk (Below.size e)) fun h => by have := hS k h; omega⟩
theorem Blk.tch {b : Nat} {t : TypeId} {cs : List Value} (h : Blk w b t cs) (u : Tch S w w') (hb : ¬ S b) : Blk w' b t cs := (u.block b h.lt hb).trans h
theorem RdS.tch {α : Type} {enc : α → List Value} {sz : Nat} {A : Option Addr} {l : List α} (h : RdS enc sz w A l) (u : Tch S w w') (hb : ∀ b, obk A = some b → ¬ S b) : RdS enc sz w' A l :=
  h.keep u.size fun b hA hlt => u.block b hlt (hb b hA)
variable {α : Type} {enc : α → List Value} {sz : Nat} {e : TypeId} {A : Option Addr} {c : Nat} {l : List α} {P : Program} {T : Tab} {k : Value → World → Prop} {Y : List PanicEntry → World → Prop}
theorem Que.mono {B B' : Nat} (h : Que enc sz e w B A c l) (hB : B' ≤ B) : Que enc sz e w B' A c l := by
  refine ⟨h.sizes, h.le, ?_⟩
  rcases h.place with h1 | ⟨b, off, cs, h2, h3, r⟩
  · exact .inl h1
  · exact .inr ⟨b, off, cs, h2, Nat.le_trans hB h3, r⟩
/-- append(l, m...) where l is full: always new memory, whoever owns l -/
theorem Sm.appG (hT : TabOk P T) {t ty : TypeId} {ti ei : TI} {X : Option Addr} {m : List α} {n n2 c2 : Nat}
    (ht : getT T.ts t = some ti) (hd : ti.desc = .slice e) (he : getT T.ts e = some ei) (hsz : ei.size = sz) (hz : ei.zero.cells.size = sz) (hpos : 0 < sz)
    (h : RdS enc sz w A l) (hl : ∀ x ∈ l, (enc x).length = sz) (hn : n = l.length) (hA : A = none → c = 0) (hc : c < l.length + m.length) (hr : RdS enc sz w X m) (hn2 : n2 = m.length) (hne : m ≠ []) (hm : ∀ x ∈ m, (enc x).length = sz)
    (hlen : (l.length + m.length) * ei.bytes ≤ 140737488355328) (hlen2 : l.length + m.length ≤ 140737488355328)
    (hk : ∀ c' w', Que enc sz e w' w.heap.size (some ⟨w.heap.size, 0, none⟩) c' (l ++ m) → Ext w w' → k (.slice (some ⟨w.heap.size, 0, none⟩) (l ++ m).length c') w') : Sm P (Builtin.append_ #[t, t] ty #[.slice A n c, .slice X n2 c2]) w k Y := by
  subst hn hn2
  obtain ⟨j, hj, hjz, hjs, hjb⟩ := info_of hT.1 he
  have hu := (hT.1.get ht).1
  rw [hd] at hu
  have hjs' : j.size = sz := hjs.trans hsz
  have hfm := flat_len hm
  have hfl := flat_len hl
  have hm0 : 0 < m.length := List.length_pos_iff.2 hne
  obtain ⟨ad, rfl⟩ : ∃ ad, X = some ad := Option.ne_none_iff_exists'.1 (hr.some hne).1
  have hnews := src_cells hpos hr hm
  have hall : ∀ x ∈ l ++ m, (enc x).length = sz := fun x hx => (List.mem_append.1 hx).elim (hl x) (hm x)
  have grown : ∀ (c0 : Nat) (old : List Value), old = l.flatMap enc → l.length + m.length ≤ c0 → ∀ (p : Nat) (w2 : World), p = w.heap.size → w2 = w.drew.alloc (.cells (old.toArray ++ (m.flatMap enc).toArray ++ Builtin.zeroCells ei.zero.cells (c0 - (l.length + m.length))) e) →
      Que enc sz e w2 p (some ⟨p, 0, none⟩) c0 (l ++ m) ∧ Ext w w2 := by
    rintro c0 _ rfl hc p w2 rfl rfl
    refine ⟨Que.of_blk (cs := l.flatMap enc ++ m.flatMap enc ++ (Builtin.zeroCells ei.zero.cells (c0 - (l.length + m.length))).toList) ?_ (Nat.le_refl _) hall (by simp; omega) ?_ ?_, ⟨rfl, rfl, rfl, ?_, fun i hi => ?_⟩⟩
    · unfold Blk
      show (w.heap.push _)[w.heap.size]? = _
      simp
    · simp only [List.length_append, hfm, hfl, Array.length_toList, size_zeroCells, hz]
      rw [← Nat.add_mul, ← Nat.add_mul, Nat.zero_add]
      exact Nat.mul_le_mul_right _ (by omega)
    · intro j v hv
      rw [Nat.zero_add, ← List.flatMap_append, List.getElem?_append_left (List.getElem?_eq_some_iff.1 hv).1]
      exact hv
    · show w.heap.size ≤ (w.heap.push _).size
      simp
    · show (w.heap.push _)[i]? = _
      rw [Array.getElem?_push_lt hi, Array.getElem?_eq_getElem hi]
  have h63 : ((l.length + m.length : Nat) : Int) ≤ 9223372036854775807 := by omega
  refine ⟨?_⟩
  cases A with
  | none =>
    have hl0 : l = [] := by
      rcases l with _ | ⟨x, r⟩
      · rfl
      · exact absurd rfl (h.some (by simp)).1
    subst hl0
    obtain rfl := hA rfl
    simp only [List.length_nil, Nat.zero_add] at hlen h63 ⊢
    rw [run_append_nil w t ty e j ei.zero hu hj hjz ad m.length c2 (m.flatMap enc) (by rw [hfm, hjs']) hnews hm0 h63 (by rw [hjb]; omega)]
    obtain ⟨g1, g2⟩ := grown (grownCap w m.length 0 e) [] rfl (by simp; exact grownCap_ge _ _ _ _) _ (w.drew.alloc (.cells ((m.flatMap enc).toArray ++ Builtin.zeroCells ei.zero.cells (grownCap w m.length 0 e - m.length)) e)) rfl (by simp)
    have := hk _ _ g1 g2
    simpa using this
  | some b =>
    rw [run_append_grow w t ty e j ei.zero hu hj hjz b l.length c (l.flatMap enc) (by rw [hfl, hjs']) (src_cells hpos h hl) ad m.length c2 (m.flatMap enc) (by rw [hfm, hjs']) hnews hc h63 (growslice_fits hc (by rw [hjb]; exact hlen))]
    obtain ⟨g1, g2⟩ := grown (grownCap w (l.length + m.length) c e) _ rfl (grownCap_ge _ _ _ _) _ _ rfl rfl
    have := hk _ _ g1 g2
    simpa using this
/-- make([]T, n, c) -/
theorem Sm.makeQ (hT : TabOk P T) {t : TypeId} {ti ei : TI} {n c : Nat} {kl kc : IntKind} {a b : Int} {z : α}
    (ht : getT T.ts t = some ti) (hd : ti.desc = .slice e) (he : getT T.ts e = some ei) (ha : a = (n : Int)) (hb : b = (c : Int)) (hnc : n ≤ c) (hsz : ei.size = sz) (hz : ei.zero.cells.toList = enc z) (hzl : (enc z).length = sz) (hpos : 0 < sz)
    (hbytes : ei.bytes * c ≤ 281474976710656) (h63 : c ≤ 140737488355328)
    (hk : ∀ p w', w.heap.size = p → Que enc sz e w' p (some ⟨p, 0, none⟩) c (List.replicate n z) → Ext w w' → k (.slice (some ⟨p, 0, none⟩) n c) w') : Sm P (Instr.makeSlice t (.int kl a) (.int kc b)) w k Y := by
  subst ha hb
  obtain ⟨j, hj, hjz, hjs, hjb⟩ := info_of hT.1 he
  have hu := (hT.1.get ht).1
  rw [hd] at hu
  have hb' : (j.bytes : Int) * (c : Int) ≤ 281474976710656 := by
    have h : ((j.bytes * c : Nat) : Int) ≤ 281474976710656 := by rw [hjb]; omega
    rwa [Int.natCast_mul] at h
  have hr := run_make (P := P) w t e j ei.zero hu hj hjz kl kc (n : Int) (c : Int) (by omega) (by omega) hb' (by omega)
  simp only [Int.toNat_natCast] at hr
  refine ⟨?_⟩
  rw [hr]
  have hcells : madeCells ei.zero.cells (c * j.size) = ((List.replicate c z).flatMap enc).toArray := by
    have hzc : ei.zero.cells = (enc z).toArray := by apply Array.ext'; simpa using hz
    rw [hjs, hsz, hzc, madeL hzl hpos]
    simp [List.flatMap]
  have hall : ∀ m, ∀ x ∈ List.replicate m z, (enc x).length = sz := fun m x hx => by rw [(List.mem_replicate.1 hx).2]; exact hzl
  refine hk _ _ rfl (Que.of_blk (cs := (List.replicate c z).flatMap enc) ?_ (Nat.le_refl _) (hall n) (by simpa using hnc) ?_ fun i v hv => ?_) (Ext.alloc w _)
  · unfold Blk
    show (w.heap.push _)[w.heap.size]? = _
    rw [hcells]; simp
  · rw [flat_len (hall c)]; simp
  · rw [Nat.zero_add]
    have : List.replicate c z = List.replicate n z ++ List.replicate (c - n) z := by
      rw [List.replicate_append_replicate]; congr 1; omega
    rw [this, List.flatMap_append, List.getElem?_append_left (List.getElem?_eq_some_iff.1 hv).1]
    exact hv
end
end Go.Sh
