/- layer prog: the reference's search for one slot; own work. -/
import Derived.Test.YtbbadmlekagloaaDoorPgM
import Derived.Test.YtbbadmlekagloaaDoorShH
namespace Go.Proofs.YtbbadmlekagloaaDoor
open Go Go.Sh
set_option linter.unusedVariables false
set_option linter.unusedSimpArgs false
attribute [local irreducible] Blk Ext RdS
theorem putL_ints {l : List Int} {i : Nat} {v : Int} (hi : i < l.length) : putL (l.flatMap ints) (i * 1) [.int .i64 v] = (l.set i v).flatMap ints := by
  rw [Nat.mul_one]
  induction l generalizing i with
  | nil => simp at hi
  | cons x r ih =>
    cases i with
    | zero => simp [putL, ints]
    | succ i =>
      have := ih (i := i) (by simpa using hi)
      simp only [putL, List.length_singleton] at this ⊢
      simp only [List.flatMap_cons, List.set_cons_succ, ints, List.singleton_append, List.cons_append, List.take_succ_cons, List.drop_succ_cons]
      rw [← this]; rfl
theorem St.ints {p t i : Nat} {l : List Int} {v : Int} {w : World} {k : World → Prop} (h : Blk w p t (l.flatMap ints)) (hi : i < l.length)
    (hk : ∀ w', Upd p w w' → Blk w' p t ((l.set i v).flatMap ints) → k w') : St w ((gA (some ⟨p, 0, none⟩)).add (i * 1)) [.int .i64 v] k := by
  simp only [gA]
  rw [add_lit, Nat.zero_add]
  refine St.upd h (Nat.ble_eq_true_of_le (by rw [flat1]; simp; omega)) rfl fun w' u hb => hk w' u ?_
  rw [putL_ints hi] at hb
  exact hb
def pl (q : List Pt) : List Int := q.map fun x => (x.1 : Int)
def sl (q : List Pt) : List Int := q.map fun x => x.2
def metL (q : List Pt) (N : Nat) : List Int := (List.range N).map (mt q)
theorem pl_len (q : List Pt) : (pl q).length = q.length := by simp [pl]
theorem sl_len (q : List Pt) : (sl q).length = q.length := by simp [sl]
theorem metL_len (q : List Pt) (N : Nat) : (metL q N).length = N := by simp [metL]
theorem metL_set {q : List Pt} {N i : Nat} {s : Int} (h : okS s) (hn : (i, s) ∉ q) (hi : i < N) : (metL q N).set i (mt q i + s) = metL (q ++ [(i, s)]) N := by
  apply List.ext_getElem?
  intro j
  rw [List.getElem?_set]
  unfold metL
  simp only [List.getElem?_map, List.length_map, List.length_range]
  by_cases hj : j < N
  · simp only [List.getElem?_range hj, Option.map_some, mt_snoc h hn]
    by_cases e : i = j
    · subst e; simp [hi]
    · rw [if_neg e, if_neg (fun e' => e e'.symm)]
  · have e0 : (List.range N)[j]? = none := List.getElem?_eq_none (by simp; omega)
    rw [e0, if_neg (by omega)]
    rfl
open Classical in
noncomputable def flw (f : Fn) (slot : Int) (i : Nat) : Int := (if Reach f slot (i, 1) then 1 else 0) + (if Reach f slot (i, 2) then 2 else 0) + (if Reach f slot (i, 4) then 4 else 0)
noncomputable def flwL (f : Fn) (slot : Int) : List Int := (List.range f.code.length).map (flw f slot)
theorem mt_flw {f : Fn} {slot : Int} {q : List Pt} (h : Srch f slot q q.length) (i : Nat) : mt q i = flw f slot i := by
  have m1 : ((i, (1 : Int)) ∈ q) = Reach f slot (i, 1) := propext (h.all _)
  have m2 : ((i, (2 : Int)) ∈ q) = Reach f slot (i, 2) := propext (h.all _)
  have m4 : ((i, (4 : Int)) ∈ q) = Reach f slot (i, 4) := propext (h.all _)
  unfold mt flw
  by_cases h1 : Reach f slot (i, 1) <;> by_cases h2 : Reach f slot (i, 2) <;> by_cases h4 : Reach f slot (i, 4) <;> simp [m1, m2, m4, h1, h2, h4]
def IsMet (l : List Int) (w : World) (v : Value) (w' : World) : Prop := ∃ p, v = .slice (some ⟨p, 0, none⟩) l.length l.length ∧ w.heap.size ≤ p ∧ Blk w' p 3 (l.flatMap ints) ∧ Ext w w'
structure J (f : Fn) (A : Option Addr) (c : Nat) (w : World) (p pm : Nat) (m : List Int) (Ap : Option Addr) (cp : Nat) (lp : List Int) (As : Option Addr) (cs : Nat) (ls : List Int) (w' : World) : Prop where
  ext : Ext w w'
  fb : Blk w' p 24 (f.v A c).cells.toList
  met : Blk w' pm 3 (m.flatMap ints)
  op : Own ints 1 3 w' w.heap.size Ap cp lp
  os : Own ints 1 3 w' w.heap.size As cs ls
  np : obk Ap ≠ some pm
  ns : obk As ≠ some pm
  nps : obk Ap ≠ obk As
  pmlo : w.heap.size ≤ pm
section
variable {f : Fn} {A : Option Addr} {c : Nat} {w w1 w2 : World} {p pm : Nat} {m : List Int} {Ap : Option Addr} {cp : Nat} {lp : List Int} {As : Option Addr} {cs : Nat} {ls : List Int}
theorem J.mv (h : J f A c w p pm m Ap cp lp As cs ls w1) (e : Ext w1 w2) : J f A c w p pm m Ap cp lp As cs ls w2 :=
  ⟨h.ext.trans e, h.fb.ext e, h.met.ext e, h.op.ext e, h.os.ext e, h.np, h.ns, h.nps, h.pmlo⟩
theorem J.set (h : J f A c w p pm m Ap cp lp As cs ls w1) (u : Upd pm w1 w2) {m' : List Int} (hb : Blk w2 pm 3 (m'.flatMap ints)) : J f A c w p pm m' Ap cp lp As cs ls w2 :=
  ⟨h.ext.upd u h.pmlo, h.fb.upd u (h.fb.ne h.met (by decide)), hb, h.op.upd' u h.np, h.os.upd' u h.ns, h.np, h.ns, h.nps, h.pmlo⟩
theorem J.appP (h : J f A c w p pm m Ap cp lp As cs ls w1) {A' : Option Addr} {c' : Nat} {x : List Int} (ho : Own ints 1 3 w2 w.heap.size A' c' (lp ++ x)) (g : Grow Ap w1 w2) (hb : obk A' = obk Ap ∨ obk A' = some w1.heap.size) : J f A c w p pm m A' c' (lp ++ x) As cs ls w2 := by
  refine ⟨g.ext h.ext h.op (Nat.le_refl _), h.fb.grow g h.op (by decide), h.met.grow' g h.np, ho, h.os.grow g (.inr fun e => h.nps e.symm), ?_, h.ns, ?_, h.pmlo⟩
  · rcases hb with hb | hb <;> rw [hb]
    · exact h.np
    · have := h.met.lt; simp; omega
  · rcases hb with hb | hb <;> rw [hb]
    · exact h.nps
    · intro e; have := (h.os.obk_lt _ e.symm).1; omega
theorem J.appS (h : J f A c w p pm m Ap cp lp As cs ls w1) {A' : Option Addr} {c' : Nat} {x : List Int} (ho : Own ints 1 3 w2 w.heap.size A' c' (ls ++ x)) (g : Grow As w1 w2) (hb : obk A' = obk As ∨ obk A' = some w1.heap.size) : J f A c w p pm m Ap cp lp A' c' (ls ++ x) w2 := by
  refine ⟨g.ext h.ext h.os (Nat.le_refl _), h.fb.grow g h.os (by decide), h.met.grow' g h.ns, h.op.grow g (.inr h.nps), ho, h.np, ?_, ?_, h.pmlo⟩
  · rcases hb with hb | hb <;> rw [hb]
    · exact h.ns
    · have := h.met.lt; simp; omega
  · rcases hb with hb | hb <;> rw [hb]
    · exact h.nps
    · intro e; have := (h.op.obk_lt _ e).1; omega
end
theorem slotStates_c (f : Fn) (A : Option Addr) (c : Nat) (slot : Int) (w : World) (hA : RdC w A f.code) (hS : soundB f = true) :
    Cl Tryd.prog 49 #[f.v A c, .int .i64 slot] w (IsMet (flwL f slot) w) (fun _ _ => False) := by
  have hsh : shapedB f = true := by simp only [soundB, Bool.and_eq_true] at hS; exact hS.1.1
  obtain ⟨hl1, hl2⟩ := shaped_len hsh
  refine calls_ex (args := [f.v A c, .int .i64 slot]) T.ok Tryd.func49 rfl rfl rfl rfl ?_
  refine Sq.mk ?_
  refine Al.mk fun p w1 hp hb e1 hs1 => ?_
  repeat' (first | (show Gd _ _ _; first | with_reducible refine Gd.t ?_ | with_reducible refine Gd.f ?_ | with_reducible refine Gd.dec (fun _ => ?_) (fun _ => ?_) | with_reducible refine Gd.beq (fun _ => ?_) (fun _ => ?_) | with_reducible refine Gd.bne (fun _ => ?_) (fun _ => ?_) | with_reducible refine Gd.not ?_ | refine Gd.t ?_ | refine Gd.f ?_ | with_reducible refine Gd.var (fun _ => ?_) (fun _ => ?_)) | (show Sq _ _ _; refine Sq.mk ?_) | (show Ld1 _ _ _; first | (apply Ld1.blk; (focus ((repeat (first | assumption | (apply Blk.from; assumption))); done)); rfl) | (apply Ld1.rsF; (focus ((repeat (first | assumption | (apply RdS.from; assumption))); done)); assumption; rfl) | (apply Ld1.rs; (focus ((repeat (first | assumption | (apply RdS.from; assumption))); done)); assumption; rfl)) | (show Ld _ _ _ _; first | (apply Ld.blk; (focus ((repeat (first | assumption | (apply Blk.from; assumption))); done)); rfl) | (apply Ld.rs; (focus ((repeat (first | assumption | (apply RdS.from; assumption))); done)); assumption)) | (show Ix _ _ _ _ _; first | (apply Ix.rs; (focus ((repeat (first | assumption | (apply RdS.from; assumption))); done)); (first | with_reducible rfl | assumption); (first | assumption | omega)) | (apply Ix.arr; (focus ((repeat (first | assumption | (apply RdS.from; assumption))); done)); (first | assumption | (simp; done)); (first | with_reducible rfl | assumption); (first | assumption | omega))) | (show Al _ _ _ _; refine Al.mk (fun _ _ _ _ _ _ => ?_)) | (show St _ _ _ _; apply St.new; assumption; assumption; assumption; rfl; rfl; intro _ _ _ _))
  refine Sm.make T.ok (enc := ints) (z := 0) (n := f.code.length) rfl rfl rfl rfl rfl rfl rfl rfl Nat.zero_lt_one (Nat.le_trans (Nat.mul_le_mul_left _ hl2) (by decide)) (by omega) (fun pm w2 hpm hbm e2 => ?_)
  repeat' (first | (show Gd _ _ _; first | with_reducible refine Gd.t ?_ | with_reducible refine Gd.f ?_ | with_reducible refine Gd.dec (fun _ => ?_) (fun _ => ?_) | with_reducible refine Gd.beq (fun _ => ?_) (fun _ => ?_) | with_reducible refine Gd.bne (fun _ => ?_) (fun _ => ?_) | with_reducible refine Gd.not ?_ | refine Gd.t ?_ | refine Gd.f ?_ | with_reducible refine Gd.var (fun _ => ?_) (fun _ => ?_)) | (show Sq _ _ _; refine Sq.mk ?_) | (show Ld1 _ _ _; first | (apply Ld1.blk; (focus ((repeat (first | assumption | (apply Blk.from; assumption))); done)); rfl) | (apply Ld1.rsF; (focus ((repeat (first | assumption | (apply RdS.from; assumption))); done)); assumption; rfl) | (apply Ld1.rs; (focus ((repeat (first | assumption | (apply RdS.from; assumption))); done)); assumption; rfl)) | (show Ld _ _ _ _; first | (apply Ld.blk; (focus ((repeat (first | assumption | (apply Blk.from; assumption))); done)); rfl) | (apply Ld.rs; (focus ((repeat (first | assumption | (apply RdS.from; assumption))); done)); assumption)) | (show Ix _ _ _ _ _; first | (apply Ix.rs; (focus ((repeat (first | assumption | (apply RdS.from; assumption))); done)); (first | with_reducible rfl | assumption); (first | assumption | omega)) | (apply Ix.arr; (focus ((repeat (first | assumption | (apply RdS.from; assumption))); done)); (first | assumption | (simp; done)); (first | with_reducible rfl | assumption); (first | assumption | omega))) | (show Al _ _ _ _; refine Al.mk (fun _ _ _ _ _ _ => ?_)) | (show St _ _ _ _; apply St.new; assumption; assumption; assumption; rfl; rfl; intro _ _ _ _))
  refine Sm.lit T.ok (cs := [.int .i64 0]) rfl rfl rfl rfl rfl rfl rfl (fun p3 w3 hp3 hb3 e3 hs3 => ?_)
  repeat' (first | (show Gd _ _ _; first | with_reducible refine Gd.t ?_ | with_reducible refine Gd.f ?_ | with_reducible refine Gd.dec (fun _ => ?_) (fun _ => ?_) | with_reducible refine Gd.beq (fun _ => ?_) (fun _ => ?_) | with_reducible refine Gd.bne (fun _ => ?_) (fun _ => ?_) | with_reducible refine Gd.not ?_ | refine Gd.t ?_ | refine Gd.f ?_ | with_reducible refine Gd.var (fun _ => ?_) (fun _ => ?_)) | (show Sq _ _ _; refine Sq.mk ?_) | (show Ld1 _ _ _; first | (apply Ld1.blk; (focus ((repeat (first | assumption | (apply Blk.from; assumption))); done)); rfl) | (apply Ld1.rsF; (focus ((repeat (first | assumption | (apply RdS.from; assumption))); done)); assumption; rfl) | (apply Ld1.rs; (focus ((repeat (first | assumption | (apply RdS.from; assumption))); done)); assumption; rfl)) | (show Ld _ _ _ _; first | (apply Ld.blk; (focus ((repeat (first | assumption | (apply Blk.from; assumption))); done)); rfl) | (apply Ld.rs; (focus ((repeat (first | assumption | (apply RdS.from; assumption))); done)); assumption)) | (show Ix _ _ _ _ _; first | (apply Ix.rs; (focus ((repeat (first | assumption | (apply RdS.from; assumption))); done)); (first | with_reducible rfl | assumption); (first | assumption | omega)) | (apply Ix.arr; (focus ((repeat (first | assumption | (apply RdS.from; assumption))); done)); (first | assumption | (simp; done)); (first | with_reducible rfl | assumption); (first | assumption | omega))) | (show Al _ _ _ _; refine Al.mk (fun _ _ _ _ _ _ => ?_)) | (show St _ _ _ _; apply St.new; assumption; assumption; assumption; rfl; rfl; intro _ _ _ _))
  refine Sm.lit T.ok (cs := [.int .i64 1]) rfl rfl rfl rfl rfl rfl rfl (fun p4 w4 hp4 hb4 e4 hs4 => ?_)
  have hrm := rd_of_blk (hbm.ext (e3.trans e4)) (by simp; omega)
  refine Sq.mk ?_
  refine Ix.arr (i := 0) hrm (by simp) rfl (by simp; omega) ?_
  -- the first point is laid
  refine St.ints (i := 0) (hbm.ext (e3.trans e4)) (by simp; omega) fun w5 u5 hbm5 => ?_
  have hbne : p ≠ pm := by have := e1.size; omega
  have J0 : J f A c w p pm (metL [(0, 1)] f.code.length) (some ⟨p3, 0, none⟩) 1 (pl [(0, 1)]) (some ⟨p4, 0, none⟩) 1 (sl [(0, 1)]) w5 := by
    have z1 := e1.size; have z2 := e2.size; have z3 := e3.size; have z4 := e4.size
    have lt := hbm.lt
    refine ⟨Ext.upd (e1.trans (e2.trans (e3.trans e4))) u5 (by omega), (hb.ext (e2.trans (e3.trans e4))).upd u5 hbne, ?_, ?_, ?_, ?_, ?_, ?_, by omega⟩
    · have : metL [(0, 1)] f.code.length = (List.replicate f.code.length 0).set 0 1 := by
        apply List.ext_getElem?
        intro j
        rw [List.getElem?_set]
        simp only [metL, List.getElem?_map, List.length_replicate, List.getElem?_replicate]
        by_cases hj : j < f.code.length
        · rw [List.getElem?_range hj]
          by_cases e : 0 = j
          · subst e; simp [hj, mt]
          · have : j ≠ 0 := fun e' => e e'.symm
            simp [hj, e, mt, this]
        · have e0 : (List.range f.code.length)[j]? = none := List.getElem?_eq_none (by simp; omega)
          rw [e0, if_neg (by omega), if_neg hj]; rfl
      rw [this]; exact hbm5
    · exact (own_of_ints (l := [0]) ((hb3.ext e4).upd u5 (by omega)) (by omega) (by simp))
    · exact (own_of_ints (l := [1]) (hb4.upd u5 (by omega)) (by omega) (by simp))
    · simp [obk]; omega
    · simp [obk]; omega
    · simp [obk]; omega
  clear hbm5 u5 hb3 hb4 hrm hbm hb hs3 hs4 hs1
  repeat' (first | (show Gd _ _ _; first | with_reducible refine Gd.t ?_ | with_reducible refine Gd.f ?_ | with_reducible refine Gd.dec (fun _ => ?_) (fun _ => ?_) | with_reducible refine Gd.beq (fun _ => ?_) (fun _ => ?_) | with_reducible refine Gd.bne (fun _ => ?_) (fun _ => ?_) | with_reducible refine Gd.not ?_ | refine Gd.t ?_ | refine Gd.f ?_ | with_reducible refine Gd.var (fun _ => ?_) (fun _ => ?_)) | (show Sq _ _ _; refine Sq.mk ?_) | (show Ld1 _ _ _; first | (apply Ld1.blk; (focus ((repeat (first | assumption | (apply Blk.from; assumption))); done)); rfl) | (apply Ld1.rsF; (focus ((repeat (first | assumption | (apply RdS.from; assumption))); done)); assumption; rfl) | (apply Ld1.rs; (focus ((repeat (first | assumption | (apply RdS.from; assumption))); done)); assumption; rfl)) | (show Ld _ _ _ _; first | (apply Ld.blk; (focus ((repeat (first | assumption | (apply Blk.from; assumption))); done)); rfl) | (apply Ld.rs; (focus ((repeat (first | assumption | (apply RdS.from; assumption))); done)); assumption)) | (show Ix _ _ _ _ _; first | (apply Ix.rs; (focus ((repeat (first | assumption | (apply RdS.from; assumption))); done)); (first | with_reducible rfl | assumption); (first | assumption | omega)) | (apply Ix.arr; (focus ((repeat (first | assumption | (apply RdS.from; assumption))); done)); (first | assumption | (simp; done)); (first | with_reducible rfl | assumption); (first | assumption | omega))) | (show Al _ _ _ _; refine Al.mk (fun _ _ _ _ _ _ => ?_)) | (show St _ _ _ _; apply St.new; assumption; assumption; assumption; rfl; rfl; intro _ _ _ _))
  refine Lp.g0 T.ok (σ := Nat × List Pt × Option Addr × Nat × Option Addr × Nat) (fun s => [(8, .int .i64 (s.1 : Int)), (6, .slice s.2.2.1 s.2.1.length s.2.2.2.1), (7, .slice s.2.2.2.2.1 s.2.1.length s.2.2.2.2.2),
      (5, .slice (some ⟨pm, 0, none⟩) f.code.length f.code.length), (2, .pointer (some ⟨p, 0, none⟩)), (1, .int .i64 slot)])
    (fun s w' => s.1 ≤ s.2.1.length ∧ Srch f slot s.2.1 s.1 ∧ J f A c w p pm (metL s.2.1 f.code.length) s.2.2.1 s.2.2.2.1 (pl s.2.1) s.2.2.2.2.1 s.2.2.2.2.2 (sl s.2.1) w') (fun s _ => 3 * f.code.length - s.1)
    (0, [(0, 1)], some ⟨p3, 0, none⟩, 1, some ⟨p4, 0, none⟩, 1) rfl ⟨rfl, rfl, rfl, rfl, rfl, rfl, trivial⟩ ⟨by simp, Srch.begin hl1, J0⟩ ?_
  clear J0
  rintro ⟨k, q, Ap, cp, As, cs⟩ w6 ⟨hk, hq, hJ⟩
  simp only at hk hq hJ ⊢
  have hcE := hJ.ext
  have hA6 := RdS.from hJ.ext hA
  have hb := hJ.fb
  have hrp := hJ.op.rd
  have hrs := hJ.os.rd
  have hrm := rd_of_blk hJ.met (by rw [metL_len]; omega)
  have hpll := pl_len q
  have hsll := sl_len q
  by_cases hlt : k < q.length
  · obtain ⟨x, hx⟩ : ∃ x, q[k]? = some x := ⟨q[k], List.getElem?_eq_getElem hlt⟩
    obtain ⟨hx1, hx2⟩ := hq.inr x (List.mem_of_getElem? hx)
    obtain ⟨ci, hci⟩ : ∃ ci, f.code[x.1]? = some ci := ⟨f.code[x.1], List.getElem?_eq_getElem hx1⟩
    have hpx : (pl q)[k]? = some (x.1 : Int) := by simp [pl, hx]
    have hsx : (sl q)[k]? = some x.2 := by simp [sl, hx]
    repeat' (first | ((show Gd _ _ _; first | with_reducible refine Gd.t ?_ | with_reducible refine Gd.f ?_ | with_reducible refine Gd.dec (fun _ => ?_) (fun _ => ?_) | with_reducible refine Gd.beq (fun _ => ?_) (fun _ => ?_) | with_reducible refine Gd.bne (fun _ => ?_) (fun _ => ?_) | with_reducible refine Gd.not ?_ | refine Gd.t ?_ | refine Gd.f ?_ | with_reducible refine Gd.var (fun _ => ?_) (fun _ => ?_)) <;> first | (exfalso; omega) | skip) | (first | (show Gd _ _ _; first | with_reducible refine Gd.t ?_ | with_reducible refine Gd.f ?_ | with_reducible refine Gd.dec (fun _ => ?_) (fun _ => ?_) | with_reducible refine Gd.beq (fun _ => ?_) (fun _ => ?_) | with_reducible refine Gd.bne (fun _ => ?_) (fun _ => ?_) | with_reducible refine Gd.not ?_ | refine Gd.t ?_ | refine Gd.f ?_ | with_reducible refine Gd.var (fun _ => ?_) (fun _ => ?_)) | (show Sq _ _ _; refine Sq.mk ?_) | (show Ld1 _ _ _; first | (apply Ld1.blk; (focus ((repeat (first | assumption | (apply Blk.from; assumption))); done)); rfl) | (apply Ld1.rsF; (focus ((repeat (first | assumption | (apply RdS.from; assumption))); done)); assumption; rfl) | (apply Ld1.rs; (focus ((repeat (first | assumption | (apply RdS.from; assumption))); done)); assumption; rfl)) | (show Ld _ _ _ _; first | (apply Ld.blk; (focus ((repeat (first | assumption | (apply Blk.from; assumption))); done)); rfl) | (apply Ld.rs; (focus ((repeat (first | assumption | (apply RdS.from; assumption))); done)); assumption)) | (show Ix _ _ _ _ _; first | (apply Ix.rs; (focus ((repeat (first | assumption | (apply RdS.from; assumption))); done)); (first | with_reducible rfl | assumption); (first | assumption | omega)) | (apply Ix.arr; (focus ((repeat (first | assumption | (apply RdS.from; assumption))); done)); (first | assumption | (simp; done)); (first | with_reducible rfl | assumption); (first | assumption | omega))) | (show Al _ _ _ _; refine Al.mk (fun _ _ _ _ _ _ => ?_)) | (show St _ _ _ _; apply St.new; assumption; assumption; assumption; rfl; rfl; intro _ _ _ _)))
    -- the instruction
    refine Dr.al T.ok mixed 8 (by kernel_rfl) rfl rfl rfl rfl rfl rfl rfl rfl (fun W hW => ?_)
    repeat' (first | (show Gd _ _ _; first | with_reducible refine Gd.t ?_ | with_reducible refine Gd.f ?_ | with_reducible refine Gd.dec (fun _ => ?_) (fun _ => ?_) | with_reducible refine Gd.beq (fun _ => ?_) (fun _ => ?_) | with_reducible refine Gd.bne (fun _ => ?_) (fun _ => ?_) | with_reducible refine Gd.not ?_ | refine Gd.t ?_ | refine Gd.f ?_ | with_reducible refine Gd.var (fun _ => ?_) (fun _ => ?_)) | (show QLd1 _ _ _; first | (apply QLd1.blk hW; (focus ((repeat (first | assumption | (apply Blk.from; assumption))); done)); rfl) | (apply QLd1.rsF hW; (focus ((repeat (first | assumption | (apply RdS.from; assumption))); done)); assumption; rfl) | (apply QLd1.rs hW; (focus ((repeat (first | assumption | (apply RdS.from; assumption))); done)); assumption; rfl)) | (show QLd _ _ _ _; first | (apply QLd.blk hW; (focus ((repeat (first | assumption | (apply Blk.from; assumption))); done)); rfl) | (apply QLd.rs hW; (focus ((repeat (first | assumption | (apply RdS.from; assumption))); done)); assumption)) | (show Ix _ _ _ _ _; first | (apply Ix.rs; (focus ((repeat (first | assumption | (apply RdS.from; assumption))); done)); (first | with_reducible rfl | assumption); (first | assumption | omega)) | (apply Ix.arr; (focus ((repeat (first | assumption | (apply RdS.from; assumption))); done)); (first | assumption | (simp; done)); (first | with_reducible rfl | assumption); (first | assumption | omega))))
    intro p9 w7 hp9 e7 hb9
    refine St.upd hb9 rfl rfl (fun w8 u8 hb8 => ?_)
    have e8 : Ext w6 w8 := Ext.upd e7 u8 hp9
    clear hb9 u8 e7
    refine Sq.mk ?_
    (show Dr _ _ _ _ _ _ _; refine Dr.quiet T.ok mixed (by kernel_rfl) (fun W hW => ?_))
    repeat' (first | (first | (show Gd _ _ _; first | with_reducible refine Gd.t ?_ | with_reducible refine Gd.f ?_ | with_reducible refine Gd.dec (fun _ => ?_) (fun _ => ?_) | with_reducible refine Gd.beq (fun _ => ?_) (fun _ => ?_) | with_reducible refine Gd.bne (fun _ => ?_) (fun _ => ?_) | with_reducible refine Gd.not ?_ | refine Gd.t ?_ | refine Gd.f ?_ | with_reducible refine Gd.var (fun _ => ?_) (fun _ => ?_)) | (show QLd1 _ _ _; first | (apply QLd1.blk hW; (focus ((repeat (first | assumption | (apply Blk.from; assumption))); done)); rfl) | (apply QLd1.rsF hW; (focus ((repeat (first | assumption | (apply RdS.from; assumption))); done)); assumption; rfl) | (apply QLd1.rs hW; (focus ((repeat (first | assumption | (apply RdS.from; assumption))); done)); assumption; rfl)) | (show QLd _ _ _ _; first | (apply QLd.blk hW; (focus ((repeat (first | assumption | (apply Blk.from; assumption))); done)); rfl) | (apply QLd.rs hW; (focus ((repeat (first | assumption | (apply RdS.from; assumption))); done)); assumption)) | (show Ix _ _ _ _ _; first | (apply Ix.rs; (focus ((repeat (first | assumption | (apply RdS.from; assumption))); done)); (first | with_reducible rfl | assumption); (first | assumption | omega)) | (apply Ix.arr; (focus ((repeat (first | assumption | (apply RdS.from; assumption))); done)); (first | assumption | (simp; done)); (first | with_reducible rfl | assumption); (first | assumption | omega)))) | (show QCl _ _ _ _ _ _; refine QCl.mk hW (fun _ _ => Cl.mk (After_c ci slot x.2 _) (fun _ _ h => h)) ?_))
    intro w9 e9
    refine Sq.mk ?_
    clear hW
    refine Dr.tail T.ok mixed 5 (by kernel_rfl) fun W w10 hW e10 hs10 => ?_
    repeat' (first | (show Gd _ _ _; first | with_reducible refine Gd.t ?_ | with_reducible refine Gd.f ?_ | with_reducible refine Gd.dec (fun _ => ?_) (fun _ => ?_) | with_reducible refine Gd.beq (fun _ => ?_) (fun _ => ?_) | with_reducible refine Gd.bne (fun _ => ?_) (fun _ => ?_) | with_reducible refine Gd.not ?_ | refine Gd.t ?_ | refine Gd.f ?_ | with_reducible refine Gd.var (fun _ => ?_) (fun _ => ?_)) | (show QLd1 _ _ _; first | (apply QLd1.blk hW; (focus ((repeat (first | assumption | (apply Blk.from; assumption))); done)); rfl) | (apply QLd1.rsF hW; (focus ((repeat (first | assumption | (apply RdS.from; assumption))); done)); assumption; rfl) | (apply QLd1.rs hW; (focus ((repeat (first | assumption | (apply RdS.from; assumption))); done)); assumption; rfl)) | (show QLd _ _ _ _; first | (apply QLd.blk hW; (focus ((repeat (first | assumption | (apply Blk.from; assumption))); done)); rfl) | (apply QLd.rs hW; (focus ((repeat (first | assumption | (apply RdS.from; assumption))); done)); assumption)) | (show Ix _ _ _ _ _; first | (apply Ix.rs; (focus ((repeat (first | assumption | (apply RdS.from; assumption))); done)); (first | with_reducible rfl | assumption); (first | assumption | omega)) | (apply Ix.arr; (focus ((repeat (first | assumption | (apply RdS.from; assumption))); done)); (first | assumption | (simp; done)); (first | with_reducible rfl | assumption); (first | assumption | omega))))
    (show Cl _ _ _ _ _ _; refine Cl.mk (Nexts_c f A c x.1 ci _ (by (focus ((repeat (first | assumption | (apply RdS.from; assumption))); done))) hci hl2) ?_)
    rintro _ w11 ⟨An, rfl, hrn, e11, hfr⟩
    have e611 : Ext w6 w11 := e8.trans (e9.trans (e10.trans e11))
    have hJ11 := hJ.mv e611
    have hAn : ∀ b, obk An = some b → w6.heap.size ≤ b := fun b hb => Nat.le_trans (e8.trans (e9.trans e10)).size (hfr b hb)
    have hAnm : obk An ≠ some pm := fun e => by have := hAn _ e; have := hJ.met.lt; omega
    have hAnp : obk An = none ∨ obk An ≠ obk Ap := by
      rcases hob : obk An with _ | b
      · exact .inl rfl
      · exact .inr fun e => by have := hAn _ hob; have := (hJ.op.obk_lt b e.symm).1; omega
    have hAns : obk An = none ∨ obk An ≠ obk As := by
      rcases hob : obk An with _ | b
      · exact .inl rfl
      · exact .inr fun e => by have := hAn _ hob; have := (hJ.os.obk_lt b e.symm).1; omega
    clear e611 e8 e9 e10 e11 hfr hW hb8 hp9 hs10 hb hrp hrs hrm hA6 hcE hJ hpx hsx hAn
    have hrange := next_range hS hci
    have hnl : (nextsS x.1 ci).length ≤ 2 := by unfold nextsS; (repeat' split) <;> simp
    have hokx := okS_after (c := ci) (slot := slot) hx2
    have hsucc : succs f slot x = (nextsS x.1 ci).map fun n => (n.toNat, afterS ci slot x.2) := by simp [succs, hci]
    repeat' (first | (show Gd _ _ _; first | with_reducible refine Gd.t ?_ | with_reducible refine Gd.f ?_ | with_reducible refine Gd.dec (fun _ => ?_) (fun _ => ?_) | with_reducible refine Gd.beq (fun _ => ?_) (fun _ => ?_) | with_reducible refine Gd.bne (fun _ => ?_) (fun _ => ?_) | with_reducible refine Gd.not ?_ | refine Gd.t ?_ | refine Gd.f ?_ | with_reducible refine Gd.var (fun _ => ?_) (fun _ => ?_)) | (show Sq _ _ _; refine Sq.mk ?_) | (show Ld1 _ _ _; first | (apply Ld1.blk; (focus ((repeat (first | assumption | (apply Blk.from; assumption))); done)); rfl) | (apply Ld1.rsF; (focus ((repeat (first | assumption | (apply RdS.from; assumption))); done)); assumption; rfl) | (apply Ld1.rs; (focus ((repeat (first | assumption | (apply RdS.from; assumption))); done)); assumption; rfl)) | (show Ld _ _ _ _; first | (apply Ld.blk; (focus ((repeat (first | assumption | (apply Blk.from; assumption))); done)); rfl) | (apply Ld.rs; (focus ((repeat (first | assumption | (apply RdS.from; assumption))); done)); assumption)) | (show Ix _ _ _ _ _; first | (apply Ix.rs; (focus ((repeat (first | assumption | (apply RdS.from; assumption))); done)); (first | with_reducible rfl | assumption); (first | assumption | omega)) | (apply Ix.arr; (focus ((repeat (first | assumption | (apply RdS.from; assumption))); done)); (first | assumption | (simp; done)); (first | with_reducible rfl | assumption); (first | assumption | omega))) | (show Al _ _ _ _; refine Al.mk (fun _ _ _ _ _ _ => ?_)) | (show St _ _ _ _; apply St.new; assumption; assumption; assumption; rfl; rfl; intro _ _ _ _))
    refine Lp.g0 T.ok (σ := Nat × List Pt × Option Addr × Nat × Option Addr × Nat) (fun s => [(12, .int .i64 (s.1 : Int)), (6, .slice s.2.2.1 s.2.1.length s.2.2.2.1), (7, .slice s.2.2.2.2.1 s.2.1.length s.2.2.2.2.2),
        (11, .slice An (nextsS x.1 ci).length (nextsS x.1 ci).length), (10, .int .i64 (afterS ci slot x.2)), (8, .int .i64 (k : Int)), (5, .slice (some ⟨pm, 0, none⟩) f.code.length f.code.length), (2, .pointer (some ⟨p, 0, none⟩)), (1, .int .i64 slot)])
      (fun s w' => s.1 ≤ (nextsS x.1 ci).length ∧ Srch f slot s.2.1 k ∧ s.2.1[k]? = some x ∧ (∀ j' n, j' < s.1 → (nextsS x.1 ci)[j']? = some n → (n.toNat, afterS ci slot x.2) ∈ s.2.1) ∧
        J f A c w p pm (metL s.2.1 f.code.length) s.2.2.1 s.2.2.2.1 (pl s.2.1) s.2.2.2.2.1 s.2.2.2.2.2 (sl s.2.1) w' ∧ RdS ints 1 w' An (nextsS x.1 ci) ∧ (obk An = none ∨ obk An ≠ obk s.2.2.1) ∧ (obk An = none ∨ obk An ≠ obk s.2.2.2.2.1))
      (fun s _ => (nextsS x.1 ci).length - s.1)
      (0, q, Ap, cp, As, cs) rfl ⟨rfl, rfl, rfl, rfl, rfl, rfl, rfl, rfl, rfl, trivial⟩ ⟨by simp, hq, hx, fun j' n hj => by omega, hJ11, hrn, hAnp, hAns⟩ ?_
    clear hJ11 hrn hAnp hAns hq hx hlt hk hpll hsll
    rintro ⟨j, q', Bp, dp, Bs, ds⟩ w12 ⟨hj, hq, hx, hd, hJ, hrn, hAnp, hAns⟩
    simp only at hj hq hx hd hJ hrn hAnp hAns ⊢
    have hml := metL_len q' f.code.length
    have hpll := pl_len q'
    have hsll := sl_len q'
    have hqlen := hq.len
    by_cases hjl : j < (nextsS x.1 ci).length
    · obtain ⟨n0, hn0⟩ : ∃ n0, (nextsS x.1 ci)[j]? = some n0 := ⟨_, List.getElem?_eq_getElem hjl⟩
      obtain ⟨hr0, hr1⟩ := hrange n0 (List.mem_of_getElem? hn0)
      obtain ⟨i, rfl⟩ : ∃ i : Nat, n0 = (i : Int) := ⟨n0.toNat, by omega⟩
      have hi : i < f.code.length := by omega
      have hmi : (metL q' f.code.length)[i]? = some (mt q' i) := by simp [metL, hi]
      have hrm := rd_of_blk hJ.met (by rw [metL_len]; omega)
      have him : i < (metL q' f.code.length).length := by rw [metL_len]; exact hi
      have hsy : ((i : Nat), afterS ci slot x.2) ∈ succs f slot x := by
        rw [hsucc]; exact List.mem_map.2 ⟨(i : Int), List.mem_of_getElem? hn0, by simp⟩
      have hmr := mt_range q' i
      repeat' (first | ((show Gd _ _ _; first | with_reducible refine Gd.t ?_ | with_reducible refine Gd.f ?_ | with_reducible refine Gd.dec (fun _ => ?_) (fun _ => ?_) | with_reducible refine Gd.beq (fun _ => ?_) (fun _ => ?_) | with_reducible refine Gd.bne (fun _ => ?_) (fun _ => ?_) | with_reducible refine Gd.not ?_ | refine Gd.t ?_ | refine Gd.f ?_ | with_reducible refine Gd.var (fun _ => ?_) (fun _ => ?_)) <;> first | (exfalso; omega) | skip) | (first | (show Gd _ _ _; first | with_reducible refine Gd.t ?_ | with_reducible refine Gd.f ?_ | with_reducible refine Gd.dec (fun _ => ?_) (fun _ => ?_) | with_reducible refine Gd.beq (fun _ => ?_) (fun _ => ?_) | with_reducible refine Gd.bne (fun _ => ?_) (fun _ => ?_) | with_reducible refine Gd.not ?_ | refine Gd.t ?_ | refine Gd.f ?_ | with_reducible refine Gd.var (fun _ => ?_) (fun _ => ?_)) | (show Sq _ _ _; refine Sq.mk ?_) | (show Ld1 _ _ _; first | (apply Ld1.blk; (focus ((repeat (first | assumption | (apply Blk.from; assumption))); done)); rfl) | (apply Ld1.rsF; (focus ((repeat (first | assumption | (apply RdS.from; assumption))); done)); assumption; rfl) | (apply Ld1.rs; (focus ((repeat (first | assumption | (apply RdS.from; assumption))); done)); assumption; rfl)) | (show Ld _ _ _ _; first | (apply Ld.blk; (focus ((repeat (first | assumption | (apply Blk.from; assumption))); done)); rfl) | (apply Ld.rs; (focus ((repeat (first | assumption | (apply RdS.from; assumption))); done)); assumption)) | (show Ix _ _ _ _ _; first | (apply Ix.rs; (focus ((repeat (first | assumption | (apply RdS.from; assumption))); done)); (first | with_reducible rfl | assumption); (first | assumption | omega)) | (apply Ix.arr; (focus ((repeat (first | assumption | (apply RdS.from; assumption))); done)); (first | assumption | (simp; done)); (first | with_reducible rfl | assumption); (first | assumption | omega))) | (show Al _ _ _ _; refine Al.mk (fun _ _ _ _ _ _ => ?_)) | (show St _ _ _ _; apply St.new; assumption; assumption; assumption; rfl; rfl; intro _ _ _ _)))
      · -- a point that was not met
        rename_i hz
        have hz : bitand (mt q' i) (afterS ci slot x.2) = 0 := hz
        have hnew := (mt_and0 hokx).1 hz
        have hwr : IntKind.i64.wrap (mt q' i + afterS ci slot x.2) = mt q' i + afterS ci slot x.2 := w64 rfl (by rcases hokx with h | h | h <;> omega) (by rcases hokx with h | h | h <;> omega)
        have hset := metL_set (N := f.code.length) hokx hnew hi
        have hq2 := hq.snoc hx hsy hi hokx hnew
        have hkl := (List.getElem?_eq_some_iff.1 hx).1
        refine Dr.tail T.ok mixed 15 (by kernel_rfl) fun W w13 hW e13 _ => ?_
        repeat' (first | (show Gd _ _ _; first | with_reducible refine Gd.t ?_ | with_reducible refine Gd.f ?_ | with_reducible refine Gd.dec (fun _ => ?_) (fun _ => ?_) | with_reducible refine Gd.beq (fun _ => ?_) (fun _ => ?_) | with_reducible refine Gd.bne (fun _ => ?_) (fun _ => ?_) | with_reducible refine Gd.not ?_ | refine Gd.t ?_ | refine Gd.f ?_ | with_reducible refine Gd.var (fun _ => ?_) (fun _ => ?_)) | (show QLd1 _ _ _; first | (apply QLd1.blk hW; (focus ((repeat (first | assumption | (apply Blk.from; assumption))); done)); rfl) | (apply QLd1.rsF hW; (focus ((repeat (first | assumption | (apply RdS.from; assumption))); done)); assumption; rfl) | (apply QLd1.rs hW; (focus ((repeat (first | assumption | (apply RdS.from; assumption))); done)); assumption; rfl)) | (show QLd _ _ _ _; first | (apply QLd.blk hW; (focus ((repeat (first | assumption | (apply Blk.from; assumption))); done)); rfl) | (apply QLd.rs hW; (focus ((repeat (first | assumption | (apply RdS.from; assumption))); done)); assumption)) | (show Ix _ _ _ _ _; first | (apply Ix.rs; (focus ((repeat (first | assumption | (apply RdS.from; assumption))); done)); (first | with_reducible rfl | assumption); (first | assumption | omega)) | (apply Ix.arr; (focus ((repeat (first | assumption | (apply RdS.from; assumption))); done)); (first | assumption | (simp; done)); (first | with_reducible rfl | assumption); (first | assumption | omega))))
        refine St.ints (hJ.met.ext e13) him fun w14 u14 hm14 => ?_
        rw [hwr, hset] at hm14
        have hJ14 := (hJ.mv e13).set u14 hm14
        have hrn14 := (RdS.from e13 hrn).upd u14 hAnm
        clear hW e13 u14 hm14 hJ hrn hrm hml hpll hsll
        repeat' (first | (show Gd _ _ _; first | with_reducible refine Gd.t ?_ | with_reducible refine Gd.f ?_ | with_reducible refine Gd.dec (fun _ => ?_) (fun _ => ?_) | with_reducible refine Gd.beq (fun _ => ?_) (fun _ => ?_) | with_reducible refine Gd.bne (fun _ => ?_) (fun _ => ?_) | with_reducible refine Gd.not ?_ | refine Gd.t ?_ | refine Gd.f ?_ | with_reducible refine Gd.var (fun _ => ?_) (fun _ => ?_)) | (show Sq _ _ _; refine Sq.mk ?_) | (show Ld1 _ _ _; first | (apply Ld1.blk; (focus ((repeat (first | assumption | (apply Blk.from; assumption))); done)); rfl) | (apply Ld1.rsF; (focus ((repeat (first | assumption | (apply RdS.from; assumption))); done)); assumption; rfl) | (apply Ld1.rs; (focus ((repeat (first | assumption | (apply RdS.from; assumption))); done)); assumption; rfl)) | (show Ld _ _ _ _; first | (apply Ld.blk; (focus ((repeat (first | assumption | (apply Blk.from; assumption))); done)); rfl) | (apply Ld.rs; (focus ((repeat (first | assumption | (apply RdS.from; assumption))); done)); assumption)) | (show Ix _ _ _ _ _; first | (apply Ix.rs; (focus ((repeat (first | assumption | (apply RdS.from; assumption))); done)); (first | with_reducible rfl | assumption); (first | assumption | omega)) | (apply Ix.arr; (focus ((repeat (first | assumption | (apply RdS.from; assumption))); done)); (first | assumption | (simp; done)); (first | with_reducible rfl | assumption); (first | assumption | omega))) | (show Al _ _ _ _; refine Al.mk (fun _ _ _ _ _ _ => ?_)) | (show St _ _ _ _; apply St.new; assumption; assumption; assumption; rfl; rfl; intro _ _ _ _))
        refine Sm.lit T.ok (cs := [.int .i64 (i : Int)]) rfl rfl rfl rfl rfl rfl rfl (fun p15 w15 hp15 hb15 e15 _ => ?_)
        have hr15 := rd_of_blk (l := [(i : Int)]) hb15 (by simp)
        refine Sm.app (enc := ints) (m := [(i : Int)]) T.ok rfl rfl rfl rfl rfl Nat.zero_lt_one (hJ14.op.ext e15) (pl_len q').symm hr15 rfl (fun _ _ => rfl) (fun y _ v hv => by simp [ints] at hv; subst hv; rfl) ?_ ?_ (hJ14.mv e15).ext.size (fun B' d' w16 ho16 g16 hb16 => ?_)
        · rw [pl_len]; show (q'.length + 1) * 8 ≤ _; omega
        · rw [pl_len]; show q'.length + 1 ≤ _; omega
        have hJ16 := (hJ14.mv e15).appP ho16 g16 hb16
        have hrn16 := (RdS.from e15 hrn14).grow g16 hAnp
        have hne : nextsS x.1 ci ≠ [] := fun e => by rw [e] at hjl; simp at hjl
        have hrns := obk_new hAnp hb16 (fun b hb => Nat.lt_of_lt_of_le (hrn14.lt hne b hb) e15.size)
        clear hJ14 e15 hb15 hr15 g16 ho16 hrn14 hb16
        repeat' (first | (show Gd _ _ _; first | with_reducible refine Gd.t ?_ | with_reducible refine Gd.f ?_ | with_reducible refine Gd.dec (fun _ => ?_) (fun _ => ?_) | with_reducible refine Gd.beq (fun _ => ?_) (fun _ => ?_) | with_reducible refine Gd.bne (fun _ => ?_) (fun _ => ?_) | with_reducible refine Gd.not ?_ | refine Gd.t ?_ | refine Gd.f ?_ | with_reducible refine Gd.var (fun _ => ?_) (fun _ => ?_)) | (show Sq _ _ _; refine Sq.mk ?_) | (show Ld1 _ _ _; first | (apply Ld1.blk; (focus ((repeat (first | assumption | (apply Blk.from; assumption))); done)); rfl) | (apply Ld1.rsF; (focus ((repeat (first | assumption | (apply RdS.from; assumption))); done)); assumption; rfl) | (apply Ld1.rs; (focus ((repeat (first | assumption | (apply RdS.from; assumption))); done)); assumption; rfl)) | (show Ld _ _ _ _; first | (apply Ld.blk; (focus ((repeat (first | assumption | (apply Blk.from; assumption))); done)); rfl) | (apply Ld.rs; (focus ((repeat (first | assumption | (apply RdS.from; assumption))); done)); assumption)) | (show Ix _ _ _ _ _; first | (apply Ix.rs; (focus ((repeat (first | assumption | (apply RdS.from; assumption))); done)); (first | with_reducible rfl | assumption); (first | assumption | omega)) | (apply Ix.arr; (focus ((repeat (first | assumption | (apply RdS.from; assumption))); done)); (first | assumption | (simp; done)); (first | with_reducible rfl | assumption); (first | assumption | omega))) | (show Al _ _ _ _; refine Al.mk (fun _ _ _ _ _ _ => ?_)) | (show St _ _ _ _; apply St.new; assumption; assumption; assumption; rfl; rfl; intro _ _ _ _))
        refine Sm.lit T.ok (cs := [.int .i64 (afterS ci slot x.2)]) rfl rfl rfl rfl rfl rfl rfl (fun p17 w17 hp17 hb17 e17 _ => ?_)
        have hr17 := rd_of_blk (l := [afterS ci slot x.2]) hb17 (by simp)
        refine Sm.app (enc := ints) (m := [afterS ci slot x.2]) T.ok rfl rfl rfl rfl rfl Nat.zero_lt_one (hJ16.os.ext e17) (sl_len q').symm hr17 rfl (fun _ _ => rfl) (fun y _ v hv => by simp [ints] at hv; subst hv; rfl) ?_ ?_ (hJ16.mv e17).ext.size (fun B2 d2 w18 ho18 g18 hb18 => ?_)
        · rw [sl_len]; show (q'.length + 1) * 8 ≤ _; omega
        · rw [sl_len]; show q'.length + 1 ≤ _; omega
        have hJ18 := (hJ16.mv e17).appS ho18 g18 hb18
        have hrn18 := (RdS.from e17 hrn16).grow g18 hAns
        have e1 : pl q' ++ [(i : Int)] = pl (q' ++ [(i, afterS ci slot x.2)]) := by simp [pl]
        have e2 : sl q' ++ [afterS ci slot x.2] = sl (q' ++ [(i, afterS ci slot x.2)]) := by simp [sl]
        rw [e1, e2] at hJ18
        refine ⟨(j + 1, q' ++ [(i, afterS ci slot x.2)], B', d', B2, d2), ⟨at_int (m := ((j + 1 : Nat) : Int)) rfl (w64 (by simp) (by omega) (by omega)), at_val rfl (by simp [pl]), at_val rfl (by simp [sl]), rfl, rfl, rfl, rfl, rfl, rfl, trivial⟩, rfl,
          ⟨by simp; omega, hq2, ?_, fun j' n hj' hn => ?_, hJ18, hrn18, hrns, ?_⟩, by simp; omega⟩
        · simp only; rw [List.getElem?_append_left hkl]; exact hx
        · rcases Nat.lt_or_ge j' j with h | h
          · exact List.mem_append_left _ (hd j' n h hn)
          · have : j' = j := by simp at hj'; omega
            subst this
            rw [hn0] at hn; simp at hn; subst hn; simp
        · exact obk_new hAns hb18 (fun b hb => Nat.lt_of_lt_of_le (hrn16.lt hne b hb) e17.size)
      · -- one that was
        rename_i hz
        have hold : (i, afterS ci slot x.2) ∈ q' := by
          by_cases h : (i, afterS ci slot x.2) ∈ q'
          · exact h
          · exact absurd ((mt_and0 hokx).2 h) hz
        refine ⟨(j + 1, q', Bp, dp, Bs, ds), ⟨at_int (m := ((j + 1 : Nat) : Int)) rfl (w64 (by simp) (by omega) (by omega)), rfl, rfl, rfl, rfl, rfl, rfl, rfl, rfl, trivial⟩, rfl, ⟨by simp; omega, hq, hx, fun j' n hj' hn => ?_, hJ, hrn, hAnp, hAns⟩, by simp; omega⟩
        rcases Nat.lt_or_ge j' j with h | h
        · exact hd j' n h hn
        · have : j' = j := by simp at hj'; omega
          subst this
          rw [hn0] at hn; simp at hn; subst hn; simpa using hold
    · -- the inner loop is through
      have hj : j = (nextsS x.1 ci).length := by omega
      have hkl := (List.getElem?_eq_some_iff.1 hx).1
      have hq2 : Srch f slot q' (k + 1) := hq.next hx (fun y hy => by
        rw [hsucc] at hy
        obtain ⟨n, hn, rfl⟩ := List.mem_map.1 hy
        obtain ⟨j', hj'⟩ := List.getElem?_of_mem hn
        exact hd j' n (by rw [hj]; exact (List.getElem?_eq_some_iff.1 hj').1) hj')
      repeat' (first | ((show Gd _ _ _; first | with_reducible refine Gd.t ?_ | with_reducible refine Gd.f ?_ | with_reducible refine Gd.dec (fun _ => ?_) (fun _ => ?_) | with_reducible refine Gd.beq (fun _ => ?_) (fun _ => ?_) | with_reducible refine Gd.bne (fun _ => ?_) (fun _ => ?_) | with_reducible refine Gd.not ?_ | refine Gd.t ?_ | refine Gd.f ?_ | with_reducible refine Gd.var (fun _ => ?_) (fun _ => ?_)) <;> first | (exfalso; omega) | skip) | (first | (show Gd _ _ _; first | with_reducible refine Gd.t ?_ | with_reducible refine Gd.f ?_ | with_reducible refine Gd.dec (fun _ => ?_) (fun _ => ?_) | with_reducible refine Gd.beq (fun _ => ?_) (fun _ => ?_) | with_reducible refine Gd.bne (fun _ => ?_) (fun _ => ?_) | with_reducible refine Gd.not ?_ | refine Gd.t ?_ | refine Gd.f ?_ | with_reducible refine Gd.var (fun _ => ?_) (fun _ => ?_)) | (show Sq _ _ _; refine Sq.mk ?_) | (show Ld1 _ _ _; first | (apply Ld1.blk; (focus ((repeat (first | assumption | (apply Blk.from; assumption))); done)); rfl) | (apply Ld1.rsF; (focus ((repeat (first | assumption | (apply RdS.from; assumption))); done)); assumption; rfl) | (apply Ld1.rs; (focus ((repeat (first | assumption | (apply RdS.from; assumption))); done)); assumption; rfl)) | (show Ld _ _ _ _; first | (apply Ld.blk; (focus ((repeat (first | assumption | (apply Blk.from; assumption))); done)); rfl) | (apply Ld.rs; (focus ((repeat (first | assumption | (apply RdS.from; assumption))); done)); assumption)) | (show Ix _ _ _ _ _; first | (apply Ix.rs; (focus ((repeat (first | assumption | (apply RdS.from; assumption))); done)); (first | with_reducible rfl | assumption); (first | assumption | omega)) | (apply Ix.arr; (focus ((repeat (first | assumption | (apply RdS.from; assumption))); done)); (first | assumption | (simp; done)); (first | with_reducible rfl | assumption); (first | assumption | omega))) | (show Al _ _ _ _; refine Al.mk (fun _ _ _ _ _ _ => ?_)) | (show St _ _ _ _; apply St.new; assumption; assumption; assumption; rfl; rfl; intro _ _ _ _)))
      refine ⟨(k + 1, q', Bp, dp, Bs, ds), ⟨at_int (m := ((k + 1 : Nat) : Int)) rfl (w64 (by simp) (by omega) (by omega)), rfl, rfl, rfl, rfl, rfl, trivial⟩, rfl, ⟨by simp; omega, hq2, hJ⟩, by simp; omega⟩
  · -- the outer loop is through
    have hk : k = q.length := by omega
    subst hk
    repeat' (first | ((show Gd _ _ _; first | with_reducible refine Gd.t ?_ | with_reducible refine Gd.f ?_ | with_reducible refine Gd.dec (fun _ => ?_) (fun _ => ?_) | with_reducible refine Gd.beq (fun _ => ?_) (fun _ => ?_) | with_reducible refine Gd.bne (fun _ => ?_) (fun _ => ?_) | with_reducible refine Gd.not ?_ | refine Gd.t ?_ | refine Gd.f ?_ | with_reducible refine Gd.var (fun _ => ?_) (fun _ => ?_)) <;> first | (exfalso; omega) | skip) | (first | (show Gd _ _ _; first | with_reducible refine Gd.t ?_ | with_reducible refine Gd.f ?_ | with_reducible refine Gd.dec (fun _ => ?_) (fun _ => ?_) | with_reducible refine Gd.beq (fun _ => ?_) (fun _ => ?_) | with_reducible refine Gd.bne (fun _ => ?_) (fun _ => ?_) | with_reducible refine Gd.not ?_ | refine Gd.t ?_ | refine Gd.f ?_ | with_reducible refine Gd.var (fun _ => ?_) (fun _ => ?_)) | (show Sq _ _ _; refine Sq.mk ?_) | (show Ld1 _ _ _; first | (apply Ld1.blk; (focus ((repeat (first | assumption | (apply Blk.from; assumption))); done)); rfl) | (apply Ld1.rsF; (focus ((repeat (first | assumption | (apply RdS.from; assumption))); done)); assumption; rfl) | (apply Ld1.rs; (focus ((repeat (first | assumption | (apply RdS.from; assumption))); done)); assumption; rfl)) | (show Ld _ _ _ _; first | (apply Ld.blk; (focus ((repeat (first | assumption | (apply Blk.from; assumption))); done)); rfl) | (apply Ld.rs; (focus ((repeat (first | assumption | (apply RdS.from; assumption))); done)); assumption)) | (show Ix _ _ _ _ _; first | (apply Ix.rs; (focus ((repeat (first | assumption | (apply RdS.from; assumption))); done)); (first | with_reducible rfl | assumption); (first | assumption | omega)) | (apply Ix.arr; (focus ((repeat (first | assumption | (apply RdS.from; assumption))); done)); (first | assumption | (simp; done)); (first | with_reducible rfl | assumption); (first | assumption | omega))) | (show Al _ _ _ _; refine Al.mk (fun _ _ _ _ _ _ => ?_)) | (show St _ _ _ _; apply St.new; assumption; assumption; assumption; rfl; rfl; intro _ _ _ _)))
    have hm : metL q f.code.length = flwL f slot := by
      unfold metL flwL
      exact List.map_congr_left fun i _ => mt_flw hq i
    have hJm := hJ.met
    rw [hm] at hJm
    have hlen : (flwL f slot).length = f.code.length := by simp [flwL]
    exact ⟨pm, by rw [hlen]; rfl, hJ.pmlo, hJm, hJ.ext⟩
end Go.Proofs.YtbbadmlekagloaaDoor
