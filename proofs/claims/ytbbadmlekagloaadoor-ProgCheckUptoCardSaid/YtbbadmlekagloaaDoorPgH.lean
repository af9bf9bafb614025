/- layer prog: the program's search for one slot; own work. -/
import Derived.Test.YtbbadmlekagloaaDoorPgG
namespace Go.Proofs.YtbbadmlekagloaaDoor
open Go Go.Sh
attribute [local irreducible] Blk Ext RdS
abbrev Edge := Int × Int
def kvP (x : Pt) : Value := .agg #[.int .i64 x.1, .int .i64 x.2]
def vvP (y : Edge) : Value := .agg #[.int .i64 y.1, .int .i64 y.2]
def encP (x : Pt) : List Value := [.int .i64 x.1, .int .i64 x.2]
theorem keyP : KeyOK Tryd.prog 82 kvP := by
  refine keyOK_struct (ti := T.t82) T.ok rfl rfl (fun x => ⟨_, rfl, fun f hf => ?_⟩) (fun x y => ?_) (fun x => ?_)
  · simp at hf
    rcases hf with rfl | rfl
    · exact ⟨_, T.t3, .i64, rfl, rfl, rfl⟩
    · exact ⟨_, T.t3, .i64, rfl, rfl, rfl⟩
  · show some _ = _
    congr 1
    obtain ⟨a, b⟩ := x
    obtain ⟨c, d⟩ := y
    rw [Bool.eq_iff_iff]
    simp
    omega
  · simp [kvP, Instr.sameBits]
/-- where each point was come to from -/
structure Tree (f : Fn) (slot : Int) (m : List (Pt × Edge)) : Prop where
  head : m[0]? = some ((0, 1), (-1, 0))
  par : ∀ j y p, 0 < j → m[j]? = some (y, p) → ∃ i x e, i < j ∧ m[i]? = some (x, e) ∧ p = ((x.1 : Int), x.2) ∧ y ∈ succs f slot x
def Found (f : Fn) (slot : Int) (dn : Pt → Bool) (w : World) (v : Value) (w' : World) : Prop := ∃ pm m k, v = .map (some pm) ∧ w.heap.size ≤ pm ∧ MapO kvP vvP w' pm m ∧ Srch f slot (m.map (·.1)) k ∧ Tree f slot m ∧
  (k = m.length ∨ ∃ x, (m.map (·.1))[k]? = some x ∧ dn x = true) ∧ (∀ j x, j < k → (m.map (·.1))[j]? = some x → dn x = false) ∧ Ext w w'
theorem fnd_isSome {κ ν : Type} [DecidableEq κ] (m : List (κ × ν)) (k : κ) : (fnd m k).isSome = true ↔ k ∈ m.map (·.1) := by
  unfold fnd
  simp [List.find?_isSome]
theorem mput_new {κ ν : Type} [DecidableEq κ] {m : List (κ × ν)} {k : κ} {v : ν} (h : k ∉ m.map (·.1)) : mput m k v = m ++ [(k, v)] := by
  unfold mput
  have : idx m k 0 = none := (idx_none k m 0).2 fun x hx e => h (List.mem_map.2 ⟨x, hx, e⟩)
  rw [this]
theorem Tree.snoc {f : Fn} {slot : Int} {m : List (Pt × Edge)} (h : Tree f slot m) {k : Nat} {x y : Pt} (hx : (m.map (·.1))[k]? = some x) (hy : y ∈ succs f slot x) : Tree f slot (m ++ [(y, ((x.1 : Int), x.2))]) := by
  have hk : k < m.length := by simpa using (List.getElem?_eq_some_iff.1 hx).1
  have h0 : 0 < m.length := (List.getElem?_eq_some_iff.1 h.head).1
  have hmk : m[k]? = some (x, m[k].2) := by
    rw [List.getElem?_map] at hx
    rw [List.getElem?_eq_getElem hk] at hx ⊢
    simp at hx
    rw [← hx]
  refine ⟨by rw [List.getElem?_append_left h0]; exact h.head, fun j z p hj hz => ?_⟩
  rcases Nat.lt_or_ge j m.length with hl | hl
  · rw [List.getElem?_append_left hl] at hz
    obtain ⟨i, x', e, h1, h2, h3⟩ := h.par j z p hj hz
    exact ⟨i, x', e, h1, by rw [List.getElem?_append_left (by omega)]; exact h2, h3⟩
  · have : j = m.length := by have := (List.getElem?_eq_some_iff.1 hz).1; simp at this; omega
    subst this
    simp at hz
    obtain ⟨rfl, rfl⟩ := hz
    exact ⟨k, x, _, hk, by rw [List.getElem?_append_left hk]; exact hmk, rfl, hy⟩
theorem memGo {b : Bool} {X : Prop} (h : b = true) (hx : X) : (Bool.rec (motive := fun _ => Prop) False X b : Prop) := by subst h; exact hx
theorem search_c (f : Fn) (A : Option Addr) (c : Nat) (slot : Int) (g : Nat) (cap : List Value) (dn : Pt → Bool) (w : World) (hA : RdC w A f.code) (hG : RdG w) (hS : soundB f = true) (hg : memN T.tb.fs g = true)
    (hcl : ∀ x w', Ext w w' → Cl Tryd.prog g (cat [kvP x] cap).toArray w' (fun v w'' => v = .bool (dn x) ∧ Ext w' w'') (fun _ _ => False)) :
    Cl Tryd.prog 54 #[f.v A c, .int .i64 slot, .func (.func g) #[] cap.toArray] w (Found f slot dn w) (fun _ _ => False) := by
  have hsh : shapedB f = true := by simp only [soundB, Bool.and_eq_true] at hS; exact hS.1.1
  obtain ⟨hl1, hl2⟩ := shaped_len hsh
  refine calls_ex (args := [f.v A c, .int .i64 slot, .func (.func g) #[] cap.toArray]) T.ok Tryd.func54 rfl rfl rfl rfl ?_
  refine Sq.mk ?_
  refine Al.mk fun pf w1 hpf hb e1 hs1 => ?_
  repeat' (first | (show Gd _ _ _; first | with_reducible refine Gd.t ?_ | with_reducible refine Gd.f ?_ | with_reducible refine Gd.dec (fun _ => ?_) (fun _ => ?_) | with_reducible refine Gd.beq (fun _ => ?_) (fun _ => ?_) | with_reducible refine Gd.bne (fun _ => ?_) (fun _ => ?_) | with_reducible refine Gd.not ?_ | refine Gd.t ?_ | refine Gd.f ?_ | with_reducible refine Gd.var (fun _ => ?_) (fun _ => ?_)) | (show Sq _ _ _; refine Sq.mk ?_) | (show Ld1 _ _ _; first | (apply Ld1.blk; (focus ((repeat (first | assumption | (apply Blk.from; assumption))); done)); rfl) | (apply Ld1.rsF; (focus ((repeat (first | assumption | (apply RdS.from; assumption))); done)); assumption; rfl) | (apply Ld1.rs; (focus ((repeat (first | assumption | (apply RdS.from; assumption))); done)); assumption; rfl)) | (show Ld _ _ _ _; first | (apply Ld.blk; (focus ((repeat (first | assumption | (apply Blk.from; assumption))); done)); rfl) | (apply Ld.rs; (focus ((repeat (first | assumption | (apply RdS.from; assumption))); done)); assumption)) | (show Ix _ _ _ _ _; first | (apply Ix.rs; (focus ((repeat (first | assumption | (apply RdS.from; assumption))); done)); (first | with_reducible rfl | assumption); (first | assumption | omega)) | (apply Ix.arr; (focus ((repeat (first | assumption | (apply RdS.from; assumption))); done)); (first | assumption | (simp; done)); (first | with_reducible rfl | assumption); (first | assumption | omega))) | (show Al _ _ _ _; refine Al.mk (fun _ _ _ _ _ _ => ?_)) | (show St _ _ _ _; apply St.new; assumption; assumption; assumption; rfl; rfl; intro _ _ _ _))
  rename_i pb wb0 hpb hbb0 eb0 hsb0 wb eb hbeg hsb
  replace hbeg : Blk wb pb 82 (encP (0, 1)) := hbeg
  have e0b : Ext w wb := by (repeat (first | exact Ext.refl _ | assumption | (apply Ext.from; assumption)))
  replace hb := hb.ext eb
  clear hbb0 eb0 hsb0 hsb hs1
  repeat' (first | (show Gd _ _ _; first | with_reducible refine Gd.t ?_ | with_reducible refine Gd.f ?_ | with_reducible refine Gd.dec (fun _ => ?_) (fun _ => ?_) | with_reducible refine Gd.beq (fun _ => ?_) (fun _ => ?_) | with_reducible refine Gd.bne (fun _ => ?_) (fun _ => ?_) | with_reducible refine Gd.not ?_ | refine Gd.t ?_ | refine Gd.f ?_ | with_reducible refine Gd.var (fun _ => ?_) (fun _ => ?_)) | (show Sq _ _ _; refine Sq.mk ?_) | (show Ld1 _ _ _; first | (apply Ld1.blk; (focus ((repeat (first | assumption | (apply Blk.from; assumption))); done)); rfl) | (apply Ld1.rsF; (focus ((repeat (first | assumption | (apply RdS.from; assumption))); done)); assumption; rfl) | (apply Ld1.rs; (focus ((repeat (first | assumption | (apply RdS.from; assumption))); done)); assumption; rfl)) | (show Ld _ _ _ _; first | (apply Ld.blk; (focus ((repeat (first | assumption | (apply Blk.from; assumption))); done)); rfl) | (apply Ld.rs; (focus ((repeat (first | assumption | (apply RdS.from; assumption))); done)); assumption)) | (show Ix _ _ _ _ _; first | (apply Ix.rs; (focus ((repeat (first | assumption | (apply RdS.from; assumption))); done)); (first | with_reducible rfl | assumption); (first | assumption | omega)) | (apply Ix.arr; (focus ((repeat (first | assumption | (apply RdS.from; assumption))); done)); (first | assumption | (simp; done)); (first | with_reducible rfl | assumption); (first | assumption | omega))) | (show Al _ _ _ _; refine Al.mk (fun _ _ _ _ _ _ => ?_)) | (show St _ _ _ _; apply St.new; assumption; assumption; assumption; rfl; rfl; intro _ _ _ _))
  refine Sm.mkmap (kv := kvP) (vv := vvP) fun pm w2 hpm hm2 e2 => ?_
  replace hb := hb.ext e2
  replace hbeg := hbeg.ext e2
  repeat' (first | (show Gd _ _ _; first | with_reducible refine Gd.t ?_ | with_reducible refine Gd.f ?_ | with_reducible refine Gd.dec (fun _ => ?_) (fun _ => ?_) | with_reducible refine Gd.beq (fun _ => ?_) (fun _ => ?_) | with_reducible refine Gd.bne (fun _ => ?_) (fun _ => ?_) | with_reducible refine Gd.not ?_ | refine Gd.t ?_ | refine Gd.f ?_ | with_reducible refine Gd.var (fun _ => ?_) (fun _ => ?_)) | (show Sq _ _ _; refine Sq.mk ?_) | (show Ld1 _ _ _; first | (apply Ld1.blk; (focus ((repeat (first | assumption | (apply Blk.from; assumption))); done)); rfl) | (apply Ld1.rsF; (focus ((repeat (first | assumption | (apply RdS.from; assumption))); done)); assumption; rfl) | (apply Ld1.rs; (focus ((repeat (first | assumption | (apply RdS.from; assumption))); done)); assumption; rfl)) | (show Ld _ _ _ _; first | (apply Ld.blk; (focus ((repeat (first | assumption | (apply Blk.from; assumption))); done)); rfl) | (apply Ld.rs; (focus ((repeat (first | assumption | (apply RdS.from; assumption))); done)); assumption)) | (show Ix _ _ _ _ _; first | (apply Ix.rs; (focus ((repeat (first | assumption | (apply RdS.from; assumption))); done)); (first | with_reducible rfl | assumption); (first | assumption | omega)) | (apply Ix.arr; (focus ((repeat (first | assumption | (apply RdS.from; assumption))); done)); (first | assumption | (simp; done)); (first | with_reducible rfl | assumption); (first | assumption | omega))) | (show Al _ _ _ _; refine Al.mk (fun _ _ _ _ _ _ => ?_)) | (show St _ _ _ _; apply St.new; assumption; assumption; assumption; rfl; rfl; intro _ _ _ _))
  show SmU _ _ _ _ _
  refine SmU.mput (kv := kvP) (vv := vvP) (m := []) (x := (0, 1)) (v := (-1, 0)) (K := 82) (ti := T.t83) T.ok rfl rfl keyP hm2 fun w3 u3 hm3 => ?_
  have hpmlo : w.heap.size ≤ pm := by have := e0b.size; omega
  have e03 : Ext w w3 := (e0b.trans e2).upd u3 hpmlo
  replace hb := hb.upd u3 (fun e => hm2.ne_blk hb e.symm)
  replace hbeg := hbeg.upd u3 (fun e => hm2.ne_blk hbeg e.symm)
  clear hm2 e2 u3 e0b
  repeat' (first | (show Gd _ _ _; first | with_reducible refine Gd.t ?_ | with_reducible refine Gd.f ?_ | with_reducible refine Gd.dec (fun _ => ?_) (fun _ => ?_) | with_reducible refine Gd.beq (fun _ => ?_) (fun _ => ?_) | with_reducible refine Gd.bne (fun _ => ?_) (fun _ => ?_) | with_reducible refine Gd.not ?_ | refine Gd.t ?_ | refine Gd.f ?_ | with_reducible refine Gd.var (fun _ => ?_) (fun _ => ?_)) | (show Sq _ _ _; refine Sq.mk ?_) | (show Ld1 _ _ _; first | (apply Ld1.blk; (focus ((repeat (first | assumption | (apply Blk.from; assumption))); done)); rfl) | (apply Ld1.rsF; (focus ((repeat (first | assumption | (apply RdS.from; assumption))); done)); assumption; rfl) | (apply Ld1.rs; (focus ((repeat (first | assumption | (apply RdS.from; assumption))); done)); assumption; rfl)) | (show Ld _ _ _ _; first | (apply Ld.blk; (focus ((repeat (first | assumption | (apply Blk.from; assumption))); done)); rfl) | (apply Ld.rs; (focus ((repeat (first | assumption | (apply RdS.from; assumption))); done)); assumption)) | (show Ix _ _ _ _ _; first | (apply Ix.rs; (focus ((repeat (first | assumption | (apply RdS.from; assumption))); done)); (first | with_reducible rfl | assumption); (first | assumption | omega)) | (apply Ix.arr; (focus ((repeat (first | assumption | (apply RdS.from; assumption))); done)); (first | assumption | (simp; done)); (first | with_reducible rfl | assumption); (first | assumption | omega))) | (show Al _ _ _ _; refine Al.mk (fun _ _ _ _ _ _ => ?_)) | (show St _ _ _ _; apply St.new; assumption; assumption; assumption; rfl; rfl; intro _ _ _ _))
  refine Sm.lit T.ok (cs := encP (0, 1)) rfl rfl rfl rfl rfl rfl rfl (fun p4 w4 hp4 hb4 e4 hs4 => ?_)
  have hq4 : Que encP 2 82 w4 w.heap.size (some ⟨p4, 0, none⟩) 1 [((0, 1) : Pt)] := by
    have := Que.of_full (l := [((0, 1) : Pt)]) (enc := encP) (sz := 2) (B := w.heap.size) hb4 (by have := e03.size; omega) (fun _ _ => rfl)
    exact this
  replace hb := hb.ext e4
  have hm4 := hm3.ext e4
  have e04 := e03.trans e4
  clear hm3 e4 hb4 e03
  repeat' (first | (show Gd _ _ _; first | with_reducible refine Gd.t ?_ | with_reducible refine Gd.f ?_ | with_reducible refine Gd.dec (fun _ => ?_) (fun _ => ?_) | with_reducible refine Gd.beq (fun _ => ?_) (fun _ => ?_) | with_reducible refine Gd.bne (fun _ => ?_) (fun _ => ?_) | with_reducible refine Gd.not ?_ | refine Gd.t ?_ | refine Gd.f ?_ | with_reducible refine Gd.var (fun _ => ?_) (fun _ => ?_)) | (show Sq _ _ _; refine Sq.mk ?_) | (show Ld1 _ _ _; first | (apply Ld1.blk; (focus ((repeat (first | assumption | (apply Blk.from; assumption))); done)); rfl) | (apply Ld1.rsF; (focus ((repeat (first | assumption | (apply RdS.from; assumption))); done)); assumption; rfl) | (apply Ld1.rs; (focus ((repeat (first | assumption | (apply RdS.from; assumption))); done)); assumption; rfl)) | (show Ld _ _ _ _; first | (apply Ld.blk; (focus ((repeat (first | assumption | (apply Blk.from; assumption))); done)); rfl) | (apply Ld.rs; (focus ((repeat (first | assumption | (apply RdS.from; assumption))); done)); assumption)) | (show Ix _ _ _ _ _; first | (apply Ix.rs; (focus ((repeat (first | assumption | (apply RdS.from; assumption))); done)); (first | with_reducible rfl | assumption); (first | assumption | omega)) | (apply Ix.arr; (focus ((repeat (first | assumption | (apply RdS.from; assumption))); done)); (first | assumption | (simp; done)); (first | with_reducible rfl | assumption); (first | assumption | omega))) | (show Al _ _ _ _; refine Al.mk (fun _ _ _ _ _ _ => ?_)) | (show St _ _ _ _; apply St.new; assumption; assumption; assumption; rfl; rfl; intro _ _ _ _))
  have hm4' : MapO kvP vvP w4 pm [(((0, 1) : Pt), ((-1, 0) : Edge))] := hm4
  have hT0 : Tree f slot [(((0, 1) : Pt), ((-1, 0) : Edge))] := ⟨rfl, fun j y p hj h => by
    have := (List.getElem?_eq_some_iff.1 h).1; simp at this; omega⟩
  refine Lp.g0 T.ok (σ := Nat × List (Pt × Edge) × Option Addr × Nat) (fun s => [(9, .slice s.2.2.1 (s.2.1.length - s.1) s.2.2.2), (8, .map (some pm)), (3, .pointer (some ⟨pf, 0, none⟩)), (1, .int .i64 slot), (2, .func (.func g) #[] cap.toArray)])
    (fun s w' => s.1 ≤ s.2.1.length ∧ Srch f slot (s.2.1.map (·.1)) s.1 ∧ Tree f slot s.2.1 ∧ MapO kvP vvP w' pm s.2.1 ∧ Que encP 2 82 w' w.heap.size s.2.2.1 s.2.2.2 ((s.2.1.map (·.1)).drop s.1) ∧
      Blk w' pf 24 (f.v A c).cells.toList ∧ Ext w w' ∧ ∀ j x, j < s.1 → (s.2.1.map (·.1))[j]? = some x → dn x = false) (fun s _ => 3 * f.code.length - s.1)
    (0, [((0, 1), (-1, 0))], some ⟨p4, 0, none⟩, 1) rfl ⟨rfl, rfl, rfl, rfl, rfl, trivial⟩ ⟨by simp, Srch.begin hl1, hT0, hm4', hq4, hb, e04, fun j x hj => by omega⟩ ?_
  clear hm4 hm4' hT0 hq4 hb e04 hs4
  rintro ⟨k, m, Aw, cw⟩ w5 ⟨hk, hq, hTr, hm, hQ, hb, e05, hdn⟩
  simp only at hk hq hTr hm hQ hb e05 hdn ⊢
  by_cases hlt : k < m.length
  · obtain ⟨x, hx⟩ : ∃ x, (m.map (·.1))[k]? = some x := ⟨_, List.getElem?_eq_getElem (by simpa using hlt)⟩
    obtain ⟨hx1, hx2⟩ := hq.inr x (List.mem_of_getElem? hx)
    obtain ⟨ci, hci⟩ : ∃ ci, f.code[x.1]? = some ci := ⟨f.code[x.1], List.getElem?_eq_getElem hx1⟩
    have hrw := hQ.rd
    have hql : ((m.map (·.1)).drop k).length = m.length - k := by simp
    have hx0 : ((m.map (·.1)).drop k)[0]? = some x := by rw [List.getElem?_drop]; exact hx
    repeat' (first | ((show Gd _ _ _; first | with_reducible refine Gd.t ?_ | with_reducible refine Gd.f ?_ | with_reducible refine Gd.dec (fun _ => ?_) (fun _ => ?_) | with_reducible refine Gd.beq (fun _ => ?_) (fun _ => ?_) | with_reducible refine Gd.bne (fun _ => ?_) (fun _ => ?_) | with_reducible refine Gd.not ?_ | refine Gd.t ?_ | refine Gd.f ?_ | with_reducible refine Gd.var (fun _ => ?_) (fun _ => ?_)) <;> first | (exfalso; omega) | skip) | (first | (show Gd _ _ _; first | with_reducible refine Gd.t ?_ | with_reducible refine Gd.f ?_ | with_reducible refine Gd.dec (fun _ => ?_) (fun _ => ?_) | with_reducible refine Gd.beq (fun _ => ?_) (fun _ => ?_) | with_reducible refine Gd.bne (fun _ => ?_) (fun _ => ?_) | with_reducible refine Gd.not ?_ | refine Gd.t ?_ | refine Gd.f ?_ | with_reducible refine Gd.var (fun _ => ?_) (fun _ => ?_)) | (show Sq _ _ _; refine Sq.mk ?_) | (show Ld1 _ _ _; first | (apply Ld1.blk; (focus ((repeat (first | assumption | (apply Blk.from; assumption))); done)); rfl) | (apply Ld1.rsF; (focus ((repeat (first | assumption | (apply RdS.from; assumption))); done)); assumption; rfl) | (apply Ld1.rs; (focus ((repeat (first | assumption | (apply RdS.from; assumption))); done)); assumption; rfl)) | (show Ld _ _ _ _; first | (apply Ld.blk; (focus ((repeat (first | assumption | (apply Blk.from; assumption))); done)); rfl) | (apply Ld.rs; (focus ((repeat (first | assumption | (apply RdS.from; assumption))); done)); assumption)) | (show Ix _ _ _ _ _; first | (apply Ix.rs; (focus ((repeat (first | assumption | (apply RdS.from; assumption))); done)); (first | with_reducible rfl | assumption); (first | assumption | omega)) | (apply Ix.arr; (focus ((repeat (first | assumption | (apply RdS.from; assumption))); done)); (first | assumption | (simp; done)); (first | with_reducible rfl | assumption); (first | assumption | omega))) | (show Al _ _ _ _; refine Al.mk (fun _ _ _ _ _ _ => ?_)) | (show St _ _ _ _; apply St.new; assumption; assumption; assumption; rfl; rfl; intro _ _ _ _)))
    (show Ix _ _ _ _ _; refine Ix.arr (i := 0) hrw hql rfl (by rw [hql]; omega) ?_)
    repeat' (first | ((show Gd _ _ _; first | with_reducible refine Gd.t ?_ | with_reducible refine Gd.f ?_ | with_reducible refine Gd.dec (fun _ => ?_) (fun _ => ?_) | with_reducible refine Gd.beq (fun _ => ?_) (fun _ => ?_) | with_reducible refine Gd.bne (fun _ => ?_) (fun _ => ?_) | with_reducible refine Gd.not ?_ | refine Gd.t ?_ | refine Gd.f ?_ | with_reducible refine Gd.var (fun _ => ?_) (fun _ => ?_)) <;> first | (exfalso; omega) | skip) | (first | (show Gd _ _ _; first | with_reducible refine Gd.t ?_ | with_reducible refine Gd.f ?_ | with_reducible refine Gd.dec (fun _ => ?_) (fun _ => ?_) | with_reducible refine Gd.beq (fun _ => ?_) (fun _ => ?_) | with_reducible refine Gd.bne (fun _ => ?_) (fun _ => ?_) | with_reducible refine Gd.not ?_ | refine Gd.t ?_ | refine Gd.f ?_ | with_reducible refine Gd.var (fun _ => ?_) (fun _ => ?_)) | (show Sq _ _ _; refine Sq.mk ?_) | (show Ld1 _ _ _; first | (apply Ld1.blk; (focus ((repeat (first | assumption | (apply Blk.from; assumption))); done)); rfl) | (apply Ld1.rsF; (focus ((repeat (first | assumption | (apply RdS.from; assumption))); done)); assumption; rfl) | (apply Ld1.rs; (focus ((repeat (first | assumption | (apply RdS.from; assumption))); done)); assumption; rfl)) | (show Ld _ _ _ _; first | (apply Ld.blk; (focus ((repeat (first | assumption | (apply Blk.from; assumption))); done)); rfl) | (apply Ld.rs; (focus ((repeat (first | assumption | (apply RdS.from; assumption))); done)); assumption)) | (show Ix _ _ _ _ _; first | (apply Ix.rs; (focus ((repeat (first | assumption | (apply RdS.from; assumption))); done)); (first | with_reducible rfl | assumption); (first | assumption | omega)) | (apply Ix.arr; (focus ((repeat (first | assumption | (apply RdS.from; assumption))); done)); (first | assumption | (simp; done)); (first | with_reducible rfl | assumption); (first | assumption | omega))) | (show Al _ _ _ _; refine Al.mk (fun _ _ _ _ _ _ => ?_)) | (show St _ _ _ _; apply St.new; assumption; assumption; assumption; rfl; rfl; intro _ _ _ _)))
    rename_i px w6 hpx hbx0 ex0 hsx0 w7 e7 hbx hsx
    replace hbx : Blk w7 px 82 (encP x) := hbx
    have hQx : obk (cutA Aw cw 1 2) ≠ some px := fun e => by rw [obk_cutA] at e; have := (hQ.obk_lt px e).1; omega
    clear hbx0 ex0 hsx0 hsx hrw
    refine Sm.cutLo (i := 1) T.ok rfl rfl rfl rfl rfl (by omega) ?_
    have hQ7 := (hQ.ext e7).cut (k := 1) (by rw [hql]; omega)
    rw [List.drop_drop] at hQ7
    have e07 := e05.trans e7
    have hm7 := hm.ext e7
    replace hb := hb.ext e7
    clear hQ hm e7 e05
    repeat' (first | ((show Gd _ _ _; first | with_reducible refine Gd.t ?_ | with_reducible refine Gd.f ?_ | with_reducible refine Gd.dec (fun _ => ?_) (fun _ => ?_) | with_reducible refine Gd.beq (fun _ => ?_) (fun _ => ?_) | with_reducible refine Gd.bne (fun _ => ?_) (fun _ => ?_) | with_reducible refine Gd.not ?_ | refine Gd.t ?_ | refine Gd.f ?_ | with_reducible refine Gd.var (fun _ => ?_) (fun _ => ?_)) <;> first | (exfalso; omega) | skip) | (first | (show Gd _ _ _; first | with_reducible refine Gd.t ?_ | with_reducible refine Gd.f ?_ | with_reducible refine Gd.dec (fun _ => ?_) (fun _ => ?_) | with_reducible refine Gd.beq (fun _ => ?_) (fun _ => ?_) | with_reducible refine Gd.bne (fun _ => ?_) (fun _ => ?_) | with_reducible refine Gd.not ?_ | refine Gd.t ?_ | refine Gd.f ?_ | with_reducible refine Gd.var (fun _ => ?_) (fun _ => ?_)) | (show Sq _ _ _; refine Sq.mk ?_) | (show Ld1 _ _ _; first | (apply Ld1.blk; (focus ((repeat (first | assumption | (apply Blk.from; assumption))); done)); rfl) | (apply Ld1.rsF; (focus ((repeat (first | assumption | (apply RdS.from; assumption))); done)); assumption; rfl) | (apply Ld1.rs; (focus ((repeat (first | assumption | (apply RdS.from; assumption))); done)); assumption; rfl)) | (show Ld _ _ _ _; first | (apply Ld.blk; (focus ((repeat (first | assumption | (apply Blk.from; assumption))); done)); rfl) | (apply Ld.rs; (focus ((repeat (first | assumption | (apply RdS.from; assumption))); done)); assumption)) | (show Ix _ _ _ _ _; first | (apply Ix.rs; (focus ((repeat (first | assumption | (apply RdS.from; assumption))); done)); (first | with_reducible rfl | assumption); (first | assumption | omega)) | (apply Ix.arr; (focus ((repeat (first | assumption | (apply RdS.from; assumption))); done)); (first | assumption | (simp; done)); (first | with_reducible rfl | assumption); (first | assumption | omega))) | (show Al _ _ _ _; refine Al.mk (fun _ _ _ _ _ _ => ?_)) | (show St _ _ _ _; apply St.new; assumption; assumption; assumption; rfl; rfl; intro _ _ _ _)))
    conv => whnf
    rw [hg]
    refine Cl.mk (hcl x _ e07) ?_
    rintro _ w8 ⟨rfl, e8⟩
    have e08 := e07.trans e8
    have hQ8 := hQ7.ext e8
    have hm8 := hm7.ext e8
    replace hb := hb.ext e8
    replace hbx := hbx.ext e8
    clear hQ7 hm7 e07 e8
    repeat' (first | ((show Gd _ _ _; first | with_reducible refine Gd.t ?_ | with_reducible refine Gd.f ?_ | with_reducible refine Gd.dec (fun _ => ?_) (fun _ => ?_) | with_reducible refine Gd.beq (fun _ => ?_) (fun _ => ?_) | with_reducible refine Gd.bne (fun _ => ?_) (fun _ => ?_) | with_reducible refine Gd.not ?_ | refine Gd.t ?_ | refine Gd.f ?_ | with_reducible refine Gd.var (fun _ => ?_) (fun _ => ?_)) <;> first | (exfalso; omega) | skip) | (first | (show Gd _ _ _; first | with_reducible refine Gd.t ?_ | with_reducible refine Gd.f ?_ | with_reducible refine Gd.dec (fun _ => ?_) (fun _ => ?_) | with_reducible refine Gd.beq (fun _ => ?_) (fun _ => ?_) | with_reducible refine Gd.bne (fun _ => ?_) (fun _ => ?_) | with_reducible refine Gd.not ?_ | refine Gd.t ?_ | refine Gd.f ?_ | with_reducible refine Gd.var (fun _ => ?_) (fun _ => ?_)) | (show Sq _ _ _; refine Sq.mk ?_) | (show Ld1 _ _ _; first | (apply Ld1.blk; (focus ((repeat (first | assumption | (apply Blk.from; assumption))); done)); rfl) | (apply Ld1.rsF; (focus ((repeat (first | assumption | (apply RdS.from; assumption))); done)); assumption; rfl) | (apply Ld1.rs; (focus ((repeat (first | assumption | (apply RdS.from; assumption))); done)); assumption; rfl)) | (show Ld _ _ _ _; first | (apply Ld.blk; (focus ((repeat (first | assumption | (apply Blk.from; assumption))); done)); rfl) | (apply Ld.rs; (focus ((repeat (first | assumption | (apply RdS.from; assumption))); done)); assumption)) | (show Ix _ _ _ _ _; first | (apply Ix.rs; (focus ((repeat (first | assumption | (apply RdS.from; assumption))); done)); (first | with_reducible rfl | assumption); (first | assumption | omega)) | (apply Ix.arr; (focus ((repeat (first | assumption | (apply RdS.from; assumption))); done)); (first | assumption | (simp; done)); (first | with_reducible rfl | assumption); (first | assumption | omega))) | (show Al _ _ _ _; refine Al.mk (fun _ _ _ _ _ _ => ?_)) | (show St _ _ _ _; apply St.new; assumption; assumption; assumption; rfl; rfl; intro _ _ _ _)))
    · rename_i hd
      exact ⟨pm, m, k, rfl, hpmlo, hm8, hq, hTr, .inr ⟨x, hx, hd⟩, hdn, e08⟩
    rename_i hd
    have hdn' : ∀ j y, j < k + 1 → (m.map (·.1))[j]? = some y → dn y = false := fun j y hj hy => by
      rcases Nat.lt_or_ge j k with h | h
      · exact hdn j y h hy
      · have : j = k := by omega
        subst this
        rw [hx] at hy; simp at hy; subst hy; exact hd
    have hA8 := RdS.from e08 hA
    (show Dr _ _ _ _ _ _ _; refine Dr.quiet T.ok mixed (by kernel_rfl) (fun W hW => ?_))
    repeat' (first | (first | (show Gd _ _ _; first | with_reducible refine Gd.t ?_ | with_reducible refine Gd.f ?_ | with_reducible refine Gd.dec (fun _ => ?_) (fun _ => ?_) | with_reducible refine Gd.beq (fun _ => ?_) (fun _ => ?_) | with_reducible refine Gd.bne (fun _ => ?_) (fun _ => ?_) | with_reducible refine Gd.not ?_ | refine Gd.t ?_ | refine Gd.f ?_ | with_reducible refine Gd.var (fun _ => ?_) (fun _ => ?_)) | (show QLd1 _ _ _; first | (apply QLd1.blk hW; (focus ((repeat (first | assumption | (apply Blk.from; assumption))); done)); rfl) | (apply QLd1.rsF hW; (focus ((repeat (first | assumption | (apply RdS.from; assumption))); done)); assumption; rfl) | (apply QLd1.rs hW; (focus ((repeat (first | assumption | (apply RdS.from; assumption))); done)); assumption; rfl)) | (show QLd _ _ _ _; first | (apply QLd.blk hW; (focus ((repeat (first | assumption | (apply Blk.from; assumption))); done)); rfl) | (apply QLd.rs hW; (focus ((repeat (first | assumption | (apply RdS.from; assumption))); done)); assumption)) | (show Ix _ _ _ _ _; first | (apply Ix.rs; (focus ((repeat (first | assumption | (apply RdS.from; assumption))); done)); (first | with_reducible rfl | assumption); (first | assumption | omega)) | (apply Ix.arr; (focus ((repeat (first | assumption | (apply RdS.from; assumption))); done)); (first | assumption | (simp; done)); (first | with_reducible rfl | assumption); (first | assumption | omega)))) | (show QCl _ _ _ _ _ _; refine QCl.mk hW (fun _ _ => Cl.mk (behind_c ci slot x.2 _) (fun _ _ h => h)) ?_))
    intro w9 e9
    have e09 := e08.trans e9
    have hQ9 := hQ8.ext e9
    have hm9 := hm8.ext e9
    replace hb := hb.ext e9
    replace hbx := hbx.ext e9
    clear hQ8 hm8 e08 e9 hA8 hW
    repeat' (first | ((show Gd _ _ _; first | with_reducible refine Gd.t ?_ | with_reducible refine Gd.f ?_ | with_reducible refine Gd.dec (fun _ => ?_) (fun _ => ?_) | with_reducible refine Gd.beq (fun _ => ?_) (fun _ => ?_) | with_reducible refine Gd.bne (fun _ => ?_) (fun _ => ?_) | with_reducible refine Gd.not ?_ | refine Gd.t ?_ | refine Gd.f ?_ | with_reducible refine Gd.var (fun _ => ?_) (fun _ => ?_)) <;> first | (exfalso; omega) | skip) | (first | (show Gd _ _ _; first | with_reducible refine Gd.t ?_ | with_reducible refine Gd.f ?_ | with_reducible refine Gd.dec (fun _ => ?_) (fun _ => ?_) | with_reducible refine Gd.beq (fun _ => ?_) (fun _ => ?_) | with_reducible refine Gd.bne (fun _ => ?_) (fun _ => ?_) | with_reducible refine Gd.not ?_ | refine Gd.t ?_ | refine Gd.f ?_ | with_reducible refine Gd.var (fun _ => ?_) (fun _ => ?_)) | (show Sq _ _ _; refine Sq.mk ?_) | (show Ld1 _ _ _; first | (apply Ld1.blk; (focus ((repeat (first | assumption | (apply Blk.from; assumption))); done)); rfl) | (apply Ld1.rsF; (focus ((repeat (first | assumption | (apply RdS.from; assumption))); done)); assumption; rfl) | (apply Ld1.rs; (focus ((repeat (first | assumption | (apply RdS.from; assumption))); done)); assumption; rfl)) | (show Ld _ _ _ _; first | (apply Ld.blk; (focus ((repeat (first | assumption | (apply Blk.from; assumption))); done)); rfl) | (apply Ld.rs; (focus ((repeat (first | assumption | (apply RdS.from; assumption))); done)); assumption)) | (show Ix _ _ _ _ _; first | (apply Ix.rs; (focus ((repeat (first | assumption | (apply RdS.from; assumption))); done)); (first | with_reducible rfl | assumption); (first | assumption | omega)) | (apply Ix.arr; (focus ((repeat (first | assumption | (apply RdS.from; assumption))); done)); (first | assumption | (simp; done)); (first | with_reducible rfl | assumption); (first | assumption | omega))) | (show Al _ _ _ _; refine Al.mk (fun _ _ _ _ _ _ => ?_)) | (show St _ _ _ _; apply St.new; assumption; assumption; assumption; rfl; rfl; intro _ _ _ _)))
    (show Cl _ _ _ _ _ _; refine Cl.mk (follow_c f A c x.1 ci _ (RdS.from e09 hA) (RdS.from e09 hG) hci hS) ?_)
    rintro _ w10 ⟨An, cn, rfl, hrn, e10, hfr⟩
    have e010 := e09.trans e10
    have hQ10 := hQ9.ext e10
    have hm10 := hm9.ext e10
    replace hb := hb.ext e10
    replace hbx := hbx.ext e10
    have hAnQ : obk An = none ∨ obk An ≠ obk (cutA Aw cw 1 2) := by
      rcases hob : obk An with _ | b
      · exact .inl rfl
      · exact .inr fun e => by have := hfr b hob; have := (hQ9.obk_lt b e.symm).1; omega
    have hAnm : obk An ≠ some pm := fun e => by have := hfr _ e; have := hm9.lt; omega
    clear hQ9 hm9 e09 e10 hfr
    have hrange := next_range hS hci
    have hokx := okS_after (c := ci) (slot := slot) hx2
    have hsucc : succs f slot x = (nextsS x.1 ci).map fun n => (n.toNat, afterS ci slot x.2) := by simp [succs, hci]
    repeat' (first | ((show Gd _ _ _; first | with_reducible refine Gd.t ?_ | with_reducible refine Gd.f ?_ | with_reducible refine Gd.dec (fun _ => ?_) (fun _ => ?_) | with_reducible refine Gd.beq (fun _ => ?_) (fun _ => ?_) | with_reducible refine Gd.bne (fun _ => ?_) (fun _ => ?_) | with_reducible refine Gd.not ?_ | refine Gd.t ?_ | refine Gd.f ?_ | with_reducible refine Gd.var (fun _ => ?_) (fun _ => ?_)) <;> first | (exfalso; omega) | skip) | (first | (show Gd _ _ _; first | with_reducible refine Gd.t ?_ | with_reducible refine Gd.f ?_ | with_reducible refine Gd.dec (fun _ => ?_) (fun _ => ?_) | with_reducible refine Gd.beq (fun _ => ?_) (fun _ => ?_) | with_reducible refine Gd.bne (fun _ => ?_) (fun _ => ?_) | with_reducible refine Gd.not ?_ | refine Gd.t ?_ | refine Gd.f ?_ | with_reducible refine Gd.var (fun _ => ?_) (fun _ => ?_)) | (show Sq _ _ _; refine Sq.mk ?_) | (show Ld1 _ _ _; first | (apply Ld1.blk; (focus ((repeat (first | assumption | (apply Blk.from; assumption))); done)); rfl) | (apply Ld1.rsF; (focus ((repeat (first | assumption | (apply RdS.from; assumption))); done)); assumption; rfl) | (apply Ld1.rs; (focus ((repeat (first | assumption | (apply RdS.from; assumption))); done)); assumption; rfl)) | (show Ld _ _ _ _; first | (apply Ld.blk; (focus ((repeat (first | assumption | (apply Blk.from; assumption))); done)); rfl) | (apply Ld.rs; (focus ((repeat (first | assumption | (apply RdS.from; assumption))); done)); assumption)) | (show Ix _ _ _ _ _; first | (apply Ix.rs; (focus ((repeat (first | assumption | (apply RdS.from; assumption))); done)); (first | with_reducible rfl | assumption); (first | assumption | omega)) | (apply Ix.arr; (focus ((repeat (first | assumption | (apply RdS.from; assumption))); done)); (first | assumption | (simp; done)); (first | with_reducible rfl | assumption); (first | assumption | omega))) | (show Al _ _ _ _; refine Al.mk (fun _ _ _ _ _ _ => ?_)) | (show St _ _ _ _; apply St.new; assumption; assumption; assumption; rfl; rfl; intro _ _ _ _)))
    refine Lp.g0 T.ok (σ := Nat × List (Pt × Edge) × Option Addr × Nat) (fun s => [(50, .int .i64 (s.1 : Int)), (49, .int .i64 ((nextsS x.1 ci).length : Int)), (48, .slice An (nextsS x.1 ci).length cn), (11, .int .i64 (afterS ci slot x.2)), (10, .pointer (some ⟨px, 0, none⟩)),
        (9, .slice s.2.2.1 (s.2.1.length - (k + 1)) s.2.2.2), (8, .map (some pm)), (3, .pointer (some ⟨pf, 0, none⟩)), (1, .int .i64 slot), (2, .func (.func g) #[] cap.toArray)])
      (fun s w' => s.1 ≤ (nextsS x.1 ci).length ∧ Srch f slot (s.2.1.map (·.1)) k ∧ (s.2.1.map (·.1))[k]? = some x ∧ Tree f slot s.2.1 ∧ (∀ j' n, j' < s.1 → (nextsS x.1 ci)[j']? = some n → (n.toNat, afterS ci slot x.2) ∈ s.2.1.map (·.1)) ∧
        MapO kvP vvP w' pm s.2.1 ∧ Que encP 2 82 w' w.heap.size s.2.2.1 s.2.2.2 ((s.2.1.map (·.1)).drop (k + 1)) ∧ Blk w' pf 24 (f.v A c).cells.toList ∧ Blk w' px 82 (encP x) ∧ Ext w w' ∧
        RdS ints 1 w' An (nextsS x.1 ci) ∧ (obk An = none ∨ obk An ≠ obk s.2.2.1) ∧ obk s.2.2.1 ≠ some px ∧ ∀ j y, j < k + 1 → (s.2.1.map (·.1))[j]? = some y → dn y = false)
      (fun s _ => (nextsS x.1 ci).length - s.1)
      (0, m, cutA Aw cw 1 2, cw - 1) rfl ⟨rfl, rfl, rfl, rfl, rfl, rfl, rfl, rfl, rfl, rfl, trivial⟩ ⟨by simp, hq, hx, hTr, fun j' n hj => by omega, hm10, hQ10, hb, hbx, e010, hrn, hAnQ, hQx, hdn'⟩ ?_
    clear hq hx hTr hm10 hQ10 hb hbx e010 hrn hAnQ hQx hdn' hx0 hql hlt hk hdn
    rintro ⟨j, m', Bw, dw⟩ w11 ⟨hj, hq, hx, hTr, hd, hm, hQ, hb, hbx, e011, hrn, hAnQ, hQx, hdn⟩
    simp only at hj hq hx hTr hd hm hQ hb hbx e011 hrn hAnQ hQx hdn ⊢
    have hkl : k < m'.length := by simpa using (List.getElem?_eq_some_iff.1 hx).1
    have hml := hq.len
    rw [List.length_map] at hml
    by_cases hjl : j < (nextsS x.1 ci).length
    · obtain ⟨n0, hn0⟩ : ∃ n0, (nextsS x.1 ci)[j]? = some n0 := ⟨_, List.getElem?_eq_getElem hjl⟩
      obtain ⟨hr0, hr1⟩ := hrange n0 (List.mem_of_getElem? hn0)
      obtain ⟨i, rfl⟩ : ∃ i : Nat, n0 = (i : Int) := ⟨n0.toNat, by omega⟩
      have hi : i < f.code.length := by omega
      have hsy : ((i : Nat), afterS ci slot x.2) ∈ succs f slot x := by
        rw [hsucc]; exact List.mem_map.2 ⟨(i : Int), List.mem_of_getElem? hn0, by simp⟩
      repeat' (first | ((show Gd _ _ _; first | with_reducible refine Gd.t ?_ | with_reducible refine Gd.f ?_ | with_reducible refine Gd.dec (fun _ => ?_) (fun _ => ?_) | with_reducible refine Gd.beq (fun _ => ?_) (fun _ => ?_) | with_reducible refine Gd.bne (fun _ => ?_) (fun _ => ?_) | with_reducible refine Gd.not ?_ | refine Gd.t ?_ | refine Gd.f ?_ | with_reducible refine Gd.var (fun _ => ?_) (fun _ => ?_)) <;> first | (exfalso; omega) | skip) | (first | (show Gd _ _ _; first | with_reducible refine Gd.t ?_ | with_reducible refine Gd.f ?_ | with_reducible refine Gd.dec (fun _ => ?_) (fun _ => ?_) | with_reducible refine Gd.beq (fun _ => ?_) (fun _ => ?_) | with_reducible refine Gd.bne (fun _ => ?_) (fun _ => ?_) | with_reducible refine Gd.not ?_ | refine Gd.t ?_ | refine Gd.f ?_ | with_reducible refine Gd.var (fun _ => ?_) (fun _ => ?_)) | (show Sq _ _ _; refine Sq.mk ?_) | (show Ld1 _ _ _; first | (apply Ld1.blk; (focus ((repeat (first | assumption | (apply Blk.from; assumption))); done)); rfl) | (apply Ld1.rsF; (focus ((repeat (first | assumption | (apply RdS.from; assumption))); done)); assumption; rfl) | (apply Ld1.rs; (focus ((repeat (first | assumption | (apply RdS.from; assumption))); done)); assumption; rfl)) | (show Ld _ _ _ _; first | (apply Ld.blk; (focus ((repeat (first | assumption | (apply Blk.from; assumption))); done)); rfl) | (apply Ld.rs; (focus ((repeat (first | assumption | (apply RdS.from; assumption))); done)); assumption)) | (show Ix _ _ _ _ _; first | (apply Ix.rs; (focus ((repeat (first | assumption | (apply RdS.from; assumption))); done)); (first | with_reducible rfl | assumption); (first | assumption | omega)) | (apply Ix.arr; (focus ((repeat (first | assumption | (apply RdS.from; assumption))); done)); (first | assumption | (simp; done)); (first | with_reducible rfl | assumption); (first | assumption | omega))) | (show Al _ _ _ _; refine Al.mk (fun _ _ _ _ _ _ => ?_)) | (show St _ _ _ _; apply St.new; assumption; assumption; assumption; rfl; rfl; intro _ _ _ _)))
      rename_i py w12 hpy hby0 ey0 hsy0 w13 e13 hby hsy1
      replace hby : Blk w13 py 82 (encP ((i, afterS ci slot x.2) : Pt)) := hby
      show Sm _ _ _ _ _
      refine Sm.lkp (kv := kvP) (vv := vvP) (m := m') (x := ((i, afterS ci slot x.2) : Pt)) (z := ((0, 0) : Edge)) (ti := T.t83) (ei := T.t82) T.ok rfl rfl rfl rfl keyP (hm.ext e13) ?_
      have hnl : (nextsS x.1 ci).length ≤ 2 := by unfold nextsS; (repeat' split) <;> simp
      clear hby0 ey0 hsy0 hsy1
      repeat' (first | ((show Gd _ _ _; first | with_reducible refine Gd.t ?_ | with_reducible refine Gd.f ?_ | with_reducible refine Gd.dec (fun _ => ?_) (fun _ => ?_) | with_reducible refine Gd.beq (fun _ => ?_) (fun _ => ?_) | with_reducible refine Gd.bne (fun _ => ?_) (fun _ => ?_) | with_reducible refine Gd.not ?_ | refine Gd.t ?_ | refine Gd.f ?_ | with_reducible refine Gd.var (fun _ => ?_) (fun _ => ?_)) <;> first | (exfalso; omega) | skip) | (first | (show Gd _ _ _; first | with_reducible refine Gd.t ?_ | with_reducible refine Gd.f ?_ | with_reducible refine Gd.dec (fun _ => ?_) (fun _ => ?_) | with_reducible refine Gd.beq (fun _ => ?_) (fun _ => ?_) | with_reducible refine Gd.bne (fun _ => ?_) (fun _ => ?_) | with_reducible refine Gd.not ?_ | refine Gd.t ?_ | refine Gd.f ?_ | with_reducible refine Gd.var (fun _ => ?_) (fun _ => ?_)) | (show Sq _ _ _; refine Sq.mk ?_) | (show Ld1 _ _ _; first | (apply Ld1.blk; (focus ((repeat (first | assumption | (apply Blk.from; assumption))); done)); rfl) | (apply Ld1.rsF; (focus ((repeat (first | assumption | (apply RdS.from; assumption))); done)); assumption; rfl) | (apply Ld1.rs; (focus ((repeat (first | assumption | (apply RdS.from; assumption))); done)); assumption; rfl)) | (show Ld _ _ _ _; first | (apply Ld.blk; (focus ((repeat (first | assumption | (apply Blk.from; assumption))); done)); rfl) | (apply Ld.rs; (focus ((repeat (first | assumption | (apply RdS.from; assumption))); done)); assumption)) | (show Ix _ _ _ _ _; first | (apply Ix.rs; (focus ((repeat (first | assumption | (apply RdS.from; assumption))); done)); (first | with_reducible rfl | assumption); (first | assumption | omega)) | (apply Ix.arr; (focus ((repeat (first | assumption | (apply RdS.from; assumption))); done)); (first | assumption | (simp; done)); (first | with_reducible rfl | assumption); (first | assumption | omega))) | (show Al _ _ _ _; refine Al.mk (fun _ _ _ _ _ _ => ?_)) | (show St _ _ _ _; apply St.new; assumption; assumption; assumption; rfl; rfl; intro _ _ _ _)))
      · rename_i w14 _ _ _ w15 e15 _ _ hs
        have hold := (fnd_isSome m' _).1 hs
        have e11 : Ext w11 w15 := by (repeat (first | exact Ext.refl _ | assumption | (apply Ext.from; assumption)))
        refine ⟨(j + 1, m', Bw, dw), ⟨at_int (m := ((j + 1 : Nat) : Int)) rfl (w64 (by simp) (by omega) (by omega)), rfl, rfl, rfl, rfl, rfl, rfl, rfl, rfl, rfl, trivial⟩, rfl, ⟨by simp; omega, hq, hx, hTr, fun j' n hj' hn => ?_, hm.ext e11, hQ.ext e11, hb.ext e11, hbx.ext e11, e011.trans e11, RdS.from e11 hrn, hAnQ, hQx, hdn⟩, by simp; omega⟩
        rcases Nat.lt_or_ge j' j with h | h
        · exact hd j' n h hn
        · have : j' = j := by simp at hj'; omega
          subst this
          rw [hn0] at hn; simp at hn; subst hn; simpa using hold
      · rename_i w14 _ _ _ w15 e15 _ _ hs
        have hnew : ((i, afterS ci slot x.2) : Pt) ∉ m'.map (·.1) := fun h => by
          have := (fnd_isSome m' _).2 h
          rw [hs] at this; simp at this
        have hq2 : Srch f slot ((m' ++ [(((i, afterS ci slot x.2) : Pt), (((x.1 : Int), x.2) : Edge))]).map (·.1)) k := by
          rw [List.map_append]; exact hq.snoc hx hsy hi hokx hnew
        have hT2 := hTr.snoc hx hsy
        have e11 : Ext w11 w15 := by (repeat (first | exact Ext.refl _ | assumption | (apply Ext.from; assumption)))
        show SmU _ _ _ _ _
        refine SmU.mput (kv := kvP) (vv := vvP) (m := m') (x := ((i, afterS ci slot x.2) : Pt)) (v := (((x.1 : Int), x.2) : Edge)) (K := 82) (ti := T.t83) T.ok rfl rfl keyP (hm.ext e11) fun w16 u16 hm16 => ?_
        rw [mput_new hnew] at hm16
        have hm15 := hm.ext e11
        have e1315 : Ext w13 w15 := by (repeat (first | exact Ext.refl _ | assumption | (apply Ext.from; assumption)))
        have e016 := (e011.trans e11).upd u16 hpmlo
        replace hby := (hby.ext e1315).upd u16 (fun e => hm15.ne_blk (hby.ext e1315) e.symm)
        replace hb := (hb.ext e11).upd u16 (fun e => hm15.ne_blk (hb.ext e11) e.symm)
        replace hbx := (hbx.ext e11).upd u16 (fun e => hm15.ne_blk (hbx.ext e11) e.symm)
        have hQ16 := (hQ.ext e11).upd u16 ((hQ.ext e11).ne_map hm15)
        have hrn16 := (RdS.from e11 hrn).upd u16 hAnm
        clear e11 hm15 e1315 hm hQ hrn u16 e011
        repeat' (first | ((show Gd _ _ _; first | with_reducible refine Gd.t ?_ | with_reducible refine Gd.f ?_ | with_reducible refine Gd.dec (fun _ => ?_) (fun _ => ?_) | with_reducible refine Gd.beq (fun _ => ?_) (fun _ => ?_) | with_reducible refine Gd.bne (fun _ => ?_) (fun _ => ?_) | with_reducible refine Gd.not ?_ | refine Gd.t ?_ | refine Gd.f ?_ | with_reducible refine Gd.var (fun _ => ?_) (fun _ => ?_)) <;> first | (exfalso; omega) | skip) | (first | (show Gd _ _ _; first | with_reducible refine Gd.t ?_ | with_reducible refine Gd.f ?_ | with_reducible refine Gd.dec (fun _ => ?_) (fun _ => ?_) | with_reducible refine Gd.beq (fun _ => ?_) (fun _ => ?_) | with_reducible refine Gd.bne (fun _ => ?_) (fun _ => ?_) | with_reducible refine Gd.not ?_ | refine Gd.t ?_ | refine Gd.f ?_ | with_reducible refine Gd.var (fun _ => ?_) (fun _ => ?_)) | (show Sq _ _ _; refine Sq.mk ?_) | (show Ld1 _ _ _; first | (apply Ld1.blk; (focus ((repeat (first | assumption | (apply Blk.from; assumption))); done)); rfl) | (apply Ld1.rsF; (focus ((repeat (first | assumption | (apply RdS.from; assumption))); done)); assumption; rfl) | (apply Ld1.rs; (focus ((repeat (first | assumption | (apply RdS.from; assumption))); done)); assumption; rfl)) | (show Ld _ _ _ _; first | (apply Ld.blk; (focus ((repeat (first | assumption | (apply Blk.from; assumption))); done)); rfl) | (apply Ld.rs; (focus ((repeat (first | assumption | (apply RdS.from; assumption))); done)); assumption)) | (show Ix _ _ _ _ _; first | (apply Ix.rs; (focus ((repeat (first | assumption | (apply RdS.from; assumption))); done)); (first | with_reducible rfl | assumption); (first | assumption | omega)) | (apply Ix.arr; (focus ((repeat (first | assumption | (apply RdS.from; assumption))); done)); (first | assumption | (simp; done)); (first | with_reducible rfl | assumption); (first | assumption | omega))) | (show Al _ _ _ _; refine Al.mk (fun _ _ _ _ _ _ => ?_)) | (show St _ _ _ _; apply St.new; assumption; assumption; assumption; rfl; rfl; intro _ _ _ _)))
        refine Sm.lit T.ok (cs := encP (i, afterS ci slot x.2)) rfl rfl rfl rfl rfl rfl rfl (fun p17 w17 hp17 hb17 e17 _ => ?_)
        have hr17 : RdS encP 2 w17 (some ⟨p17, 0, none⟩) [((i, afterS ci slot x.2) : Pt)] := by
          have := Que.of_full (l := [((i, afterS ci slot x.2) : Pt)]) (enc := encP) (sz := 2) (B := 0) hb17 (Nat.zero_le _) (fun _ _ => rfl)
          exact this.rd
        refine Sm.appQ (enc := encP) (m := [((i, afterS ci slot x.2) : Pt)]) T.ok rfl rfl rfl rfl rfl (by decide) (hQ16.ext e17) (by simp) hr17 rfl (by simp) (fun _ _ => rfl) (fun y _ v hv => by simp [encP] at hv; rcases hv with rfl | rfl <;> rfl) ?_ ?_ (e016.trans e17).size (fun C d' w18 hQ18 g18 hC => ?_)
        · simp only [List.length_drop, List.length_map, List.length_singleton]
          show _ * 16 ≤ _
          omega
        · simp only [List.length_drop, List.length_map, List.length_singleton]
          omega
        have hn' : nextsS x.1 ci ≠ [] := fun e => by rw [e] at hjl; simp at hjl
        have e018 : Ext w w18 := Grow.extQ (e016.trans e17) g18 (hQ16.ext e17) (Nat.le_refl _)
        have hd18 : ((m' ++ [(((i, afterS ci slot x.2) : Pt), (((x.1 : Int), x.2) : Edge))]).map (·.1)).drop (k + 1) = (m'.map (·.1)).drop (k + 1) ++ [(i, afterS ci slot x.2)] := by
          rw [List.map_append, List.drop_append_of_le_length (by simp; omega)]; rfl
        rw [← hd18] at hQ18
        have hm18 : MapO kvP vvP w18 pm (m' ++ [(((i, afterS ci slot x.2) : Pt), (((x.1 : Int), x.2) : Edge))]) := (hm16.ext e17).grow g18 ((hQ16.ext e17).ne_map (hm16.ext e17))
        refine ⟨(j + 1, m' ++ [(((i, afterS ci slot x.2) : Pt), (((x.1 : Int), x.2) : Edge))], C, d'), ⟨at_int (m := ((j + 1 : Nat) : Int)) rfl (w64 (by simp) (by omega) (by omega)), rfl, rfl, rfl, rfl, at_val rfl (by simp; omega), rfl, rfl, rfl, rfl, trivial⟩, rfl,
          ⟨by simp; omega, hq2, ?_, hT2, fun j' n hj' hn => ?_, hm18, hQ18, (hb.ext e17).grow' g18 ((hQ16.ext e17).ne_t (hb.ext e17) (by decide)), (hbx.ext e17).grow' g18 hQx, e018, (RdS.from e17 hrn16).grow g18 hAnQ, ?_, ?_, fun j' y hj' hy => ?_⟩, by simp; omega⟩
        · simp only; rw [List.map_append, List.getElem?_append_left (by simpa using hkl)]; exact hx
        · simp only [List.map_append]
          rcases Nat.lt_or_ge j' j with h | h
          · exact List.mem_append_left _ (hd j' n h hn)
          · have : j' = j := by simp at hj'; omega
            subst this
            rw [hn0] at hn; simp at hn; subst hn; simp
        · exact obk_new hAnQ hC (fun b hb => Nat.lt_of_lt_of_le (hrn16.lt hn' b hb) e17.size)
        · have hlx := hbx.lt
          rcases hC with h | h <;> simp only [h]
          · exact hQx
          · intro e; simp at e; have := e17.size; omega
        · refine hdn j' y hj' ?_
          simp only [List.map_append] at hy
          rw [List.getElem?_append_left (by simp; omega)] at hy
          exact hy
    · repeat' (first | ((show Gd _ _ _; first | with_reducible refine Gd.t ?_ | with_reducible refine Gd.f ?_ | with_reducible refine Gd.dec (fun _ => ?_) (fun _ => ?_) | with_reducible refine Gd.beq (fun _ => ?_) (fun _ => ?_) | with_reducible refine Gd.bne (fun _ => ?_) (fun _ => ?_) | with_reducible refine Gd.not ?_ | refine Gd.t ?_ | refine Gd.f ?_ | with_reducible refine Gd.var (fun _ => ?_) (fun _ => ?_)) <;> first | (exfalso; omega) | skip) | (first | (show Gd _ _ _; first | with_reducible refine Gd.t ?_ | with_reducible refine Gd.f ?_ | with_reducible refine Gd.dec (fun _ => ?_) (fun _ => ?_) | with_reducible refine Gd.beq (fun _ => ?_) (fun _ => ?_) | with_reducible refine Gd.bne (fun _ => ?_) (fun _ => ?_) | with_reducible refine Gd.not ?_ | refine Gd.t ?_ | refine Gd.f ?_ | with_reducible refine Gd.var (fun _ => ?_) (fun _ => ?_)) | (show Sq _ _ _; refine Sq.mk ?_) | (show Ld1 _ _ _; first | (apply Ld1.blk; (focus ((repeat (first | assumption | (apply Blk.from; assumption))); done)); rfl) | (apply Ld1.rsF; (focus ((repeat (first | assumption | (apply RdS.from; assumption))); done)); assumption; rfl) | (apply Ld1.rs; (focus ((repeat (first | assumption | (apply RdS.from; assumption))); done)); assumption; rfl)) | (show Ld _ _ _ _; first | (apply Ld.blk; (focus ((repeat (first | assumption | (apply Blk.from; assumption))); done)); rfl) | (apply Ld.rs; (focus ((repeat (first | assumption | (apply RdS.from; assumption))); done)); assumption)) | (show Ix _ _ _ _ _; first | (apply Ix.rs; (focus ((repeat (first | assumption | (apply RdS.from; assumption))); done)); (first | with_reducible rfl | assumption); (first | assumption | omega)) | (apply Ix.arr; (focus ((repeat (first | assumption | (apply RdS.from; assumption))); done)); (first | assumption | (simp; done)); (first | with_reducible rfl | assumption); (first | assumption | omega))) | (show Al _ _ _ _; refine Al.mk (fun _ _ _ _ _ _ => ?_)) | (show St _ _ _ _; apply St.new; assumption; assumption; assumption; rfl; rfl; intro _ _ _ _)))
      have hj : j = (nextsS x.1 ci).length := by omega
      have hq2 : Srch f slot (m'.map (·.1)) (k + 1) := hq.next hx (fun y hy => by
        rw [hsucc] at hy
        obtain ⟨n, hn, rfl⟩ := List.mem_map.1 hy
        obtain ⟨j', hj'⟩ := List.getElem?_of_mem hn
        exact hd j' n (by rw [hj]; exact (List.getElem?_eq_some_iff.1 hj').1) hj')
      exact ⟨(k + 1, m', Bw, dw), ⟨rfl, rfl, rfl, rfl, rfl, trivial⟩, rfl, ⟨by simp; omega, hq2, hTr, hm, hQ, hb, e011, hdn⟩, by simp; omega⟩
  · repeat' (first | ((show Gd _ _ _; first | with_reducible refine Gd.t ?_ | with_reducible refine Gd.f ?_ | with_reducible refine Gd.dec (fun _ => ?_) (fun _ => ?_) | with_reducible refine Gd.beq (fun _ => ?_) (fun _ => ?_) | with_reducible refine Gd.bne (fun _ => ?_) (fun _ => ?_) | with_reducible refine Gd.not ?_ | refine Gd.t ?_ | refine Gd.f ?_ | with_reducible refine Gd.var (fun _ => ?_) (fun _ => ?_)) <;> first | (exfalso; omega) | skip) | (first | (show Gd _ _ _; first | with_reducible refine Gd.t ?_ | with_reducible refine Gd.f ?_ | with_reducible refine Gd.dec (fun _ => ?_) (fun _ => ?_) | with_reducible refine Gd.beq (fun _ => ?_) (fun _ => ?_) | with_reducible refine Gd.bne (fun _ => ?_) (fun _ => ?_) | with_reducible refine Gd.not ?_ | refine Gd.t ?_ | refine Gd.f ?_ | with_reducible refine Gd.var (fun _ => ?_) (fun _ => ?_)) | (show Sq _ _ _; refine Sq.mk ?_) | (show Ld1 _ _ _; first | (apply Ld1.blk; (focus ((repeat (first | assumption | (apply Blk.from; assumption))); done)); rfl) | (apply Ld1.rsF; (focus ((repeat (first | assumption | (apply RdS.from; assumption))); done)); assumption; rfl) | (apply Ld1.rs; (focus ((repeat (first | assumption | (apply RdS.from; assumption))); done)); assumption; rfl)) | (show Ld _ _ _ _; first | (apply Ld.blk; (focus ((repeat (first | assumption | (apply Blk.from; assumption))); done)); rfl) | (apply Ld.rs; (focus ((repeat (first | assumption | (apply RdS.from; assumption))); done)); assumption)) | (show Ix _ _ _ _ _; first | (apply Ix.rs; (focus ((repeat (first | assumption | (apply RdS.from; assumption))); done)); (first | with_reducible rfl | assumption); (first | assumption | omega)) | (apply Ix.arr; (focus ((repeat (first | assumption | (apply RdS.from; assumption))); done)); (first | assumption | (simp; done)); (first | with_reducible rfl | assumption); (first | assumption | omega))) | (show Al _ _ _ _; refine Al.mk (fun _ _ _ _ _ _ => ?_)) | (show St _ _ _ _; apply St.new; assumption; assumption; assumption; rfl; rfl; intro _ _ _ _)))
    have : k = m.length := by omega
    subst this
    exact ⟨pm, m, _, rfl, hpmlo, hm, hq, hTr, .inl rfl, hdn, e05⟩
end Go.Proofs.YtbbadmlekagloaaDoor
