/- own work: PgH, PgI, PgJ, ShP, PgK, PgN, PgO -/
import Derived.Test.YtbbadmlekagloaaDoorMD2
namespace Go.Proofs.YtbbadmlekagloaaDoor
open Go Go.Sh
attribute [local irreducible] Blk Ext RdS
abbrev Edge := Int × Int
def kvP (x : Pt) : Value := .agg #[.int .i64 x.1, .int .i64 x.2]
def vvP (y : Edge) : Value := .agg #[.int .i64 y.1, .int .i64 y.2]
def encP (x : Pt) : List Value := [.int .i64 x.1, .int .i64 x.2]
theorem keyP : KeyOK Tryd.prog 82 kvP := by
  refine keyOK_struct (ti := T.t82) T.ok rfl rfl (fun x => ⟨_, rfl, fun f hf => ?_⟩) (fun x y => ?_) (fun x => ?_)
  · simp at hf
    rcases hf with rfl | rfl
    · exact ⟨_, T.t3, .i64, rfl, rfl, rfl⟩
    · exact ⟨_, T.t3, .i64, rfl, rfl, rfl⟩
  · show some _ = _
    congr 1
    obtain ⟨a, b⟩ := x
    obtain ⟨c, d⟩ := y
    rw [Bool.eq_iff_iff]
    simp
    omega
  · simp [kvP, Instr.sameBits]
/-- where each point was come to from -/
structure Tree (f : Fn) (slot : Int) (m : List (Pt × Edge)) : Prop where
  head : m[0]? = some ((0, 1), (-1, 0))
  par : ∀ j y p, 0 < j → m[j]? = some (y, p) → ∃ i x e, i < j ∧ m[i]? = some (x, e) ∧ p = ((x.1 : Int), x.2) ∧ y ∈ succs f slot x
def Found (f : Fn) (slot : Int) (dn : Pt → Bool) (w : World) (v : Value) (w' : World) : Prop := ∃ pm m k, v = .map (some pm) ∧ w.heap.size ≤ pm ∧ MapO kvP vvP w' pm m ∧ Srch f slot (m.map (·.1)) k ∧ Tree f slot m ∧
  (k = m.length ∨ ∃ x, (m.map (·.1))[k]? = some x ∧ dn x = true) ∧ (∀ j x, j < k → (m.map (·.1))[j]? = some x → dn x = false) ∧ Ext w w'
theorem fnd_isSome {κ ν : Type} [DecidableEq κ] (m : List (κ × ν)) (k : κ) : (fnd m k).isSome = true ↔ k ∈ m.map (·.1) := by
  unfold fnd
  simp [List.find?_isSome]
theorem mput_new {κ ν : Type} [DecidableEq κ] {m : List (κ × ν)} {k : κ} {v : ν} (h : k ∉ m.map (·.1)) : mput m k v = m ++ [(k, v)] := by
  unfold mput
  have : idx m k 0 = none := (idx_none k m 0).2 fun x hx e => h (List.mem_map.2 ⟨x, hx, e⟩)
  rw [this]
theorem Tree.snoc {f : Fn} {slot : Int} {m : List (Pt × Edge)} (h : Tree f slot m) {k : Nat} {x y : Pt} (hx : (m.map (·.1))[k]? = some x) (hy : y ∈ succs f slot x) : Tree f slot (m ++ [(y, ((x.1 : Int), x.2))]) := by
  have hk : k < m.length := by simpa using (List.getElem?_eq_some_iff.1 hx).1
  have h0 : 0 < m.length := (List.getElem?_eq_some_iff.1 h.head).1
  have hmk : m[k]? = some (x, m[k].2) := by
    rw [List.getElem?_map] at hx
    rw [List.getElem?_eq_getElem hk] at hx ⊢
    simp at hx
    rw [← hx]
  refine ⟨by rw [List.getElem?_append_left h0]; exact h.head, fun j z p hj hz => ?_⟩
  rcases Nat.lt_or_ge j m.length with hl | hl
  · rw [List.getElem?_append_left hl] at hz
    obtain ⟨i, x', e, h1, h2, h3⟩ := h.par j z p hj hz
    exact ⟨i, x', e, h1, by rw [List.getElem?_append_left (by omega)]; exact h2, h3⟩
  · have : j = m.length := by have := (List.getElem?_eq_some_iff.1 hz).1; simp at this; omega
    subst this
    simp at hz
    obtain ⟨rfl, rfl⟩ := hz
    exact ⟨k, x, _, hk, by rw [List.getElem?_append_left hk]; exact hmk, rfl, hy⟩
theorem memGo {b : Bool} {X : Prop} (h : b = true) (hx : X) : (Bool.rec (motive := fun _ => Prop) False X b : Prop) := by subst h; exact hx
theorem search_c (f : Fn) (A : Option Addr) (c : Nat) (slot : Int) (g : Nat) (cap : List Value) (dn : Pt → Bool) (w : World) (hA : RdC w A f.code) (hG : RdG w) (hS : soundB f = true) (hg : memN T.tb.fs g = true)
    (hcl : ∀ x w', Ext w w' → Cl Tryd.prog g (cat [kvP x] cap).toArray w' (fun v w'' => v = .bool (dn x) ∧ Ext w' w'') (fun _ _ => False)) :
    Cl Tryd.prog 54 #[f.v A c, .int .i64 slot, .func (.func g) #[] cap.toArray] w (Found f slot dn w) (fun _ _ => False) := by
  have hsh : shapedB f = true := by simp only [soundB, Bool.and_eq_true] at hS; exact hS.1.1
  obtain ⟨hl1, hl2⟩ := shaped_len hsh
  refine calls_ex (args := [f.v A c, .int .i64 slot, .func (.func g) #[] cap.toArray]) T.ok Tryd.func54 rfl rfl rfl rfl ?_
  refine Sq.mk ?_
  refine Al.mk fun pf w1 hpf hb e1 hs1 => ?_
  repeat' (first | (show Gd _ _ _; first | with_reducible refine Gd.t ?_ | with_reducible refine Gd.f ?_ | with_reducible refine Gd.dec (fun _ => ?_) (fun _ => ?_) | with_reducible refine Gd.beq (fun _ => ?_) (fun _ => ?_) | with_reducible refine Gd.bne (fun _ => ?_) (fun _ => ?_) | with_reducible refine Gd.not ?_ | refine Gd.t ?_ | refine Gd.f ?_ | with_reducible refine Gd.var (fun _ => ?_) (fun _ => ?_)) | (show Sq _ _ _; refine Sq.mk ?_) | (show Ld1 _ _ _; first | (apply Ld1.blk; (focus ((repeat (first | assumption | (apply Blk.from; assumption))); done)); rfl) | (apply Ld1.rsF; (focus ((repeat (first | assumption | (apply RdS.from; assumption))); done)); assumption; rfl) | (apply Ld1.rs; (focus ((repeat (first | assumption | (apply RdS.from; assumption))); done)); assumption; rfl)) | (show Ld _ _ _ _; first | (apply Ld.blk; (focus ((repeat (first | assumption | (apply Blk.from; assumption))); done)); rfl) | (apply Ld.rs; (focus ((repeat (first | assumption | (apply RdS.from; assumption))); done)); assumption)) | (show Ix _ _ _ _ _; first | (apply Ix.rs; (focus ((repeat (first | assumption | (apply RdS.from; assumption))); done)); (first | with_reducible rfl | assumption); (first | assumption | omega)) | (apply Ix.arr; (focus ((repeat (first | assumption | (apply RdS.from; assumption))); done)); (first | assumption | (simp; done)); (first | with_reducible rfl | assumption); (first | assumption | omega))) | (show Al _ _ _ _; refine Al.mk (fun _ _ _ _ _ _ => ?_)) | (show St _ _ _ _; apply St.new; assumption; assumption; assumption; rfl; rfl; intro _ _ _ _))
  rename_i pb wb0 hpb hbb0 eb0 hsb0 wb eb hbeg hsb
  replace hbeg : Blk wb pb 82 (encP (0, 1)) := hbeg
  have e0b : Ext w wb := by (repeat (first | exact Ext.refl _ | assumption | (apply Ext.from; assumption)))
  replace hb := hb.ext eb
  clear hbb0 eb0 hsb0 hsb hs1
  repeat' (first | (show Gd _ _ _; first | with_reducible refine Gd.t ?_ | with_reducible refine Gd.f ?_ | with_reducible refine Gd.dec (fun _ => ?_) (fun _ => ?_) | with_reducible refine Gd.beq (fun _ => ?_) (fun _ => ?_) | with_reducible refine Gd.bne (fun _ => ?_) (fun _ => ?_) | with_reducible refine Gd.not ?_ | refine Gd.t ?_ | refine Gd.f ?_ | with_reducible refine Gd.var (fun _ => ?_) (fun _ => ?_)) | (show Sq _ _ _; refine Sq.mk ?_) | (show Ld1 _ _ _; first | (apply Ld1.blk; (focus ((repeat (first | assumption | (apply Blk.from; assumption))); done)); rfl) | (apply Ld1.rsF; (focus ((repeat (first | assumption | (apply RdS.from; assumption))); done)); assumption; rfl) | (apply Ld1.rs; (focus ((repeat (first | assumption | (apply RdS.from; assumption))); done)); assumption; rfl)) | (show Ld _ _ _ _; first | (apply Ld.blk; (focus ((repeat (first | assumption | (apply Blk.from; assumption))); done)); rfl) | (apply Ld.rs; (focus ((repeat (first | assumption | (apply RdS.from; assumption))); done)); assumption)) | (show Ix _ _ _ _ _; first | (apply Ix.rs; (focus ((repeat (first | assumption | (apply RdS.from; assumption))); done)); (first | with_reducible rfl | assumption); (first | assumption | omega)) | (apply Ix.arr; (focus ((repeat (first | assumption | (apply RdS.from; assumption))); done)); (first | assumption | (simp; done)); (first | with_reducible rfl | assumption); (first | assumption | omega))) | (show Al _ _ _ _; refine Al.mk (fun _ _ _ _ _ _ => ?_)) | (show St _ _ _ _; apply St.new; assumption; assumption; assumption; rfl; rfl; intro _ _ _ _))
  refine Sm.mkmap (kv := kvP) (vv := vvP) fun pm w2 hpm hm2 e2 => ?_
  replace hb := hb.ext e2
  replace hbeg := hbeg.ext e2
  repeat' (first | (show Gd _ _ _; first | with_reducible refine Gd.t ?_ | with_reducible refine Gd.f ?_ | with_reducible refine Gd.dec (fun _ => ?_) (fun _ => ?_) | with_reducible refine Gd.beq (fun _ => ?_) (fun _ => ?_) | with_reducible refine Gd.bne (fun _ => ?_) (fun _ => ?_) | with_reducible refine Gd.not ?_ | refine Gd.t ?_ | refine Gd.f ?_ | with_reducible refine Gd.var (fun _ => ?_) (fun _ => ?_)) | (show Sq _ _ _; refine Sq.mk ?_) | (show Ld1 _ _ _; first | (apply Ld1.blk; (focus ((repeat (first | assumption | (apply Blk.from; assumption))); done)); rfl) | (apply Ld1.rsF; (focus ((repeat (first | assumption | (apply RdS.from; assumption))); done)); assumption; rfl) | (apply Ld1.rs; (focus ((repeat (first | assumption | (apply RdS.from; assumption))); done)); assumption; rfl)) | (show Ld _ _ _ _; first | (apply Ld.blk; (focus ((repeat (first | assumption | (apply Blk.from; assumption))); done)); rfl) | (apply Ld.rs; (focus ((repeat (first | assumption | (apply RdS.from; assumption))); done)); assumption)) | (show Ix _ _ _ _ _; first | (apply Ix.rs; (focus ((repeat (first | assumption | (apply RdS.from; assumption))); done)); (first | with_reducible rfl | assumption); (first | assumption | omega)) | (apply Ix.arr; (focus ((repeat (first | assumption | (apply RdS.from; assumption))); done)); (first | assumption | (simp; done)); (first | with_reducible rfl | assumption); (first | assumption | omega))) | (show Al _ _ _ _; refine Al.mk (fun _ _ _ _ _ _ => ?_)) | (show St _ _ _ _; apply St.new; assumption; assumption; assumption; rfl; rfl; intro _ _ _ _))
  show SmU _ _ _ _ _
  refine SmU.mput (kv := kvP) (vv := vvP) (m := []) (x := (0, 1)) (v := (-1, 0)) (K := 82) (ti := T.t83) T.ok rfl rfl keyP hm2 fun w3 u3 hm3 => ?_
  have hpmlo : w.heap.size ≤ pm := by have := e0b.size; omega
  have e03 : Ext w w3 := (e0b.trans e2).upd u3 hpmlo
  replace hb := hb.upd u3 (fun e => hm2.ne_blk hb e.symm)
  replace hbeg := hbeg.upd u3 (fun e => hm2.ne_blk hbeg e.symm)
  clear hm2 e2 u3 e0b
  repeat' (first | (show Gd _ _ _; first | with_reducible refine Gd.t ?_ | with_reducible refine Gd.f ?_ | with_reducible refine Gd.dec (fun _ => ?_) (fun _ => ?_) | with_reducible refine Gd.beq (fun _ => ?_) (fun _ => ?_) | with_reducible refine Gd.bne (fun _ => ?_) (fun _ => ?_) | with_reducible refine Gd.not ?_ | refine Gd.t ?_ | refine Gd.f ?_ | with_reducible refine Gd.var (fun _ => ?_) (fun _ => ?_)) | (show Sq _ _ _; refine Sq.mk ?_) | (show Ld1 _ _ _; first | (apply Ld1.blk; (focus ((repeat (first | assumption | (apply Blk.from; assumption))); done)); rfl) | (apply Ld1.rsF; (focus ((repeat (first | assumption | (apply RdS.from; assumption))); done)); assumption; rfl) | (apply Ld1.rs; (focus ((repeat (first | assumption | (apply RdS.from; assumption))); done)); assumption; rfl)) | (show Ld _ _ _ _; first | (apply Ld.blk; (focus ((repeat (first | assumption | (apply Blk.from; assumption))); done)); rfl) | (apply Ld.rs; (focus ((repeat (first | assumption | (apply RdS.from; assumption))); done)); assumption)) | (show Ix _ _ _ _ _; first | (apply Ix.rs; (focus ((repeat (first | assumption | (apply RdS.from; assumption))); done)); (first | with_reducible rfl | assumption); (first | assumption | omega)) | (apply Ix.arr; (focus ((repeat (first | assumption | (apply RdS.from; assumption))); done)); (first | assumption | (simp; done)); (first | with_reducible rfl | assumption); (first | assumption | omega))) | (show Al _ _ _ _; refine Al.mk (fun _ _ _ _ _ _ => ?_)) | (show St _ _ _ _; apply St.new; assumption; assumption; assumption; rfl; rfl; intro _ _ _ _))
  refine Sm.lit T.ok (cs := encP (0, 1)) rfl rfl rfl rfl rfl rfl rfl (fun p4 w4 hp4 hb4 e4 hs4 => ?_)
  have hq4 : Que encP 2 82 w4 w.heap.size (some ⟨p4, 0, none⟩) 1 [((0, 1) : Pt)] := by
    have := Que.of_full (l := [((0, 1) : Pt)]) (enc := encP) (sz := 2) (B := w.heap.size) hb4 (by have := e03.size; omega) (fun _ _ => rfl)
    exact this
  replace hb := hb.ext e4
  have hm4 := hm3.ext e4
  have e04 := e03.trans e4
  clear hm3 e4 hb4 e03
  repeat' (first | (show Gd _ _ _; first | with_reducible refine Gd.t ?_ | with_reducible refine Gd.f ?_ | with_reducible refine Gd.dec (fun _ => ?_) (fun _ => ?_) | with_reducible refine Gd.beq (fun _ => ?_) (fun _ => ?_) | with_reducible refine Gd.bne (fun _ => ?_) (fun _ => ?_) | with_reducible refine Gd.not ?_ | refine Gd.t ?_ | refine Gd.f ?_ | with_reducible refine Gd.var (fun _ => ?_) (fun _ => ?_)) | (show Sq _ _ _; refine Sq.mk ?_) | (show Ld1 _ _ _; first | (apply Ld1.blk; (focus ((repeat (first | assumption | (apply Blk.from; assumption))); done)); rfl) | (apply Ld1.rsF; (focus ((repeat (first | assumption | (apply RdS.from; assumption))); done)); assumption; rfl) | (apply Ld1.rs; (focus ((repeat (first | assumption | (apply RdS.from; assumption))); done)); assumption; rfl)) | (show Ld _ _ _ _; first | (apply Ld.blk; (focus ((repeat (first | assumption | (apply Blk.from; assumption))); done)); rfl) | (apply Ld.rs; (focus ((repeat (first | assumption | (apply RdS.from; assumption))); done)); assumption)) | (show Ix _ _ _ _ _; first | (apply Ix.rs; (focus ((repeat (first | assumption | (apply RdS.from; assumption))); done)); (first | with_reducible rfl | assumption); (first | assumption | omega)) | (apply Ix.arr; (focus ((repeat (first | assumption | (apply RdS.from; assumption))); done)); (first | assumption | (simp; done)); (first | with_reducible rfl | assumption); (first | assumption | omega))) | (show Al _ _ _ _; refine Al.mk (fun _ _ _ _ _ _ => ?_)) | (show St _ _ _ _; apply St.new; assumption; assumption; assumption; rfl; rfl; intro _ _ _ _))
  have hm4' : MapO kvP vvP w4 pm [(((0, 1) : Pt), ((-1, 0) : Edge))] := hm4
  have hT0 : Tree f slot [(((0, 1) : Pt), ((-1, 0) : Edge))] := ⟨rfl, fun j y p hj h => by
    have := (List.getElem?_eq_some_iff.1 h).1; simp at this; omega⟩
  refine Lp.g0 T.ok (σ := Nat × List (Pt × Edge) × Option Addr × Nat) (fun s => [(9, .slice s.2.2.1 (s.2.1.length - s.1) s.2.2.2), (8, .map (some pm)), (3, .pointer (some ⟨pf, 0, none⟩)), (1, .int .i64 slot), (2, .func (.func g) #[] cap.toArray)])
    (fun s w' => s.1 ≤ s.2.1.length ∧ Srch f slot (s.2.1.map (·.1)) s.1 ∧ Tree f slot s.2.1 ∧ MapO kvP vvP w' pm s.2.1 ∧ Que encP 2 82 w' w.heap.size s.2.2.1 s.2.2.2 ((s.2.1.map (·.1)).drop s.1) ∧
      Blk w' pf 24 (f.v A c).cells.toList ∧ Ext w w' ∧ ∀ j x, j < s.1 → (s.2.1.map (·.1))[j]? = some x → dn x = false) (fun s _ => 3 * f.code.length - s.1)
    (0, [((0, 1), (-1, 0))], some ⟨p4, 0, none⟩, 1) rfl ⟨rfl, rfl, rfl, rfl, rfl, trivial⟩ ⟨by simp, Srch.begin hl1, hT0, hm4', hq4, hb, e04, fun j x hj => by omega⟩ ?_
  clear hm4 hm4' hT0 hq4 hb e04 hs4
  rintro ⟨k, m, Aw, cw⟩ w5 ⟨hk, hq, hTr, hm, hQ, hb, e05, hdn⟩
  simp only at hk hq hTr hm hQ hb e05 hdn ⊢
  by_cases hlt : k < m.length
  · obtain ⟨x, hx⟩ : ∃ x, (m.map (·.1))[k]? = some x := ⟨_, List.getElem?_eq_getElem (by simpa using hlt)⟩
    obtain ⟨hx1, hx2⟩ := hq.inr x (List.mem_of_getElem? hx)
    obtain ⟨ci, hci⟩ : ∃ ci, f.code[x.1]? = some ci := ⟨f.code[x.1], List.getElem?_eq_getElem hx1⟩
    have hrw := hQ.rd
    have hql : ((m.map (·.1)).drop k).length = m.length - k := by simp
    have hx0 : ((m.map (·.1)).drop k)[0]? = some x := by rw [List.getElem?_drop]; exact hx
    repeat' (first | ((show Gd _ _ _; first | with_reducible refine Gd.t ?_ | with_reducible refine Gd.f ?_ | with_reducible refine Gd.dec (fun _ => ?_) (fun _ => ?_) | with_reducible refine Gd.beq (fun _ => ?_) (fun _ => ?_) | with_reducible refine Gd.bne (fun _ => ?_) (fun _ => ?_) | with_reducible refine Gd.not ?_ | refine Gd.t ?_ | refine Gd.f ?_ | with_reducible refine Gd.var (fun _ => ?_) (fun _ => ?_)) <;> first | (exfalso; omega) | skip) | (first | (show Gd _ _ _; first | with_reducible refine Gd.t ?_ | with_reducible refine Gd.f ?_ | with_reducible refine Gd.dec (fun _ => ?_) (fun _ => ?_) | with_reducible refine Gd.beq (fun _ => ?_) (fun _ => ?_) | with_reducible refine Gd.bne (fun _ => ?_) (fun _ => ?_) | with_reducible refine Gd.not ?_ | refine Gd.t ?_ | refine Gd.f ?_ | with_reducible refine Gd.var (fun _ => ?_) (fun _ => ?_)) | (show Sq _ _ _; refine Sq.mk ?_) | (show Ld1 _ _ _; first | (apply Ld1.blk; (focus ((repeat (first | assumption | (apply Blk.from; assumption))); done)); rfl) | (apply Ld1.rsF; (focus ((repeat (first | assumption | (apply RdS.from; assumption))); done)); assumption; rfl) | (apply Ld1.rs; (focus ((repeat (first | assumption | (apply RdS.from; assumption))); done)); assumption; rfl)) | (show Ld _ _ _ _; first | (apply Ld.blk; (focus ((repeat (first | assumption | (apply Blk.from; assumption))); done)); rfl) | (apply Ld.rs; (focus ((repeat (first | assumption | (apply RdS.from; assumption))); done)); assumption)) | (show Ix _ _ _ _ _; first | (apply Ix.rs; (focus ((repeat (first | assumption | (apply RdS.from; assumption))); done)); (first | with_reducible rfl | assumption); (first | assumption | omega)) | (apply Ix.arr; (focus ((repeat (first | assumption | (apply RdS.from; assumption))); done)); (first | assumption | (simp; done)); (first | with_reducible rfl | assumption); (first | assumption | omega))) | (show Al _ _ _ _; refine Al.mk (fun _ _ _ _ _ _ => ?_)) | (show St _ _ _ _; apply St.new; assumption; assumption; assumption; rfl; rfl; intro _ _ _ _)))
    (show Ix _ _ _ _ _; refine Ix.arr (i := 0) hrw hql rfl (by rw [hql]; omega) ?_)
    repeat' (first | ((show Gd _ _ _; first | with_reducible refine Gd.t ?_ | with_reducible refine Gd.f ?_ | with_reducible refine Gd.dec (fun _ => ?_) (fun _ => ?_) | with_reducible refine Gd.beq (fun _ => ?_) (fun _ => ?_) | with_reducible refine Gd.bne (fun _ => ?_) (fun _ => ?_) | with_reducible refine Gd.not ?_ | refine Gd.t ?_ | refine Gd.f ?_ | with_reducible refine Gd.var (fun _ => ?_) (fun _ => ?_)) <;> first | (exfalso; omega) | skip) | (first | (show Gd _ _ _; first | with_reducible refine Gd.t ?_ | with_reducible refine Gd.f ?_ | with_reducible refine Gd.dec (fun _ => ?_) (fun _ => ?_) | with_reducible refine Gd.beq (fun _ => ?_) (fun _ => ?_) | with_reducible refine Gd.bne (fun _ => ?_) (fun _ => ?_) | with_reducible refine Gd.not ?_ | refine Gd.t ?_ | refine Gd.f ?_ | with_reducible refine Gd.var (fun _ => ?_) (fun _ => ?_)) | (show Sq _ _ _; refine Sq.mk ?_) | (show Ld1 _ _ _; first | (apply Ld1.blk; (focus ((repeat (first | assumption | (apply Blk.from; assumption))); done)); rfl) | (apply Ld1.rsF; (focus ((repeat (first | assumption | (apply RdS.from; assumption))); done)); assumption; rfl) | (apply Ld1.rs; (focus ((repeat (first | assumption | (apply RdS.from; assumption))); done)); assumption; rfl)) | (show Ld _ _ _ _; first | (apply Ld.blk; (focus ((repeat (first | assumption | (apply Blk.from; assumption))); done)); rfl) | (apply Ld.rs; (focus ((repeat (first | assumption | (apply RdS.from; assumption))); done)); assumption)) | (show Ix _ _ _ _ _; first | (apply Ix.rs; (focus ((repeat (first | assumption | (apply RdS.from; assumption))); done)); (first | with_reducible rfl | assumption); (first | assumption | omega)) | (apply Ix.arr; (focus ((repeat (first | assumption | (apply RdS.from; assumption))); done)); (first | assumption | (simp; done)); (first | with_reducible rfl | assumption); (first | assumption | omega))) | (show Al _ _ _ _; refine Al.mk (fun _ _ _ _ _ _ => ?_)) | (show St _ _ _ _; apply St.new; assumption; assumption; assumption; rfl; rfl; intro _ _ _ _)))
    rename_i px w6 hpx hbx0 ex0 hsx0 w7 e7 hbx hsx
    replace hbx : Blk w7 px 82 (encP x) := hbx
    have hQx : obk (cutA Aw cw 1 2) ≠ some px := fun e => by rw [obk_cutA] at e; have := (hQ.obk_lt px e).1; omega
    clear hbx0 ex0 hsx0 hsx hrw
    refine Sm.cutLo (i := 1) T.ok rfl rfl rfl rfl rfl (by omega) ?_
    have hQ7 := (hQ.ext e7).cut (k := 1) (by rw [hql]; omega)
    rw [List.drop_drop] at hQ7
    have e07 := e05.trans e7
    have hm7 := hm.ext e7
    replace hb := hb.ext e7
    clear hQ hm e7 e05
    repeat' (first | ((show Gd _ _ _; first | with_reducible refine Gd.t ?_ | with_reducible refine Gd.f ?_ | with_reducible refine Gd.dec (fun _ => ?_) (fun _ => ?_) | with_reducible refine Gd.beq (fun _ => ?_) (fun _ => ?_) | with_reducible refine Gd.bne (fun _ => ?_) (fun _ => ?_) | with_reducible refine Gd.not ?_ | refine Gd.t ?_ | refine Gd.f ?_ | with_reducible refine Gd.var (fun _ => ?_) (fun _ => ?_)) <;> first | (exfalso; omega) | skip) | (first | (show Gd _ _ _; first | with_reducible refine Gd.t ?_ | with_reducible refine Gd.f ?_ | with_reducible refine Gd.dec (fun _ => ?_) (fun _ => ?_) | with_reducible refine Gd.beq (fun _ => ?_) (fun _ => ?_) | with_reducible refine Gd.bne (fun _ => ?_) (fun _ => ?_) | with_reducible refine Gd.not ?_ | refine Gd.t ?_ | refine Gd.f ?_ | with_reducible refine Gd.var (fun _ => ?_) (fun _ => ?_)) | (show Sq _ _ _; refine Sq.mk ?_) | (show Ld1 _ _ _; first | (apply Ld1.blk; (focus ((repeat (first | assumption | (apply Blk.from; assumption))); done)); rfl) | (apply Ld1.rsF; (focus ((repeat (first | assumption | (apply RdS.from; assumption))); done)); assumption; rfl) | (apply Ld1.rs; (focus ((repeat (first | assumption | (apply RdS.from; assumption))); done)); assumption; rfl)) | (show Ld _ _ _ _; first | (apply Ld.blk; (focus ((repeat (first | assumption | (apply Blk.from; assumption))); done)); rfl) | (apply Ld.rs; (focus ((repeat (first | assumption | (apply RdS.from; assumption))); done)); assumption)) | (show Ix _ _ _ _ _; first | (apply Ix.rs; (focus ((repeat (first | assumption | (apply RdS.from; assumption))); done)); (first | with_reducible rfl | assumption); (first | assumption | omega)) | (apply Ix.arr; (focus ((repeat (first | assumption | (apply RdS.from; assumption))); done)); (first | assumption | (simp; done)); (first | with_reducible rfl | assumption); (first | assumption | omega))) | (show Al _ _ _ _; refine Al.mk (fun _ _ _ _ _ _ => ?_)) | (show St _ _ _ _; apply St.new; assumption; assumption; assumption; rfl; rfl; intro _ _ _ _)))
    conv => whnf
    rw [hg]
    refine Cl.mk (hcl x _ e07) ?_
    rintro _ w8 ⟨rfl, e8⟩
    have e08 := e07.trans e8
    have hQ8 := hQ7.ext e8
    have hm8 := hm7.ext e8
    replace hb := hb.ext e8
    replace hbx := hbx.ext e8
    clear hQ7 hm7 e07 e8
    repeat' (first | ((show Gd _ _ _; first | with_reducible refine Gd.t ?_ | with_reducible refine Gd.f ?_ | with_reducible refine Gd.dec (fun _ => ?_) (fun _ => ?_) | with_reducible refine Gd.beq (fun _ => ?_) (fun _ => ?_) | with_reducible refine Gd.bne (fun _ => ?_) (fun _ => ?_) | with_reducible refine Gd.not ?_ | refine Gd.t ?_ | refine Gd.f ?_ | with_reducible refine Gd.var (fun _ => ?_) (fun _ => ?_)) <;> first | (exfalso; omega) | skip) | (first | (show Gd _ _ _; first | with_reducible refine Gd.t ?_ | with_reducible refine Gd.f ?_ | with_reducible refine Gd.dec (fun _ => ?_) (fun _ => ?_) | with_reducible refine Gd.beq (fun _ => ?_) (fun _ => ?_) | with_reducible refine Gd.bne (fun _ => ?_) (fun _ => ?_) | with_reducible refine Gd.not ?_ | refine Gd.t ?_ | refine Gd.f ?_ | with_reducible refine Gd.var (fun _ => ?_) (fun _ => ?_)) | (show Sq _ _ _; refine Sq.mk ?_) | (show Ld1 _ _ _; first | (apply Ld1.blk; (focus ((repeat (first | assumption | (apply Blk.from; assumption))); done)); rfl) | (apply Ld1.rsF; (focus ((repeat (first | assumption | (apply RdS.from; assumption))); done)); assumption; rfl) | (apply Ld1.rs; (focus ((repeat (first | assumption | (apply RdS.from; assumption))); done)); assumption; rfl)) | (show Ld _ _ _ _; first | (apply Ld.blk; (focus ((repeat (first | assumption | (apply Blk.from; assumption))); done)); rfl) | (apply Ld.rs; (focus ((repeat (first | assumption | (apply RdS.from; assumption))); done)); assumption)) | (show Ix _ _ _ _ _; first | (apply Ix.rs; (focus ((repeat (first | assumption | (apply RdS.from; assumption))); done)); (first | with_reducible rfl | assumption); (first | assumption | omega)) | (apply Ix.arr; (focus ((repeat (first | assumption | (apply RdS.from; assumption))); done)); (first | assumption | (simp; done)); (first | with_reducible rfl | assumption); (first | assumption | omega))) | (show Al _ _ _ _; refine Al.mk (fun _ _ _ _ _ _ => ?_)) | (show St _ _ _ _; apply St.new; assumption; assumption; assumption; rfl; rfl; intro _ _ _ _)))
    · rename_i hd
      exact ⟨pm, m, k, rfl, hpmlo, hm8, hq, hTr, .inr ⟨x, hx, hd⟩, hdn, e08⟩
    rename_i hd
    have hdn' : ∀ j y, j < k + 1 → (m.map (·.1))[j]? = some y → dn y = false := fun j y hj hy => by
      rcases Nat.lt_or_ge j k with h | h
      · exact hdn j y h hy
      · have : j = k := by omega
        subst this
        rw [hx] at hy; simp at hy; subst hy; exact hd
    have hA8 := RdS.from e08 hA
    (show Dr _ _ _ _ _ _ _; refine Dr.quiet T.ok mixed (by kernel_rfl) (fun W hW => ?_))
    repeat' (first | (first | (show Gd _ _ _; first | with_reducible refine Gd.t ?_ | with_reducible refine Gd.f ?_ | with_reducible refine Gd.dec (fun _ => ?_) (fun _ => ?_) | with_reducible refine Gd.beq (fun _ => ?_) (fun _ => ?_) | with_reducible refine Gd.bne (fun _ => ?_) (fun _ => ?_) | with_reducible refine Gd.not ?_ | refine Gd.t ?_ | refine Gd.f ?_ | with_reducible refine Gd.var (fun _ => ?_) (fun _ => ?_)) | (show QLd1 _ _ _; first | (apply QLd1.blk hW; (focus ((repeat (first | assumption | (apply Blk.from; assumption))); done)); rfl) | (apply QLd1.rsF hW; (focus ((repeat (first | assumption | (apply RdS.from; assumption))); done)); assumption; rfl) | (apply QLd1.rs hW; (focus ((repeat (first | assumption | (apply RdS.from; assumption))); done)); assumption; rfl)) | (show QLd _ _ _ _; first | (apply QLd.blk hW; (focus ((repeat (first | assumption | (apply Blk.from; assumption))); done)); rfl) | (apply QLd.rs hW; (focus ((repeat (first | assumption | (apply RdS.from; assumption))); done)); assumption)) | (show Ix _ _ _ _ _; first | (apply Ix.rs; (focus ((repeat (first | assumption | (apply RdS.from; assumption))); done)); (first | with_reducible rfl | assumption); (first | assumption | omega)) | (apply Ix.arr; (focus ((repeat (first | assumption | (apply RdS.from; assumption))); done)); (first | assumption | (simp; done)); (first | with_reducible rfl | assumption); (first | assumption | omega)))) | (show QCl _ _ _ _ _ _; refine QCl.mk hW (fun _ _ => Cl.mk (behind_c ci slot x.2 _) (fun _ _ h => h)) ?_))
    intro w9 e9
    have e09 := e08.trans e9
    have hQ9 := hQ8.ext e9
    have hm9 := hm8.ext e9
    replace hb := hb.ext e9
    replace hbx := hbx.ext e9
    clear hQ8 hm8 e08 e9 hA8 hW
    repeat' (first | ((show Gd _ _ _; first | with_reducible refine Gd.t ?_ | with_reducible refine Gd.f ?_ | with_reducible refine Gd.dec (fun _ => ?_) (fun _ => ?_) | with_reducible refine Gd.beq (fun _ => ?_) (fun _ => ?_) | with_reducible refine Gd.bne (fun _ => ?_) (fun _ => ?_) | with_reducible refine Gd.not ?_ | refine Gd.t ?_ | refine Gd.f ?_ | with_reducible refine Gd.var (fun _ => ?_) (fun _ => ?_)) <;> first | (exfalso; omega) | skip) | (first | (show Gd _ _ _; first | with_reducible refine Gd.t ?_ | with_reducible refine Gd.f ?_ | with_reducible refine Gd.dec (fun _ => ?_) (fun _ => ?_) | with_reducible refine Gd.beq (fun _ => ?_) (fun _ => ?_) | with_reducible refine Gd.bne (fun _ => ?_) (fun _ => ?_) | with_reducible refine Gd.not ?_ | refine Gd.t ?_ | refine Gd.f ?_ | with_reducible refine Gd.var (fun _ => ?_) (fun _ => ?_)) | (show Sq _ _ _; refine Sq.mk ?_) | (show Ld1 _ _ _; first | (apply Ld1.blk; (focus ((repeat (first | assumption | (apply Blk.from; assumption))); done)); rfl) | (apply Ld1.rsF; (focus ((repeat (first | assumption | (apply RdS.from; assumption))); done)); assumption; rfl) | (apply Ld1.rs; (focus ((repeat (first | assumption | (apply RdS.from; assumption))); done)); assumption; rfl)) | (show Ld _ _ _ _; first | (apply Ld.blk; (focus ((repeat (first | assumption | (apply Blk.from; assumption))); done)); rfl) | (apply Ld.rs; (focus ((repeat (first | assumption | (apply RdS.from; assumption))); done)); assumption)) | (show Ix _ _ _ _ _; first | (apply Ix.rs; (focus ((repeat (first | assumption | (apply RdS.from; assumption))); done)); (first | with_reducible rfl | assumption); (first | assumption | omega)) | (apply Ix.arr; (focus ((repeat (first | assumption | (apply RdS.from; assumption))); done)); (first | assumption | (simp; done)); (first | with_reducible rfl | assumption); (first | assumption | omega))) | (show Al _ _ _ _; refine Al.mk (fun _ _ _ _ _ _ => ?_)) | (show St _ _ _ _; apply St.new; assumption; assumption; assumption; rfl; rfl; intro _ _ _ _)))
    (show Cl _ _ _ _ _ _; refine Cl.mk (follow_c f A c x.1 ci _ (RdS.from e09 hA) (RdS.from e09 hG) hci hS) ?_)
    rintro _ w10 ⟨An, cn, rfl, hrn, e10, hfr⟩
    have e010 := e09.trans e10
    have hQ10 := hQ9.ext e10
    have hm10 := hm9.ext e10
    replace hb := hb.ext e10
    replace hbx := hbx.ext e10
    have hAnQ : obk An = none ∨ obk An ≠ obk (cutA Aw cw 1 2) := by
      rcases hob : obk An with _ | b
      · exact .inl rfl
      · exact .inr fun e => by have := hfr b hob; have := (hQ9.obk_lt b e.symm).1; omega
    have hAnm : obk An ≠ some pm := fun e => by have := hfr _ e; have := hm9.lt; omega
    clear hQ9 hm9 e09 e10 hfr
    have hrange := next_range hS hci
    have hokx := okS_after (c := ci) (slot := slot) hx2
    have hsucc : succs f slot x = (nextsS x.1 ci).map fun n => (n.toNat, afterS ci slot x.2) := by simp [succs, hci]
    repeat' (first | ((show Gd _ _ _; first | with_reducible refine Gd.t ?_ | with_reducible refine Gd.f ?_ | with_reducible refine Gd.dec (fun _ => ?_) (fun _ => ?_) | with_reducible refine Gd.beq (fun _ => ?_) (fun _ => ?_) | with_reducible refine Gd.bne (fun _ => ?_) (fun _ => ?_) | with_reducible refine Gd.not ?_ | refine Gd.t ?_ | refine Gd.f ?_ | with_reducible refine Gd.var (fun _ => ?_) (fun _ => ?_)) <;> first | (exfalso; omega) | skip) | (first | (show Gd _ _ _; first | with_reducible refine Gd.t ?_ | with_reducible refine Gd.f ?_ | with_reducible refine Gd.dec (fun _ => ?_) (fun _ => ?_) | with_reducible refine Gd.beq (fun _ => ?_) (fun _ => ?_) | with_reducible refine Gd.bne (fun _ => ?_) (fun _ => ?_) | with_reducible refine Gd.not ?_ | refine Gd.t ?_ | refine Gd.f ?_ | with_reducible refine Gd.var (fun _ => ?_) (fun _ => ?_)) | (show Sq _ _ _; refine Sq.mk ?_) | (show Ld1 _ _ _; first | (apply Ld1.blk; (focus ((repeat (first | assumption | (apply Blk.from; assumption))); done)); rfl) | (apply Ld1.rsF; (focus ((repeat (first | assumption | (apply RdS.from; assumption))); done)); assumption; rfl) | (apply Ld1.rs; (focus ((repeat (first | assumption | (apply RdS.from; assumption))); done)); assumption; rfl)) | (show Ld _ _ _ _; first | (apply Ld.blk; (focus ((repeat (first | assumption | (apply Blk.from; assumption))); done)); rfl) | (apply Ld.rs; (focus ((repeat (first | assumption | (apply RdS.from; assumption))); done)); assumption)) | (show Ix _ _ _ _ _; first | (apply Ix.rs; (focus ((repeat (first | assumption | (apply RdS.from; assumption))); done)); (first | with_reducible rfl | assumption); (first | assumption | omega)) | (apply Ix.arr; (focus ((repeat (first | assumption | (apply RdS.from; assumption))); done)); (first | assumption | (simp; done)); (first | with_reducible rfl | assumption); (first | assumption | omega))) | (show Al _ _ _ _; refine Al.mk (fun _ _ _ _ _ _ => ?_)) | (show St _ _ _ _; apply St.new; assumption; assumption; assumption; rfl; rfl; intro _ _ _ _)))
    refine Lp.g0 T.ok (σ := Nat × List (Pt × Edge) × Option Addr × Nat) (fun s => [(50, .int .i64 (s.1 : Int)), (49, .int .i64 ((nextsS x.1 ci).length : Int)), (48, .slice An (nextsS x.1 ci).length cn), (11, .int .i64 (afterS ci slot x.2)), (10, .pointer (some ⟨px, 0, none⟩)),
        (9, .slice s.2.2.1 (s.2.1.length - (k + 1)) s.2.2.2), (8, .map (some pm)), (3, .pointer (some ⟨pf, 0, none⟩)), (1, .int .i64 slot), (2, .func (.func g) #[] cap.toArray)])
      (fun s w' => s.1 ≤ (nextsS x.1 ci).length ∧ Srch f slot (s.2.1.map (·.1)) k ∧ (s.2.1.map (·.1))[k]? = some x ∧ Tree f slot s.2.1 ∧ (∀ j' n, j' < s.1 → (nextsS x.1 ci)[j']? = some n → (n.toNat, afterS ci slot x.2) ∈ s.2.1.map (·.1)) ∧
        MapO kvP vvP w' pm s.2.1 ∧ Que encP 2 82 w' w.heap.size s.2.2.1 s.2.2.2 ((s.2.1.map (·.1)).drop (k + 1)) ∧ Blk w' pf 24 (f.v A c).cells.toList ∧ Blk w' px 82 (encP x) ∧ Ext w w' ∧
        RdS ints 1 w' An (nextsS x.1 ci) ∧ (obk An = none ∨ obk An ≠ obk s.2.2.1) ∧ obk s.2.2.1 ≠ some px ∧ ∀ j y, j < k + 1 → (s.2.1.map (·.1))[j]? = some y → dn y = false)
      (fun s _ => (nextsS x.1 ci).length - s.1)
      (0, m, cutA Aw cw 1 2, cw - 1) rfl ⟨rfl, rfl, rfl, rfl, rfl, rfl, rfl, rfl, rfl, rfl, trivial⟩ ⟨by simp, hq, hx, hTr, fun j' n hj => by omega, hm10, hQ10, hb, hbx, e010, hrn, hAnQ, hQx, hdn'⟩ ?_
    clear hq hx hTr hm10 hQ10 hb hbx e010 hrn hAnQ hQx hdn' hx0 hql hlt hk hdn
    rintro ⟨j, m', Bw, dw⟩ w11 ⟨hj, hq, hx, hTr, hd, hm, hQ, hb, hbx, e011, hrn, hAnQ, hQx, hdn⟩
    simp only at hj hq hx hTr hd hm hQ hb hbx e011 hrn hAnQ hQx hdn ⊢
    have hkl : k < m'.length := by simpa using (List.getElem?_eq_some_iff.1 hx).1
    have hml := hq.len
    rw [List.length_map] at hml
    by_cases hjl : j < (nextsS x.1 ci).length
    · obtain ⟨n0, hn0⟩ : ∃ n0, (nextsS x.1 ci)[j]? = some n0 := ⟨_, List.getElem?_eq_getElem hjl⟩
      obtain ⟨hr0, hr1⟩ := hrange n0 (List.mem_of_getElem? hn0)
      obtain ⟨i, rfl⟩ : ∃ i : Nat, n0 = (i : Int) := ⟨n0.toNat, by omega⟩
      have hi : i < f.code.length := by omega
      have hsy : ((i : Nat), afterS ci slot x.2) ∈ succs f slot x := by
        rw [hsucc]; exact List.mem_map.2 ⟨(i : Int), List.mem_of_getElem? hn0, by simp⟩
      repeat' (first | ((show Gd _ _ _; first | with_reducible refine Gd.t ?_ | with_reducible refine Gd.f ?_ | with_reducible refine Gd.dec (fun _ => ?_) (fun _ => ?_) | with_reducible refine Gd.beq (fun _ => ?_) (fun _ => ?_) | with_reducible refine Gd.bne (fun _ => ?_) (fun _ => ?_) | with_reducible refine Gd.not ?_ | refine Gd.t ?_ | refine Gd.f ?_ | with_reducible refine Gd.var (fun _ => ?_) (fun _ => ?_)) <;> first | (exfalso; omega) | skip) | (first | (show Gd _ _ _; first | with_reducible refine Gd.t ?_ | with_reducible refine Gd.f ?_ | with_reducible refine Gd.dec (fun _ => ?_) (fun _ => ?_) | with_reducible refine Gd.beq (fun _ => ?_) (fun _ => ?_) | with_reducible refine Gd.bne (fun _ => ?_) (fun _ => ?_) | with_reducible refine Gd.not ?_ | refine Gd.t ?_ | refine Gd.f ?_ | with_reducible refine Gd.var (fun _ => ?_) (fun _ => ?_)) | (show Sq _ _ _; refine Sq.mk ?_) | (show Ld1 _ _ _; first | (apply Ld1.blk; (focus ((repeat (first | assumption | (apply Blk.from; assumption))); done)); rfl) | (apply Ld1.rsF; (focus ((repeat (first | assumption | (apply RdS.from; assumption))); done)); assumption; rfl) | (apply Ld1.rs; (focus ((repeat (first | assumption | (apply RdS.from; assumption))); done)); assumption; rfl)) | (show Ld _ _ _ _; first | (apply Ld.blk; (focus ((repeat (first | assumption | (apply Blk.from; assumption))); done)); rfl) | (apply Ld.rs; (focus ((repeat (first | assumption | (apply RdS.from; assumption))); done)); assumption)) | (show Ix _ _ _ _ _; first | (apply Ix.rs; (focus ((repeat (first | assumption | (apply RdS.from; assumption))); done)); (first | with_reducible rfl | assumption); (first | assumption | omega)) | (apply Ix.arr; (focus ((repeat (first | assumption | (apply RdS.from; assumption))); done)); (first | assumption | (simp; done)); (first | with_reducible rfl | assumption); (first | assumption | omega))) | (show Al _ _ _ _; refine Al.mk (fun _ _ _ _ _ _ => ?_)) | (show St _ _ _ _; apply St.new; assumption; assumption; assumption; rfl; rfl; intro _ _ _ _)))
      rename_i py w12 hpy hby0 ey0 hsy0 w13 e13 hby hsy1
      replace hby : Blk w13 py 82 (encP ((i, afterS ci slot x.2) : Pt)) := hby
      show Sm _ _ _ _ _
      refine Sm.lkp (kv := kvP) (vv := vvP) (m := m') (x := ((i, afterS ci slot x.2) : Pt)) (z := ((0, 0) : Edge)) (ti := T.t83) (ei := T.t82) T.ok rfl rfl rfl rfl keyP (hm.ext e13) ?_
      have hnl : (nextsS x.1 ci).length ≤ 2 := by unfold nextsS; (repeat' split) <;> simp
      clear hby0 ey0 hsy0 hsy1
      repeat' (first | ((show Gd _ _ _; first | with_reducible refine Gd.t ?_ | with_reducible refine Gd.f ?_ | with_reducible refine Gd.dec (fun _ => ?_) (fun _ => ?_) | with_reducible refine Gd.beq (fun _ => ?_) (fun _ => ?_) | with_reducible refine Gd.bne (fun _ => ?_) (fun _ => ?_) | with_reducible refine Gd.not ?_ | refine Gd.t ?_ | refine Gd.f ?_ | with_reducible refine Gd.var (fun _ => ?_) (fun _ => ?_)) <;> first | (exfalso; omega) | skip) | (first | (show Gd _ _ _; first | with_reducible refine Gd.t ?_ | with_reducible refine Gd.f ?_ | with_reducible refine Gd.dec (fun _ => ?_) (fun _ => ?_) | with_reducible refine Gd.beq (fun _ => ?_) (fun _ => ?_) | with_reducible refine Gd.bne (fun _ => ?_) (fun _ => ?_) | with_reducible refine Gd.not ?_ | refine Gd.t ?_ | refine Gd.f ?_ | with_reducible refine Gd.var (fun _ => ?_) (fun _ => ?_)) | (show Sq _ _ _; refine Sq.mk ?_) | (show Ld1 _ _ _; first | (apply Ld1.blk; (focus ((repeat (first | assumption | (apply Blk.from; assumption))); done)); rfl) | (apply Ld1.rsF; (focus ((repeat (first | assumption | (apply RdS.from; assumption))); done)); assumption; rfl) | (apply Ld1.rs; (focus ((repeat (first | assumption | (apply RdS.from; assumption))); done)); assumption; rfl)) | (show Ld _ _ _ _; first | (apply Ld.blk; (focus ((repeat (first | assumption | (apply Blk.from; assumption))); done)); rfl) | (apply Ld.rs; (focus ((repeat (first | assumption | (apply RdS.from; assumption))); done)); assumption)) | (show Ix _ _ _ _ _; first | (apply Ix.rs; (focus ((repeat (first | assumption | (apply RdS.from; assumption))); done)); (first | with_reducible rfl | assumption); (first | assumption | omega)) | (apply Ix.arr; (focus ((repeat (first | assumption | (apply RdS.from; assumption))); done)); (first | assumption | (simp; done)); (first | with_reducible rfl | assumption); (first | assumption | omega))) | (show Al _ _ _ _; refine Al.mk (fun _ _ _ _ _ _ => ?_)) | (show St _ _ _ _; apply St.new; assumption; assumption; assumption; rfl; rfl; intro _ _ _ _)))
      · rename_i w14 _ _ _ w15 e15 _ _ hs
        have hold := (fnd_isSome m' _).1 hs
        have e11 : Ext w11 w15 := by (repeat (first | exact Ext.refl _ | assumption | (apply Ext.from; assumption)))
        refine ⟨(j + 1, m', Bw, dw), ⟨at_int (m := ((j + 1 : Nat) : Int)) rfl (w64 (by simp) (by omega) (by omega)), rfl, rfl, rfl, rfl, rfl, rfl, rfl, rfl, rfl, trivial⟩, rfl, ⟨by simp; omega, hq, hx, hTr, fun j' n hj' hn => ?_, hm.ext e11, hQ.ext e11, hb.ext e11, hbx.ext e11, e011.trans e11, RdS.from e11 hrn, hAnQ, hQx, hdn⟩, by simp; omega⟩
        rcases Nat.lt_or_ge j' j with h | h
        · exact hd j' n h hn
        · have : j' = j := by simp at hj'; omega
          subst this
          rw [hn0] at hn; simp at hn; subst hn; simpa using hold
      · rename_i w14 _ _ _ w15 e15 _ _ hs
        have hnew : ((i, afterS ci slot x.2) : Pt) ∉ m'.map (·.1) := fun h => by
          have := (fnd_isSome m' _).2 h
          rw [hs] at this; simp at this
        have hq2 : Srch f slot ((m' ++ [(((i, afterS ci slot x.2) : Pt), (((x.1 : Int), x.2) : Edge))]).map (·.1)) k := by
          rw [List.map_append]; exact hq.snoc hx hsy hi hokx hnew
        have hT2 := hTr.snoc hx hsy
        have e11 : Ext w11 w15 := by (repeat (first | exact Ext.refl _ | assumption | (apply Ext.from; assumption)))
        show SmU _ _ _ _ _
        refine SmU.mput (kv := kvP) (vv := vvP) (m := m') (x := ((i, afterS ci slot x.2) : Pt)) (v := (((x.1 : Int), x.2) : Edge)) (K := 82) (ti := T.t83) T.ok rfl rfl keyP (hm.ext e11) fun w16 u16 hm16 => ?_
        rw [mput_new hnew] at hm16
        have hm15 := hm.ext e11
        have e1315 : Ext w13 w15 := by (repeat (first | exact Ext.refl _ | assumption | (apply Ext.from; assumption)))
        have e016 := (e011.trans e11).upd u16 hpmlo
        replace hby := (hby.ext e1315).upd u16 (fun e => hm15.ne_blk (hby.ext e1315) e.symm)
        replace hb := (hb.ext e11).upd u16 (fun e => hm15.ne_blk (hb.ext e11) e.symm)
        replace hbx := (hbx.ext e11).upd u16 (fun e => hm15.ne_blk (hbx.ext e11) e.symm)
        have hQ16 := (hQ.ext e11).upd u16 ((hQ.ext e11).ne_map hm15)
        have hrn16 := (RdS.from e11 hrn).upd u16 hAnm
        clear e11 hm15 e1315 hm hQ hrn u16 e011
        repeat' (first | ((show Gd _ _ _; first | with_reducible refine Gd.t ?_ | with_reducible refine Gd.f ?_ | with_reducible refine Gd.dec (fun _ => ?_) (fun _ => ?_) | with_reducible refine Gd.beq (fun _ => ?_) (fun _ => ?_) | with_reducible refine Gd.bne (fun _ => ?_) (fun _ => ?_) | with_reducible refine Gd.not ?_ | refine Gd.t ?_ | refine Gd.f ?_ | with_reducible refine Gd.var (fun _ => ?_) (fun _ => ?_)) <;> first | (exfalso; omega) | skip) | (first | (show Gd _ _ _; first | with_reducible refine Gd.t ?_ | with_reducible refine Gd.f ?_ | with_reducible refine Gd.dec (fun _ => ?_) (fun _ => ?_) | with_reducible refine Gd.beq (fun _ => ?_) (fun _ => ?_) | with_reducible refine Gd.bne (fun _ => ?_) (fun _ => ?_) | with_reducible refine Gd.not ?_ | refine Gd.t ?_ | refine Gd.f ?_ | with_reducible refine Gd.var (fun _ => ?_) (fun _ => ?_)) | (show Sq _ _ _; refine Sq.mk ?_) | (show Ld1 _ _ _; first | (apply Ld1.blk; (focus ((repeat (first | assumption | (apply Blk.from; assumption))); done)); rfl) | (apply Ld1.rsF; (focus ((repeat (first | assumption | (apply RdS.from; assumption))); done)); assumption; rfl) | (apply Ld1.rs; (focus ((repeat (first | assumption | (apply RdS.from; assumption))); done)); assumption; rfl)) | (show Ld _ _ _ _; first | (apply Ld.blk; (focus ((repeat (first | assumption | (apply Blk.from; assumption))); done)); rfl) | (apply Ld.rs; (focus ((repeat (first | assumption | (apply RdS.from; assumption))); done)); assumption)) | (show Ix _ _ _ _ _; first | (apply Ix.rs; (focus ((repeat (first | assumption | (apply RdS.from; assumption))); done)); (first | with_reducible rfl | assumption); (first | assumption | omega)) | (apply Ix.arr; (focus ((repeat (first | assumption | (apply RdS.from; assumption))); done)); (first | assumption | (simp; done)); (first | with_reducible rfl | assumption); (first | assumption | omega))) | (show Al _ _ _ _; refine Al.mk (fun _ _ _ _ _ _ => ?_)) | (show St _ _ _ _; apply St.new; assumption; assumption; assumption; rfl; rfl; intro _ _ _ _)))
        refine Sm.lit T.ok (cs := encP (i, afterS ci slot x.2)) rfl rfl rfl rfl rfl rfl rfl (fun p17 w17 hp17 hb17 e17 _ => ?_)
        have hr17 : RdS encP 2 w17 (some ⟨p17, 0, none⟩) [((i, afterS ci slot x.2) : Pt)] := by
          have := Que.of_full (l := [((i, afterS ci slot x.2) : Pt)]) (enc := encP) (sz := 2) (B := 0) hb17 (Nat.zero_le _) (fun _ _ => rfl)
          exact this.rd
        refine Sm.appQ (enc := encP) (m := [((i, afterS ci slot x.2) : Pt)]) T.ok rfl rfl rfl rfl rfl (by decide) (hQ16.ext e17) (by simp) hr17 rfl (by simp) (fun _ _ => rfl) (fun y _ v hv => by simp [encP] at hv; rcases hv with rfl | rfl <;> rfl) ?_ ?_ (e016.trans e17).size (fun C d' w18 hQ18 g18 hC => ?_)
        · simp only [List.length_drop, List.length_map, List.length_singleton]
          show _ * 16 ≤ _
          omega
        · simp only [List.length_drop, List.length_map, List.length_singleton]
          omega
        have hn' : nextsS x.1 ci ≠ [] := fun e => by rw [e] at hjl; simp at hjl
        have e018 : Ext w w18 := Grow.extQ (e016.trans e17) g18 (hQ16.ext e17) (Nat.le_refl _)
        have hd18 : ((m' ++ [(((i, afterS ci slot x.2) : Pt), (((x.1 : Int), x.2) : Edge))]).map (·.1)).drop (k + 1) = (m'.map (·.1)).drop (k + 1) ++ [(i, afterS ci slot x.2)] := by
          rw [List.map_append, List.drop_append_of_le_length (by simp; omega)]; rfl
        rw [← hd18] at hQ18
        have hm18 : MapO kvP vvP w18 pm (m' ++ [(((i, afterS ci slot x.2) : Pt), (((x.1 : Int), x.2) : Edge))]) := (hm16.ext e17).grow g18 ((hQ16.ext e17).ne_map (hm16.ext e17))
        refine ⟨(j + 1, m' ++ [(((i, afterS ci slot x.2) : Pt), (((x.1 : Int), x.2) : Edge))], C, d'), ⟨at_int (m := ((j + 1 : Nat) : Int)) rfl (w64 (by simp) (by omega) (by omega)), rfl, rfl, rfl, rfl, at_val rfl (by simp; omega), rfl, rfl, rfl, rfl, trivial⟩, rfl,
          ⟨by simp; omega, hq2, ?_, hT2, fun j' n hj' hn => ?_, hm18, hQ18, (hb.ext e17).grow' g18 ((hQ16.ext e17).ne_t (hb.ext e17) (by decide)), (hbx.ext e17).grow' g18 hQx, e018, (RdS.from e17 hrn16).grow g18 hAnQ, ?_, ?_, fun j' y hj' hy => ?_⟩, by simp; omega⟩
        · simp only; rw [List.map_append, List.getElem?_append_left (by simpa using hkl)]; exact hx
        · simp only [List.map_append]
          rcases Nat.lt_or_ge j' j with h | h
          · exact List.mem_append_left _ (hd j' n h hn)
          · have : j' = j := by simp at hj'; omega
            subst this
            rw [hn0] at hn; simp at hn; subst hn; simp
        · exact obk_new hAnQ hC (fun b hb => Nat.lt_of_lt_of_le (hrn16.lt hn' b hb) e17.size)
        · have hlx := hbx.lt
          rcases hC with h | h <;> simp only [h]
          · exact hQx
          · intro e; simp at e; have := e17.size; omega
        · refine hdn j' y hj' ?_
          simp only [List.map_append] at hy
          rw [List.getElem?_append_left (by simp; omega)] at hy
          exact hy
    · repeat' (first | ((show Gd _ _ _; first | with_reducible refine Gd.t ?_ | with_reducible refine Gd.f ?_ | with_reducible refine Gd.dec (fun _ => ?_) (fun _ => ?_) | with_reducible refine Gd.beq (fun _ => ?_) (fun _ => ?_) | with_reducible refine Gd.bne (fun _ => ?_) (fun _ => ?_) | with_reducible refine Gd.not ?_ | refine Gd.t ?_ | refine Gd.f ?_ | with_reducible refine Gd.var (fun _ => ?_) (fun _ => ?_)) <;> first | (exfalso; omega) | skip) | (first | (show Gd _ _ _; first | with_reducible refine Gd.t ?_ | with_reducible refine Gd.f ?_ | with_reducible refine Gd.dec (fun _ => ?_) (fun _ => ?_) | with_reducible refine Gd.beq (fun _ => ?_) (fun _ => ?_) | with_reducible refine Gd.bne (fun _ => ?_) (fun _ => ?_) | with_reducible refine Gd.not ?_ | refine Gd.t ?_ | refine Gd.f ?_ | with_reducible refine Gd.var (fun _ => ?_) (fun _ => ?_)) | (show Sq _ _ _; refine Sq.mk ?_) | (show Ld1 _ _ _; first | (apply Ld1.blk; (focus ((repeat (first | assumption | (apply Blk.from; assumption))); done)); rfl) | (apply Ld1.rsF; (focus ((repeat (first | assumption | (apply RdS.from; assumption))); done)); assumption; rfl) | (apply Ld1.rs; (focus ((repeat (first | assumption | (apply RdS.from; assumption))); done)); assumption; rfl)) | (show Ld _ _ _ _; first | (apply Ld.blk; (focus ((repeat (first | assumption | (apply Blk.from; assumption))); done)); rfl) | (apply Ld.rs; (focus ((repeat (first | assumption | (apply RdS.from; assumption))); done)); assumption)) | (show Ix _ _ _ _ _; first | (apply Ix.rs; (focus ((repeat (first | assumption | (apply RdS.from; assumption))); done)); (first | with_reducible rfl | assumption); (first | assumption | omega)) | (apply Ix.arr; (focus ((repeat (first | assumption | (apply RdS.from; assumption))); done)); (first | assumption | (simp; done)); (first | with_reducible rfl | assumption); (first | assumption | omega))) | (show Al _ _ _ _; refine Al.mk (fun _ _ _ _ _ _ => ?_)) | (show St _ _ _ _; apply St.new; assumption; assumption; assumption; rfl; rfl; intro _ _ _ _)))
      have hj : j = (nextsS x.1 ci).length := by omega
      have hq2 : Srch f slot (m'.map (·.1)) (k + 1) := hq.next hx (fun y hy => by
        rw [hsucc] at hy
        obtain ⟨n, hn, rfl⟩ := List.mem_map.1 hy
        obtain ⟨j', hj'⟩ := List.getElem?_of_mem hn
        exact hd j' n (by rw [hj]; exact (List.getElem?_eq_some_iff.1 hj').1) hj')
      exact ⟨(k + 1, m', Bw, dw), ⟨rfl, rfl, rfl, rfl, rfl, trivial⟩, rfl, ⟨by simp; omega, hq2, hTr, hm, hQ, hb, e011, hdn⟩, by simp; omega⟩
  · repeat' (first | ((show Gd _ _ _; first | with_reducible refine Gd.t ?_ | with_reducible refine Gd.f ?_ | with_reducible refine Gd.dec (fun _ => ?_) (fun _ => ?_) | with_reducible refine Gd.beq (fun _ => ?_) (fun _ => ?_) | with_reducible refine Gd.bne (fun _ => ?_) (fun _ => ?_) | with_reducible refine Gd.not ?_ | refine Gd.t ?_ | refine Gd.f ?_ | with_reducible refine Gd.var (fun _ => ?_) (fun _ => ?_)) <;> first | (exfalso; omega) | skip) | (first | (show Gd _ _ _; first | with_reducible refine Gd.t ?_ | with_reducible refine Gd.f ?_ | with_reducible refine Gd.dec (fun _ => ?_) (fun _ => ?_) | with_reducible refine Gd.beq (fun _ => ?_) (fun _ => ?_) | with_reducible refine Gd.bne (fun _ => ?_) (fun _ => ?_) | with_reducible refine Gd.not ?_ | refine Gd.t ?_ | refine Gd.f ?_ | with_reducible refine Gd.var (fun _ => ?_) (fun _ => ?_)) | (show Sq _ _ _; refine Sq.mk ?_) | (show Ld1 _ _ _; first | (apply Ld1.blk; (focus ((repeat (first | assumption | (apply Blk.from; assumption))); done)); rfl) | (apply Ld1.rsF; (focus ((repeat (first | assumption | (apply RdS.from; assumption))); done)); assumption; rfl) | (apply Ld1.rs; (focus ((repeat (first | assumption | (apply RdS.from; assumption))); done)); assumption; rfl)) | (show Ld _ _ _ _; first | (apply Ld.blk; (focus ((repeat (first | assumption | (apply Blk.from; assumption))); done)); rfl) | (apply Ld.rs; (focus ((repeat (first | assumption | (apply RdS.from; assumption))); done)); assumption)) | (show Ix _ _ _ _ _; first | (apply Ix.rs; (focus ((repeat (first | assumption | (apply RdS.from; assumption))); done)); (first | with_reducible rfl | assumption); (first | assumption | omega)) | (apply Ix.arr; (focus ((repeat (first | assumption | (apply RdS.from; assumption))); done)); (first | assumption | (simp; done)); (first | with_reducible rfl | assumption); (first | assumption | omega))) | (show Al _ _ _ _; refine Al.mk (fun _ _ _ _ _ _ => ?_)) | (show St _ _ _ _; apply St.new; assumption; assumption; assumption; rfl; rfl; intro _ _ _ _)))
    have : k = m.length := by omega
    subst this
    exact ⟨pm, m, _, rfl, hpmlo, hm, hq, hTr, .inl rfl, hdn, e05⟩
end Go.Proofs.YtbbadmlekagloaaDoor
namespace Go.Proofs.YtbbadmlekagloaaDoor
open Go Go.Sh
attribute [local irreducible] Blk Ext RdS
theorem states1_c (x : Pt) (w : World) : Cl Tryd.prog 78 (cat [kvP x] []).toArray w (fun v w' => v = .bool false ∧ Ext w w') (fun _ _ => False) := by
  refine calls_ex (args := [kvP x]) T.ok Tryd.func78 rfl rfl rfl rfl ?_
  repeat' (first | (show Gd _ _ _; first | with_reducible refine Gd.t ?_ | with_reducible refine Gd.f ?_ | with_reducible refine Gd.dec (fun _ => ?_) (fun _ => ?_) | with_reducible refine Gd.beq (fun _ => ?_) (fun _ => ?_) | with_reducible refine Gd.bne (fun _ => ?_) (fun _ => ?_) | with_reducible refine Gd.not ?_ | refine Gd.t ?_ | refine Gd.f ?_ | with_reducible refine Gd.var (fun _ => ?_) (fun _ => ?_)) | (show Sq _ _ _; refine Sq.mk ?_) | (show Ld1 _ _ _; first | (apply Ld1.blk; (focus ((repeat (first | assumption | (apply Blk.from; assumption))); done)); rfl) | (apply Ld1.rsF; (focus ((repeat (first | assumption | (apply RdS.from; assumption))); done)); assumption; rfl) | (apply Ld1.rs; (focus ((repeat (first | assumption | (apply RdS.from; assumption))); done)); assumption; rfl)) | (show Ld _ _ _ _; first | (apply Ld.blk; (focus ((repeat (first | assumption | (apply Blk.from; assumption))); done)); rfl) | (apply Ld.rs; (focus ((repeat (first | assumption | (apply RdS.from; assumption))); done)); assumption)) | (show Ix _ _ _ _ _; first | (apply Ix.rs; (focus ((repeat (first | assumption | (apply RdS.from; assumption))); done)); (first | with_reducible rfl | assumption); (first | assumption | omega)) | (apply Ix.arr; (focus ((repeat (first | assumption | (apply RdS.from; assumption))); done)); (first | assumption | (simp; done)); (first | with_reducible rfl | assumption); (first | assumption | omega))) | (show Al _ _ _ _; refine Al.mk (fun _ _ _ _ _ _ => ?_)) | (show St _ _ _ _; apply St.new; assumption; assumption; assumption; rfl; rfl; intro _ _ _ _))
  exact ⟨rfl, by (repeat (first | exact Ext.refl _ | assumption | (apply Ext.from; assumption)))⟩
def bitor (a b : Int) : Int := IntKind.i64.wrap (BitVec.ofInt IntKind.i64.bits a ||| BitVec.ofInt IntKind.i64.bits b).toNat
theorem mt_or {q : List Pt} {i : Nat} {s : Int} (h : okS s) (hn : (i, s) ∉ q) : bitor (mt q i) s = mt q i + s := by
  unfold mt
  rcases h with rfl | rfl | rfl <;> (by_cases h1 : (i, (1 : Int)) ∈ q) <;> (by_cases h2 : (i, (2 : Int)) ∈ q) <;> (by_cases h4 : (i, (4 : Int)) ∈ q) <;> first | contradiction | (simp only [h1, h2, h4, if_true, if_false]; decide)
theorem mt_same {q q' : List Pt} (h : ∀ x, x ∈ q ↔ x ∈ q') (i : Nat) : mt q i = mt q' i := by unfold mt; simp only [h]
def keysAt {κ ν : Type} (m : List (κ × ν)) (ix : List Nat) : List κ := ix.filterMap fun i => (m[i]?).map (·.1)
section
variable {κ ν : Type} {m : List (κ × ν)} {ix : List Nat} {i : Nat} {x : κ × ν}
theorem keysAt_snoc (hx : m[i]? = some x) : keysAt m (ix ++ [i]) = keysAt m ix ++ [x.1] := by simp [keysAt, hx]
theorem keysAt_mem {k : κ} : k ∈ keysAt m ix ↔ ∃ i ∈ ix, (m.map (·.1))[i]? = some k := by simp [keysAt]
theorem keysAt_new (hd : (m.map (·.1)).Nodup) (hx : m[i]? = some x) (hn : i ∉ ix) : x.1 ∉ keysAt m ix := fun h => by
  obtain ⟨j, hj, e⟩ := keysAt_mem.1 h
  have h1 : (m.map (·.1))[i]? = some x.1 := by simp [hx]
  have hji := (List.getElem?_inj (List.getElem?_eq_some_iff.1 e).1 hd).1 (e.trans h1.symm)
  exact hn (hji ▸ hj)
theorem keysAt_all (h : ∀ i, i < m.length → i ∈ ix) (k : κ) : k ∈ keysAt m ix ↔ k ∈ m.map (·.1) := by
  rw [keysAt_mem]
  refine ⟨fun ⟨j, _, e⟩ => List.mem_of_getElem? e, fun hk => ?_⟩
  obtain ⟨j, hj⟩ := List.getElem?_of_mem hk
  exact ⟨j, h j (by simpa using (List.getElem?_eq_some_iff.1 hj).1), hj⟩
end
/-- the rows when the slots ahead of s are in, and of s itself the points q -/
noncomputable def partQ (f : Fn) (s : Nat) (q : List Pt) : Nat → Nat → Int := fun i j => if j < s then flwG f i j else if j = s then mt q i else 0
theorem partQ_put {f : Fn} {s : Nat} {q : List Pt} {i : Nat} {t : Int} (h : okS t) (hn : (i, t) ∉ q) : put2 (partQ f s q) i s (mt q i + t) = partQ f s (q ++ [(i, t)]) := by
  funext i' j
  unfold put2 put1 partQ
  by_cases e2 : j = s
  · subst e2
    simp only [Nat.lt_irrefl, if_false, if_true, mt_snoc h hn]
    by_cases e : i' = i
    · subst e; simp
    · simp [e]
  · by_cases e : i' = i
    · subst e; simp [e2]
    · simp [e, e2]
theorem states_c (f : Fn) (A : Option Addr) (c m : Nat) (w : World) (hA : RdC w A f.code) (hG : RdG w) (hS : soundB f = true) (hm : f.slots = (m : Int)) (hm8 : m ≤ 8) :
    Cl Tryd.prog 51 #[f.v A c] w (IsRows f.code.length m (flwG f) w) (fun _ _ => False) := by
  have hsh : shapedB f = true := by simp only [soundB, Bool.and_eq_true] at hS; exact hS.1.1
  obtain ⟨hl1, hl2⟩ := shaped_len hsh
  refine calls_ex (args := [f.v A c]) T.ok Tryd.func51 rfl rfl rfl rfl ?_
  refine Sq.mk ?_
  refine Al.mk fun pf w1 hpf hb e1 hs1 => ?_
  repeat' (first | (show Gd _ _ _; first | with_reducible refine Gd.t ?_ | with_reducible refine Gd.f ?_ | with_reducible refine Gd.dec (fun _ => ?_) (fun _ => ?_) | with_reducible refine Gd.beq (fun _ => ?_) (fun _ => ?_) | with_reducible refine Gd.bne (fun _ => ?_) (fun _ => ?_) | with_reducible refine Gd.not ?_ | refine Gd.t ?_ | refine Gd.f ?_ | with_reducible refine Gd.var (fun _ => ?_) (fun _ => ?_)) | (show Sq _ _ _; refine Sq.mk ?_) | (show Ld1 _ _ _; first | (apply Ld1.blk; (focus ((repeat (first | assumption | (apply Blk.from; assumption))); done)); rfl) | (apply Ld1.rsF; (focus ((repeat (first | assumption | (apply RdS.from; assumption))); done)); assumption; rfl) | (apply Ld1.rs; (focus ((repeat (first | assumption | (apply RdS.from; assumption))); done)); assumption; rfl)) | (show Ld _ _ _ _; first | (apply Ld.blk; (focus ((repeat (first | assumption | (apply Blk.from; assumption))); done)); rfl) | (apply Ld.rs; (focus ((repeat (first | assumption | (apply RdS.from; assumption))); done)); assumption)) | (show Ix _ _ _ _ _; first | (apply Ix.rs; (focus ((repeat (first | assumption | (apply RdS.from; assumption))); done)); (first | with_reducible rfl | assumption); (first | assumption | omega)) | (apply Ix.arr; (focus ((repeat (first | assumption | (apply RdS.from; assumption))); done)); (first | assumption | (simp; done)); (first | with_reducible rfl | assumption); (first | assumption | omega))) | (show Al _ _ _ _; refine Al.mk (fun _ _ _ _ _ _ => ?_)) | (show St _ _ _ _; apply St.new; assumption; assumption; assumption; rfl; rfl; intro _ _ _ _))
  refine Sm.make T.ok (enc := vals) (z := .slice none 0 0) (n := f.code.length) rfl rfl rfl rfl rfl rfl rfl rfl Nat.zero_lt_one (Nat.le_trans (Nat.mul_le_mul_left _ hl2) (by decide)) (by omega) (fun p w3 hp hb3 e3 => ?_)
  rw [flat_vals] at hb3
  have M0 : Mx w3 w.heap.size p f.code.length m [] (partQ f 0 []) := by
    have := e1.size
    exact ⟨hb3, by simp, by simp, by simp, by simp, by omega⟩
  have e03 : Ext w w3 := e1.trans e3
  have hb := hb.ext e3
  clear hb3 e1 e3 hs1
  repeat' (first | (show Gd _ _ _; first | with_reducible refine Gd.t ?_ | with_reducible refine Gd.f ?_ | with_reducible refine Gd.dec (fun _ => ?_) (fun _ => ?_) | with_reducible refine Gd.beq (fun _ => ?_) (fun _ => ?_) | with_reducible refine Gd.bne (fun _ => ?_) (fun _ => ?_) | with_reducible refine Gd.not ?_ | refine Gd.t ?_ | refine Gd.f ?_ | with_reducible refine Gd.var (fun _ => ?_) (fun _ => ?_)) | (show Sq _ _ _; refine Sq.mk ?_) | (show Ld1 _ _ _; first | (apply Ld1.blk; (focus ((repeat (first | assumption | (apply Blk.from; assumption))); done)); rfl) | (apply Ld1.rsF; (focus ((repeat (first | assumption | (apply RdS.from; assumption))); done)); assumption; rfl) | (apply Ld1.rs; (focus ((repeat (first | assumption | (apply RdS.from; assumption))); done)); assumption; rfl)) | (show Ld _ _ _ _; first | (apply Ld.blk; (focus ((repeat (first | assumption | (apply Blk.from; assumption))); done)); rfl) | (apply Ld.rs; (focus ((repeat (first | assumption | (apply RdS.from; assumption))); done)); assumption)) | (show Ix _ _ _ _ _; first | (apply Ix.rs; (focus ((repeat (first | assumption | (apply RdS.from; assumption))); done)); (first | with_reducible rfl | assumption); (first | assumption | omega)) | (apply Ix.arr; (focus ((repeat (first | assumption | (apply RdS.from; assumption))); done)); (first | assumption | (simp; done)); (first | with_reducible rfl | assumption); (first | assumption | omega))) | (show Al _ _ _ _; refine Al.mk (fun _ _ _ _ _ _ => ?_)) | (show St _ _ _ _; apply St.new; assumption; assumption; assumption; rfl; rfl; intro _ _ _ _))
  refine Lp.g0 T.ok (σ := List Nat) (fun ps => [(13, .int .i64 (ps.length : Int)), (12, .int .i64 (f.code.length : Int)), (3, .slice (some ⟨p, 0, none⟩) f.code.length f.code.length), (1, .pointer (some ⟨pf, 0, none⟩))])
    (fun ps w' => Mx w' w.heap.size p f.code.length m ps (partQ f 0 []) ∧ Ext w w' ∧ Blk w' pf 24 (f.v A c).cells.toList) (fun ps _ => f.code.length - ps.length) [] rfl ⟨rfl, rfl, rfl, rfl, trivial⟩ ⟨M0, e03, hb⟩ ?_
  clear M0 e03 hb
  rintro ps w4 ⟨hM, e04, hb⟩
  have hle := hM.le
  by_cases hlt : ps.length < f.code.length
  · repeat' (first | ((show Gd _ _ _; first | with_reducible refine Gd.t ?_ | with_reducible refine Gd.f ?_ | with_reducible refine Gd.dec (fun _ => ?_) (fun _ => ?_) | with_reducible refine Gd.beq (fun _ => ?_) (fun _ => ?_) | with_reducible refine Gd.bne (fun _ => ?_) (fun _ => ?_) | with_reducible refine Gd.not ?_ | refine Gd.t ?_ | refine Gd.f ?_ | with_reducible refine Gd.var (fun _ => ?_) (fun _ => ?_)) <;> first | (exfalso; omega) | skip) | (first | (show Gd _ _ _; first | with_reducible refine Gd.t ?_ | with_reducible refine Gd.f ?_ | with_reducible refine Gd.dec (fun _ => ?_) (fun _ => ?_) | with_reducible refine Gd.beq (fun _ => ?_) (fun _ => ?_) | with_reducible refine Gd.bne (fun _ => ?_) (fun _ => ?_) | with_reducible refine Gd.not ?_ | refine Gd.t ?_ | refine Gd.f ?_ | with_reducible refine Gd.var (fun _ => ?_) (fun _ => ?_)) | (show Sq _ _ _; refine Sq.mk ?_) | (show Ld1 _ _ _; first | (apply Ld1.blk; (focus ((repeat (first | assumption | (apply Blk.from; assumption))); done)); rfl) | (apply Ld1.rsF; (focus ((repeat (first | assumption | (apply RdS.from; assumption))); done)); assumption; rfl) | (apply Ld1.rs; (focus ((repeat (first | assumption | (apply RdS.from; assumption))); done)); assumption; rfl)) | (show Ld _ _ _ _; first | (apply Ld.blk; (focus ((repeat (first | assumption | (apply Blk.from; assumption))); done)); rfl) | (apply Ld.rs; (focus ((repeat (first | assumption | (apply RdS.from; assumption))); done)); assumption)) | (show Ix _ _ _ _ _; first | (apply Ix.rs; (focus ((repeat (first | assumption | (apply RdS.from; assumption))); done)); (first | with_reducible rfl | assumption); (first | assumption | omega)) | (apply Ix.arr; (focus ((repeat (first | assumption | (apply RdS.from; assumption))); done)); (first | assumption | (simp; done)); (first | with_reducible rfl | assumption); (first | assumption | omega))) | (show Al _ _ _ _; refine Al.mk (fun _ _ _ _ _ _ => ?_)) | (show St _ _ _ _; apply St.new; assumption; assumption; assumption; rfl; rfl; intro _ _ _ _)))
    refine Sm.make T.ok (enc := ints) (z := 0) (n := m) rfl rfl rfl hm hm rfl rfl rfl Nat.zero_lt_one (Nat.le_trans (Nat.mul_le_mul_left _ hm8) (by decide)) (by omega) (fun q w5 hq hb5 e5 => ?_)
    have hrt := (hM.ext e5).rd (by omega)
    have hlen := hM.len
    refine Ix.arr (i := ps.length) hrt hlen rfl (by rw [hlen]; exact hlt) ?_
    have hz : List.replicate m (0 : Int) = rowL m (partQ f 0 [] ps.length) := by
      have : rowL m (partQ f 0 [] ps.length) = rowL m (fun _ => 0) := rowL_congr fun j _ => by simp [partQ, mt]
      rw [this]
      simp [rowL, List.map_const']
    rw [hz] at hb5
    refine St.cell (hM.ext e5).top (by rw [hlen]; exact hlt) rfl fun w6 u6 ht6 => ?_
    have hM6 := hM.snoc e5 (by omega) hb5 u6 ht6 hlt e04.size
    have hb6 := (hb.ext e5).upd u6 ((hM.ext e5).ne_t (hb.ext e5) (by decide) (by decide)).1
    have e06 := (e04.trans e5).upd u6 hM.plo
    repeat' (first | (show Gd _ _ _; first | with_reducible refine Gd.t ?_ | with_reducible refine Gd.f ?_ | with_reducible refine Gd.dec (fun _ => ?_) (fun _ => ?_) | with_reducible refine Gd.beq (fun _ => ?_) (fun _ => ?_) | with_reducible refine Gd.bne (fun _ => ?_) (fun _ => ?_) | with_reducible refine Gd.not ?_ | refine Gd.t ?_ | refine Gd.f ?_ | with_reducible refine Gd.var (fun _ => ?_) (fun _ => ?_)) | (show Sq _ _ _; refine Sq.mk ?_) | (show Ld1 _ _ _; first | (apply Ld1.blk; (focus ((repeat (first | assumption | (apply Blk.from; assumption))); done)); rfl) | (apply Ld1.rsF; (focus ((repeat (first | assumption | (apply RdS.from; assumption))); done)); assumption; rfl) | (apply Ld1.rs; (focus ((repeat (first | assumption | (apply RdS.from; assumption))); done)); assumption; rfl)) | (show Ld _ _ _ _; first | (apply Ld.blk; (focus ((repeat (first | assumption | (apply Blk.from; assumption))); done)); rfl) | (apply Ld.rs; (focus ((repeat (first | assumption | (apply RdS.from; assumption))); done)); assumption)) | (show Ix _ _ _ _ _; first | (apply Ix.rs; (focus ((repeat (first | assumption | (apply RdS.from; assumption))); done)); (first | with_reducible rfl | assumption); (first | assumption | omega)) | (apply Ix.arr; (focus ((repeat (first | assumption | (apply RdS.from; assumption))); done)); (first | assumption | (simp; done)); (first | with_reducible rfl | assumption); (first | assumption | omega))) | (show Al _ _ _ _; refine Al.mk (fun _ _ _ _ _ _ => ?_)) | (show St _ _ _ _; apply St.new; assumption; assumption; assumption; rfl; rfl; intro _ _ _ _))
    refine ⟨ps ++ [q], ⟨at_int (m := ((ps ++ [q]).length : Int)) rfl (w64 (by simp) (by omega) (by simp; omega)), rfl, rfl, rfl, trivial⟩, rfl, ⟨hM6, e06, hb6⟩, by simp; omega⟩
  · have hpl : ps.length = f.code.length := by omega
    repeat' (first | ((show Gd _ _ _; first | with_reducible refine Gd.t ?_ | with_reducible refine Gd.f ?_ | with_reducible refine Gd.dec (fun _ => ?_) (fun _ => ?_) | with_reducible refine Gd.beq (fun _ => ?_) (fun _ => ?_) | with_reducible refine Gd.bne (fun _ => ?_) (fun _ => ?_) | with_reducible refine Gd.not ?_ | refine Gd.t ?_ | refine Gd.f ?_ | with_reducible refine Gd.var (fun _ => ?_) (fun _ => ?_)) <;> first | (exfalso; omega) | skip) | (first | (show Gd _ _ _; first | with_reducible refine Gd.t ?_ | with_reducible refine Gd.f ?_ | with_reducible refine Gd.dec (fun _ => ?_) (fun _ => ?_) | with_reducible refine Gd.beq (fun _ => ?_) (fun _ => ?_) | with_reducible refine Gd.bne (fun _ => ?_) (fun _ => ?_) | with_reducible refine Gd.not ?_ | refine Gd.t ?_ | refine Gd.f ?_ | with_reducible refine Gd.var (fun _ => ?_) (fun _ => ?_)) | (show Sq _ _ _; refine Sq.mk ?_) | (show Ld1 _ _ _; first | (apply Ld1.blk; (focus ((repeat (first | assumption | (apply Blk.from; assumption))); done)); rfl) | (apply Ld1.rsF; (focus ((repeat (first | assumption | (apply RdS.from; assumption))); done)); assumption; rfl) | (apply Ld1.rs; (focus ((repeat (first | assumption | (apply RdS.from; assumption))); done)); assumption; rfl)) | (show Ld _ _ _ _; first | (apply Ld.blk; (focus ((repeat (first | assumption | (apply Blk.from; assumption))); done)); rfl) | (apply Ld.rs; (focus ((repeat (first | assumption | (apply RdS.from; assumption))); done)); assumption)) | (show Ix _ _ _ _ _; first | (apply Ix.rs; (focus ((repeat (first | assumption | (apply RdS.from; assumption))); done)); (first | with_reducible rfl | assumption); (first | assumption | omega)) | (apply Ix.arr; (focus ((repeat (first | assumption | (apply RdS.from; assumption))); done)); (first | assumption | (simp; done)); (first | with_reducible rfl | assumption); (first | assumption | omega))) | (show Al _ _ _ _; refine Al.mk (fun _ _ _ _ _ _ => ?_)) | (show St _ _ _ _; apply St.new; assumption; assumption; assumption; rfl; rfl; intro _ _ _ _)))
    refine Lp.g0 T.ok (σ := Nat) (fun s => [(25, .int .i64 (s : Int)), (24, .int .i64 f.slots), (3, .slice (some ⟨p, 0, none⟩) f.code.length f.code.length), (1, .pointer (some ⟨pf, 0, none⟩))])
      (fun s w' => s ≤ m ∧ Mx w' w.heap.size p f.code.length m ps (partQ f s []) ∧ Ext w w' ∧ Blk w' pf 24 (f.v A c).cells.toList) (fun s _ => m - s) 0 rfl ⟨rfl, rfl, rfl, rfl, trivial⟩ ⟨by omega, hM, e04, hb⟩ ?_
    clear hM e04 hb hlt hle
    rintro s w7 ⟨hs, hM, e07, hb⟩
    have hlen := hM.len
    by_cases hsm : s < m
    · repeat' (first | ((show Gd _ _ _; first | with_reducible refine Gd.t ?_ | with_reducible refine Gd.f ?_ | with_reducible refine Gd.dec (fun _ => ?_) (fun _ => ?_) | with_reducible refine Gd.beq (fun _ => ?_) (fun _ => ?_) | with_reducible refine Gd.bne (fun _ => ?_) (fun _ => ?_) | with_reducible refine Gd.not ?_ | refine Gd.t ?_ | refine Gd.f ?_ | with_reducible refine Gd.var (fun _ => ?_) (fun _ => ?_)) <;> first | (exfalso; omega) | skip) | (first | (show Gd _ _ _; first | with_reducible refine Gd.t ?_ | with_reducible refine Gd.f ?_ | with_reducible refine Gd.dec (fun _ => ?_) (fun _ => ?_) | with_reducible refine Gd.beq (fun _ => ?_) (fun _ => ?_) | with_reducible refine Gd.bne (fun _ => ?_) (fun _ => ?_) | with_reducible refine Gd.not ?_ | refine Gd.t ?_ | refine Gd.f ?_ | with_reducible refine Gd.var (fun _ => ?_) (fun _ => ?_)) | (show Sq _ _ _; refine Sq.mk ?_) | (show Ld1 _ _ _; first | (apply Ld1.blk; (focus ((repeat (first | assumption | (apply Blk.from; assumption))); done)); rfl) | (apply Ld1.rsF; (focus ((repeat (first | assumption | (apply RdS.from; assumption))); done)); assumption; rfl) | (apply Ld1.rs; (focus ((repeat (first | assumption | (apply RdS.from; assumption))); done)); assumption; rfl)) | (show Ld _ _ _ _; first | (apply Ld.blk; (focus ((repeat (first | assumption | (apply Blk.from; assumption))); done)); rfl) | (apply Ld.rs; (focus ((repeat (first | assumption | (apply RdS.from; assumption))); done)); assumption)) | (show Ix _ _ _ _ _; first | (apply Ix.rs; (focus ((repeat (first | assumption | (apply RdS.from; assumption))); done)); (first | with_reducible rfl | assumption); (first | assumption | omega)) | (apply Ix.arr; (focus ((repeat (first | assumption | (apply RdS.from; assumption))); done)); (first | assumption | (simp; done)); (first | with_reducible rfl | assumption); (first | assumption | omega))) | (show Al _ _ _ _; refine Al.mk (fun _ _ _ _ _ _ => ?_)) | (show St _ _ _ _; apply St.new; assumption; assumption; assumption; rfl; rfl; intro _ _ _ _)))
      (show Cl _ _ _ _ _ _; refine Cl.mk (search_c f A c s 78 [] (fun _ => false) _ (RdS.from e07 hA) (RdS.from e07 hG) hS rfl (fun x w' _ => states1_c x w')) ?_)
      rintro _ w8 ⟨pm, mp, k, rfl, hpm, hmo, hq, hTr, hend, hno, e8⟩
      have hk : k = mp.length := by
        rcases hend with h | ⟨x, _, h⟩
        · exact h
        · exact absurd h (by simp)
      subst hk
      have hMX := hM.ext e8
      have e08 := e07.trans e8
      have hpmps : ∀ q ∈ ps, pm ≠ q := fun q hq' e => by
        obtain ⟨i, hi⟩ := List.getElem?_of_mem hq'
        have := (hM.row i q hi).lt; omega
      replace hb := hb.ext e8
      clear e8 e07 hM
      refine Sm.range (m := mp) (kv := kvP) (vv := vvP) T.ok rfl rfl hmo (fun r w9 hr e9 hit => ?_)
      repeat' (first | ((show Gd _ _ _; first | with_reducible refine Gd.t ?_ | with_reducible refine Gd.f ?_ | with_reducible refine Gd.dec (fun _ => ?_) (fun _ => ?_) | with_reducible refine Gd.beq (fun _ => ?_) (fun _ => ?_) | with_reducible refine Gd.bne (fun _ => ?_) (fun _ => ?_) | with_reducible refine Gd.not ?_ | refine Gd.t ?_ | refine Gd.f ?_ | with_reducible refine Gd.var (fun _ => ?_) (fun _ => ?_)) <;> first | (exfalso; omega) | skip) | (first | (show Gd _ _ _; first | with_reducible refine Gd.t ?_ | with_reducible refine Gd.f ?_ | with_reducible refine Gd.dec (fun _ => ?_) (fun _ => ?_) | with_reducible refine Gd.beq (fun _ => ?_) (fun _ => ?_) | with_reducible refine Gd.bne (fun _ => ?_) (fun _ => ?_) | with_reducible refine Gd.not ?_ | refine Gd.t ?_ | refine Gd.f ?_ | with_reducible refine Gd.var (fun _ => ?_) (fun _ => ?_)) | (show Sq _ _ _; refine Sq.mk ?_) | (show Ld1 _ _ _; first | (apply Ld1.blk; (focus ((repeat (first | assumption | (apply Blk.from; assumption))); done)); rfl) | (apply Ld1.rsF; (focus ((repeat (first | assumption | (apply RdS.from; assumption))); done)); assumption; rfl) | (apply Ld1.rs; (focus ((repeat (first | assumption | (apply RdS.from; assumption))); done)); assumption; rfl)) | (show Ld _ _ _ _; first | (apply Ld.blk; (focus ((repeat (first | assumption | (apply Blk.from; assumption))); done)); rfl) | (apply Ld.rs; (focus ((repeat (first | assumption | (apply RdS.from; assumption))); done)); assumption)) | (show Ix _ _ _ _ _; first | (apply Ix.rs; (focus ((repeat (first | assumption | (apply RdS.from; assumption))); done)); (first | with_reducible rfl | assumption); (first | assumption | omega)) | (apply Ix.arr; (focus ((repeat (first | assumption | (apply RdS.from; assumption))); done)); (first | assumption | (simp; done)); (first | with_reducible rfl | assumption); (first | assumption | omega))) | (show Al _ _ _ _; refine Al.mk (fun _ _ _ _ _ _ => ?_)) | (show St _ _ _ _; apply St.new; assumption; assumption; assumption; rfl; rfl; intro _ _ _ _)))
      refine Lp.g0 T.ok (σ := List Nat) (fun _ => [(31, .pointer (some ⟨r, 0, none⟩)), (5, .int .i64 (s : Int)), (25, .int .i64 (s : Int)), (24, .int .i64 f.slots), (3, .slice (some ⟨p, 0, none⟩) f.code.length f.code.length), (1, .pointer (some ⟨pf, 0, none⟩))])
        (fun ix w' => Iter kvP vvP w' r pm mp ix ∧ Mx w' w.heap.size p f.code.length m ps (partQ f s (keysAt mp ix)) ∧ Ext w w' ∧ Blk w' pf 24 (f.v A c).cells.toList ∧ (∀ i ∈ ix, i < mp.length) ∧ ix.Nodup) (fun ix _ => mp.length - ix.length)
        [] rfl ⟨rfl, rfl, rfl, rfl, rfl, rfl, trivial⟩ ⟨hit, hMX.ext e9, e08.trans e9, hb.ext e9, by simp, by simp⟩ ?_
      have hrps : ∀ q ∈ ps, r ≠ q := fun q hq' e => by
        obtain ⟨i, hi⟩ := List.getElem?_of_mem hq'
        have := (hMX.row i q hi).lt; omega
      have hrlo : w.heap.size ≤ r := by have := e08.size; omega
      clear hMX e08 hb hit e9
      rintro ix w10 ⟨hit, hM, e010, hb, hin, hnd⟩
      have hpml := hmo.lt
      have hixl := pigeon mp.length ix hnd hin
      repeat' (first | ((show Gd _ _ _; first | with_reducible refine Gd.t ?_ | with_reducible refine Gd.f ?_ | with_reducible refine Gd.dec (fun _ => ?_) (fun _ => ?_) | with_reducible refine Gd.beq (fun _ => ?_) (fun _ => ?_) | with_reducible refine Gd.bne (fun _ => ?_) (fun _ => ?_) | with_reducible refine Gd.not ?_ | refine Gd.t ?_ | refine Gd.f ?_ | with_reducible refine Gd.var (fun _ => ?_) (fun _ => ?_)) <;> first | (exfalso; omega) | skip) | (first | (show Gd _ _ _; first | with_reducible refine Gd.t ?_ | with_reducible refine Gd.f ?_ | with_reducible refine Gd.dec (fun _ => ?_) (fun _ => ?_) | with_reducible refine Gd.beq (fun _ => ?_) (fun _ => ?_) | with_reducible refine Gd.bne (fun _ => ?_) (fun _ => ?_) | with_reducible refine Gd.not ?_ | refine Gd.t ?_ | refine Gd.f ?_ | with_reducible refine Gd.var (fun _ => ?_) (fun _ => ?_)) | (show Sq _ _ _; refine Sq.mk ?_) | (show Ld1 _ _ _; first | (apply Ld1.blk; (focus ((repeat (first | assumption | (apply Blk.from; assumption))); done)); rfl) | (apply Ld1.rsF; (focus ((repeat (first | assumption | (apply RdS.from; assumption))); done)); assumption; rfl) | (apply Ld1.rs; (focus ((repeat (first | assumption | (apply RdS.from; assumption))); done)); assumption; rfl)) | (show Ld _ _ _ _; first | (apply Ld.blk; (focus ((repeat (first | assumption | (apply Blk.from; assumption))); done)); rfl) | (apply Ld.rs; (focus ((repeat (first | assumption | (apply RdS.from; assumption))); done)); assumption)) | (show Ix _ _ _ _ _; first | (apply Ix.rs; (focus ((repeat (first | assumption | (apply RdS.from; assumption))); done)); (first | with_reducible rfl | assumption); (first | assumption | omega)) | (apply Ix.arr; (focus ((repeat (first | assumption | (apply RdS.from; assumption))); done)); (first | assumption | (simp; done)); (first | with_reducible rfl | assumption); (first | assumption | omega))) | (show Al _ _ _ _; refine Al.mk (fun _ _ _ _ _ _ => ?_)) | (show St _ _ _ _; apply St.new; assumption; assumption; assumption; rfl; rfl; intro _ _ _ _)))
      refine Sm.next hit (fun hall => ?_) (fun i x w11 hx hni u11 hit11 => ?_)
      · repeat' (first | ((show Gd _ _ _; first | with_reducible refine Gd.t ?_ | with_reducible refine Gd.f ?_ | with_reducible refine Gd.dec (fun _ => ?_) (fun _ => ?_) | with_reducible refine Gd.beq (fun _ => ?_) (fun _ => ?_) | with_reducible refine Gd.bne (fun _ => ?_) (fun _ => ?_) | with_reducible refine Gd.not ?_ | refine Gd.t ?_ | refine Gd.f ?_ | with_reducible refine Gd.var (fun _ => ?_) (fun _ => ?_)) <;> first | (exfalso; omega) | skip) | (first | (show Gd _ _ _; first | with_reducible refine Gd.t ?_ | with_reducible refine Gd.f ?_ | with_reducible refine Gd.dec (fun _ => ?_) (fun _ => ?_) | with_reducible refine Gd.beq (fun _ => ?_) (fun _ => ?_) | with_reducible refine Gd.bne (fun _ => ?_) (fun _ => ?_) | with_reducible refine Gd.not ?_ | refine Gd.t ?_ | refine Gd.f ?_ | with_reducible refine Gd.var (fun _ => ?_) (fun _ => ?_)) | (show Sq _ _ _; refine Sq.mk ?_) | (show Ld1 _ _ _; first | (apply Ld1.blk; (focus ((repeat (first | assumption | (apply Blk.from; assumption))); done)); rfl) | (apply Ld1.rsF; (focus ((repeat (first | assumption | (apply RdS.from; assumption))); done)); assumption; rfl) | (apply Ld1.rs; (focus ((repeat (first | assumption | (apply RdS.from; assumption))); done)); assumption; rfl)) | (show Ld _ _ _ _; first | (apply Ld.blk; (focus ((repeat (first | assumption | (apply Blk.from; assumption))); done)); rfl) | (apply Ld.rs; (focus ((repeat (first | assumption | (apply RdS.from; assumption))); done)); assumption)) | (show Ix _ _ _ _ _; first | (apply Ix.rs; (focus ((repeat (first | assumption | (apply RdS.from; assumption))); done)); (first | with_reducible rfl | assumption); (first | assumption | omega)) | (apply Ix.arr; (focus ((repeat (first | assumption | (apply RdS.from; assumption))); done)); (first | assumption | (simp; done)); (first | with_reducible rfl | assumption); (first | assumption | omega))) | (show Al _ _ _ _; refine Al.mk (fun _ _ _ _ _ _ => ?_)) | (show St _ _ _ _; apply St.new; assumption; assumption; assumption; rfl; rfl; intro _ _ _ _)))
        refine ⟨s + 1, ⟨at_int (m := ((s + 1 : Nat) : Int)) rfl (w64 (by simp) (by omega) (by omega)), rfl, rfl, rfl, trivial⟩, rfl, ⟨by omega, hM.congr fun i' j hi' hj => ?_, e010, hb⟩, by omega⟩
        have h1 : mt (keysAt mp ix) i' = flwG f i' s := by
          rw [mt_same (keysAt_all hall), flwG]
          exact mt_flw (by simpa using hq) i'
        unfold partQ
        by_cases h2 : j < s
        · rw [if_pos h2, if_pos (by omega)]
        · by_cases h3 : j = s
          · subst h3
            rw [if_neg h2, if_pos rfl, if_pos (by omega), h1]
          · rw [if_neg h2, if_neg h3, if_neg (by omega)]
            by_cases h4 : j = s + 1
            · rw [if_pos h4]; simp [mt]
            · rw [if_neg h4]
      · have hb11 := hb.upd u11 (fun e => (hit.ne_blk hb).1 e.symm)
        have hM11 := hM.upd u11 (fun e => (hit.ne_blk hM.top).1 e.symm) (fun hm => hrps r hm rfl)
        have e011 := e010.upd u11 hrlo
        obtain ⟨y, pr⟩ := x
        have hkx : (mp.map (·.1))[i]? = some y := by simp [hx]
        obtain ⟨hy1, hy2⟩ := hq.inr y (List.mem_of_getElem? hkx)
        have hnew := keysAt_new hq.nodup hx hni
        have hkeys := keysAt_snoc (ix := ix) hx
        simp only at hnew hkeys
        have him : i < mp.length := (List.getElem?_eq_some_iff.1 hx).1
        clear hM hit hb e010
        repeat' (first | ((show Gd _ _ _; first | with_reducible refine Gd.t ?_ | with_reducible refine Gd.f ?_ | with_reducible refine Gd.dec (fun _ => ?_) (fun _ => ?_) | with_reducible refine Gd.beq (fun _ => ?_) (fun _ => ?_) | with_reducible refine Gd.bne (fun _ => ?_) (fun _ => ?_) | with_reducible refine Gd.not ?_ | refine Gd.t ?_ | refine Gd.f ?_ | with_reducible refine Gd.var (fun _ => ?_) (fun _ => ?_)) <;> first | (exfalso; omega) | skip) | (first | (show Gd _ _ _; first | with_reducible refine Gd.t ?_ | with_reducible refine Gd.f ?_ | with_reducible refine Gd.dec (fun _ => ?_) (fun _ => ?_) | with_reducible refine Gd.beq (fun _ => ?_) (fun _ => ?_) | with_reducible refine Gd.bne (fun _ => ?_) (fun _ => ?_) | with_reducible refine Gd.not ?_ | refine Gd.t ?_ | refine Gd.f ?_ | with_reducible refine Gd.var (fun _ => ?_) (fun _ => ?_)) | (show Sq _ _ _; refine Sq.mk ?_) | (show Ld1 _ _ _; first | (apply Ld1.blk; (focus ((repeat (first | assumption | (apply Blk.from; assumption))); done)); rfl) | (apply Ld1.rsF; (focus ((repeat (first | assumption | (apply RdS.from; assumption))); done)); assumption; rfl) | (apply Ld1.rs; (focus ((repeat (first | assumption | (apply RdS.from; assumption))); done)); assumption; rfl)) | (show Ld _ _ _ _; first | (apply Ld.blk; (focus ((repeat (first | assumption | (apply Blk.from; assumption))); done)); rfl) | (apply Ld.rs; (focus ((repeat (first | assumption | (apply RdS.from; assumption))); done)); assumption)) | (show Ix _ _ _ _ _; first | (apply Ix.rs; (focus ((repeat (first | assumption | (apply RdS.from; assumption))); done)); (first | with_reducible rfl | assumption); (first | assumption | omega)) | (apply Ix.arr; (focus ((repeat (first | assumption | (apply RdS.from; assumption))); done)); (first | assumption | (simp; done)); (first | with_reducible rfl | assumption); (first | assumption | omega))) | (show Al _ _ _ _; refine Al.mk (fun _ _ _ _ _ _ => ?_)) | (show St _ _ _ _; apply St.new; assumption; assumption; assumption; rfl; rfl; intro _ _ _ _)))
        refine Sm.entry hit11 hx ?_
        repeat' (first | ((show Gd _ _ _; first | with_reducible refine Gd.t ?_ | with_reducible refine Gd.f ?_ | with_reducible refine Gd.dec (fun _ => ?_) (fun _ => ?_) | with_reducible refine Gd.beq (fun _ => ?_) (fun _ => ?_) | with_reducible refine Gd.bne (fun _ => ?_) (fun _ => ?_) | with_reducible refine Gd.not ?_ | refine Gd.t ?_ | refine Gd.f ?_ | with_reducible refine Gd.var (fun _ => ?_) (fun _ => ?_)) <;> first | (exfalso; omega) | skip) | (first | (show Gd _ _ _; first | with_reducible refine Gd.t ?_ | with_reducible refine Gd.f ?_ | with_reducible refine Gd.dec (fun _ => ?_) (fun _ => ?_) | with_reducible refine Gd.beq (fun _ => ?_) (fun _ => ?_) | with_reducible refine Gd.bne (fun _ => ?_) (fun _ => ?_) | with_reducible refine Gd.not ?_ | refine Gd.t ?_ | refine Gd.f ?_ | with_reducible refine Gd.var (fun _ => ?_) (fun _ => ?_)) | (show Sq _ _ _; refine Sq.mk ?_) | (show Ld1 _ _ _; first | (apply Ld1.blk; (focus ((repeat (first | assumption | (apply Blk.from; assumption))); done)); rfl) | (apply Ld1.rsF; (focus ((repeat (first | assumption | (apply RdS.from; assumption))); done)); assumption; rfl) | (apply Ld1.rs; (focus ((repeat (first | assumption | (apply RdS.from; assumption))); done)); assumption; rfl)) | (show Ld _ _ _ _; first | (apply Ld.blk; (focus ((repeat (first | assumption | (apply Blk.from; assumption))); done)); rfl) | (apply Ld.rs; (focus ((repeat (first | assumption | (apply RdS.from; assumption))); done)); assumption)) | (show Ix _ _ _ _ _; first | (apply Ix.rs; (focus ((repeat (first | assumption | (apply RdS.from; assumption))); done)); (first | with_reducible rfl | assumption); (first | assumption | omega)) | (apply Ix.arr; (focus ((repeat (first | assumption | (apply RdS.from; assumption))); done)); (first | assumption | (simp; done)); (first | with_reducible rfl | assumption); (first | assumption | omega))) | (show Al _ _ _ _; refine Al.mk (fun _ _ _ _ _ _ => ?_)) | (show St _ _ _ _; apply St.new; assumption; assumption; assumption; rfl; rfl; intro _ _ _ _)))
        rename_i px w12 hpx hbx0 ex0 hsx0 w13 e13 hbx hsx
        replace hbx : Blk w13 px 82 (encP y) := hbx
        clear hbx0 ex0 hsx0 hsx
        have hM13 := hM11.ext e13
        obtain ⟨q, hq'⟩ : ∃ q, ps[y.1]? = some q := ⟨_, List.getElem?_eq_getElem (by omega)⟩
        have hrt := hM13.rd (by omega)
        have hat := hM13.at hq'
        have hrq := hM13.row y.1 q hq'
        have hrr := rd_of_blk hrq (by rw [rowL_len]; omega)
        refine Dr.tail T.ok mixed 11 (by kernel_rfl) fun W w14 hW e14 _ => ?_
        have hmi : (rowL m (partQ f s (keysAt mp ix) y.1))[s]? = some (mt (keysAt mp ix) y.1) := by
          rw [rowL_at hsm]; simp [partQ]
        repeat' (first | (show Gd _ _ _; first | with_reducible refine Gd.t ?_ | with_reducible refine Gd.f ?_ | with_reducible refine Gd.dec (fun _ => ?_) (fun _ => ?_) | with_reducible refine Gd.beq (fun _ => ?_) (fun _ => ?_) | with_reducible refine Gd.bne (fun _ => ?_) (fun _ => ?_) | with_reducible refine Gd.not ?_ | refine Gd.t ?_ | refine Gd.f ?_ | with_reducible refine Gd.var (fun _ => ?_) (fun _ => ?_)) | (show QLd1 _ _ _; first | (apply QLd1.blk hW; (focus ((repeat (first | assumption | (apply Blk.from; assumption))); done)); rfl) | (apply QLd1.rsF hW; (focus ((repeat (first | assumption | (apply RdS.from; assumption))); done)); assumption; rfl) | (apply QLd1.rs hW; (focus ((repeat (first | assumption | (apply RdS.from; assumption))); done)); assumption; rfl)) | (show QLd _ _ _ _; first | (apply QLd.blk hW; (focus ((repeat (first | assumption | (apply Blk.from; assumption))); done)); rfl) | (apply QLd.rs hW; (focus ((repeat (first | assumption | (apply RdS.from; assumption))); done)); assumption)) | (show Ix _ _ _ _ _; first | (apply Ix.rs; (focus ((repeat (first | assumption | (apply RdS.from; assumption))); done)); (first | with_reducible rfl | assumption); (first | assumption | omega)) | (apply Ix.arr; (focus ((repeat (first | assumption | (apply RdS.from; assumption))); done)); (first | assumption | (simp; done)); (first | with_reducible rfl | assumption); (first | assumption | omega))))
        (show Ix _ _ _ _ _; refine Ix.arr (i := s) (RdS.from e14 hrr) (rowL_len _ _) rfl (by rw [rowL_len]; exact hsm) ?_)
        repeat' (first | (show Gd _ _ _; first | with_reducible refine Gd.t ?_ | with_reducible refine Gd.f ?_ | with_reducible refine Gd.dec (fun _ => ?_) (fun _ => ?_) | with_reducible refine Gd.beq (fun _ => ?_) (fun _ => ?_) | with_reducible refine Gd.bne (fun _ => ?_) (fun _ => ?_) | with_reducible refine Gd.not ?_ | refine Gd.t ?_ | refine Gd.f ?_ | with_reducible refine Gd.var (fun _ => ?_) (fun _ => ?_)) | (show QLd1 _ _ _; first | (apply QLd1.blk hW; (focus ((repeat (first | assumption | (apply Blk.from; assumption))); done)); rfl) | (apply QLd1.rsF hW; (focus ((repeat (first | assumption | (apply RdS.from; assumption))); done)); assumption; rfl) | (apply QLd1.rs hW; (focus ((repeat (first | assumption | (apply RdS.from; assumption))); done)); assumption; rfl)) | (show QLd _ _ _ _; first | (apply QLd.blk hW; (focus ((repeat (first | assumption | (apply Blk.from; assumption))); done)); rfl) | (apply QLd.rs hW; (focus ((repeat (first | assumption | (apply RdS.from; assumption))); done)); assumption)) | (show Ix _ _ _ _ _; first | (apply Ix.rs; (focus ((repeat (first | assumption | (apply RdS.from; assumption))); done)); (first | with_reducible rfl | assumption); (first | assumption | omega)) | (apply Ix.arr; (focus ((repeat (first | assumption | (apply RdS.from; assumption))); done)); (first | assumption | (simp; done)); (first | with_reducible rfl | assumption); (first | assumption | omega))))
        (show Ix _ _ _ _ _; refine Ix.arr (i := s) (RdS.from e14 hrr) (rowL_len _ _) rfl (by rw [rowL_len]; exact hsm) ?_)
        refine St.ints (v := bitor (mt (keysAt mp ix) y.1) y.2) (hrq.ext e14) (by rw [rowL_len]; exact hsm) fun w15 u15 hq15 => ?_
        rw [mt_or hy2 hnew] at hq15
        have hM15 := (hM13.ext e14).set hq' u15 hq15
        rw [partQ_put hy2 hnew, show (y.1, y.2) = y from rfl, ← hkeys] at hM15
        have hqm := List.mem_of_getElem? hq'
        have hb15 := ((hb11.ext e13).ext e14).upd u15 (fun e => ((hM13.ext e14).ne_t ((hb11.ext e13).ext e14) (by decide) (by decide)).2 (e ▸ hqm))
        have hit15 := ((hit11.ext e13).ext e14).upd u15 (hrps q hqm) (hpmps q hqm)
        have e015 := ((e011.trans e13).trans e14).upd u15 (hM13.lo q hqm)
        repeat' (first | ((show Gd _ _ _; first | with_reducible refine Gd.t ?_ | with_reducible refine Gd.f ?_ | with_reducible refine Gd.dec (fun _ => ?_) (fun _ => ?_) | with_reducible refine Gd.beq (fun _ => ?_) (fun _ => ?_) | with_reducible refine Gd.bne (fun _ => ?_) (fun _ => ?_) | with_reducible refine Gd.not ?_ | refine Gd.t ?_ | refine Gd.f ?_ | with_reducible refine Gd.var (fun _ => ?_) (fun _ => ?_)) <;> first | (exfalso; omega) | skip) | (first | (show Gd _ _ _; first | with_reducible refine Gd.t ?_ | with_reducible refine Gd.f ?_ | with_reducible refine Gd.dec (fun _ => ?_) (fun _ => ?_) | with_reducible refine Gd.beq (fun _ => ?_) (fun _ => ?_) | with_reducible refine Gd.bne (fun _ => ?_) (fun _ => ?_) | with_reducible refine Gd.not ?_ | refine Gd.t ?_ | refine Gd.f ?_ | with_reducible refine Gd.var (fun _ => ?_) (fun _ => ?_)) | (show Sq _ _ _; refine Sq.mk ?_) | (show Ld1 _ _ _; first | (apply Ld1.blk; (focus ((repeat (first | assumption | (apply Blk.from; assumption))); done)); rfl) | (apply Ld1.rsF; (focus ((repeat (first | assumption | (apply RdS.from; assumption))); done)); assumption; rfl) | (apply Ld1.rs; (focus ((repeat (first | assumption | (apply RdS.from; assumption))); done)); assumption; rfl)) | (show Ld _ _ _ _; first | (apply Ld.blk; (focus ((repeat (first | assumption | (apply Blk.from; assumption))); done)); rfl) | (apply Ld.rs; (focus ((repeat (first | assumption | (apply RdS.from; assumption))); done)); assumption)) | (show Ix _ _ _ _ _; first | (apply Ix.rs; (focus ((repeat (first | assumption | (apply RdS.from; assumption))); done)); (first | with_reducible rfl | assumption); (first | assumption | omega)) | (apply Ix.arr; (focus ((repeat (first | assumption | (apply RdS.from; assumption))); done)); (first | assumption | (simp; done)); (first | with_reducible rfl | assumption); (first | assumption | omega))) | (show Al _ _ _ _; refine Al.mk (fun _ _ _ _ _ _ => ?_)) | (show St _ _ _ _; apply St.new; assumption; assumption; assumption; rfl; rfl; intro _ _ _ _)))
        have hin2 : ∀ j ∈ ix ++ [i], j < mp.length := fun j hj => by
          rcases List.mem_append.1 hj with h | h
          · exact hin j h
          · simp at h; subst h; exact him
        have hnd2 : (ix ++ [i]).Nodup := by
          rw [List.nodup_append]
          exact ⟨hnd, by simp, fun a ha b hb => by simp at hb; subst hb; exact fun e => hni (e ▸ ha)⟩
        have hpg := pigeon mp.length _ hnd2 hin2
        rw [List.length_append, List.length_singleton] at hpg
        refine ⟨ix ++ [i], ⟨rfl, rfl, rfl, rfl, rfl, rfl, trivial⟩, rfl, ⟨hit15, hM15, e015, hb15, hin2, hnd2⟩, ?_⟩
        rw [List.length_append, List.length_singleton]
        omega
    · repeat' (first | ((show Gd _ _ _; first | with_reducible refine Gd.t ?_ | with_reducible refine Gd.f ?_ | with_reducible refine Gd.dec (fun _ => ?_) (fun _ => ?_) | with_reducible refine Gd.beq (fun _ => ?_) (fun _ => ?_) | with_reducible refine Gd.bne (fun _ => ?_) (fun _ => ?_) | with_reducible refine Gd.not ?_ | refine Gd.t ?_ | refine Gd.f ?_ | with_reducible refine Gd.var (fun _ => ?_) (fun _ => ?_)) <;> first | (exfalso; omega) | skip) | (first | (show Gd _ _ _; first | with_reducible refine Gd.t ?_ | with_reducible refine Gd.f ?_ | with_reducible refine Gd.dec (fun _ => ?_) (fun _ => ?_) | with_reducible refine Gd.beq (fun _ => ?_) (fun _ => ?_) | with_reducible refine Gd.bne (fun _ => ?_) (fun _ => ?_) | with_reducible refine Gd.not ?_ | refine Gd.t ?_ | refine Gd.f ?_ | with_reducible refine Gd.var (fun _ => ?_) (fun _ => ?_)) | (show Sq _ _ _; refine Sq.mk ?_) | (show Ld1 _ _ _; first | (apply Ld1.blk; (focus ((repeat (first | assumption | (apply Blk.from; assumption))); done)); rfl) | (apply Ld1.rsF; (focus ((repeat (first | assumption | (apply RdS.from; assumption))); done)); assumption; rfl) | (apply Ld1.rs; (focus ((repeat (first | assumption | (apply RdS.from; assumption))); done)); assumption; rfl)) | (show Ld _ _ _ _; first | (apply Ld.blk; (focus ((repeat (first | assumption | (apply Blk.from; assumption))); done)); rfl) | (apply Ld.rs; (focus ((repeat (first | assumption | (apply RdS.from; assumption))); done)); assumption)) | (show Ix _ _ _ _ _; first | (apply Ix.rs; (focus ((repeat (first | assumption | (apply RdS.from; assumption))); done)); (first | with_reducible rfl | assumption); (first | assumption | omega)) | (apply Ix.arr; (focus ((repeat (first | assumption | (apply RdS.from; assumption))); done)); (first | assumption | (simp; done)); (first | with_reducible rfl | assumption); (first | assumption | omega))) | (show Al _ _ _ _; refine Al.mk (fun _ _ _ _ _ _ => ?_)) | (show St _ _ _ _; apply St.new; assumption; assumption; assumption; rfl; rfl; intro _ _ _ _)))
      have : s = m := by omega
      subst this
      refine ⟨p, ps, rfl, hpl, hM.congr fun i' j hi' hj => ?_, e07⟩
      unfold partQ
      rw [if_pos hj]
theorem pFlow_no (f : Fn) (A : Option Addr) (c : Nat) (w : World) (hA : RdC w A f.code) (hG : RdG w) (hS : soundB f = false) :
    Cl Tryd.prog 17 #[f.v A c] w (fun v w' => v = .slice none 0 0 ∧ Ext w w') (fun _ _ => False) := by
  refine calls_ex (args := [f.v A c]) T.ok Tryd.func17 rfl rfl rfl rfl ?_
  repeat' (first | (first | (show Gd _ _ _; first | with_reducible refine Gd.t ?_ | with_reducible refine Gd.f ?_ | with_reducible refine Gd.dec (fun _ => ?_) (fun _ => ?_) | with_reducible refine Gd.beq (fun _ => ?_) (fun _ => ?_) | with_reducible refine Gd.bne (fun _ => ?_) (fun _ => ?_) | with_reducible refine Gd.not ?_ | refine Gd.t ?_ | refine Gd.f ?_ | with_reducible refine Gd.var (fun _ => ?_) (fun _ => ?_)) | (show Sq _ _ _; refine Sq.mk ?_) | (show Ld1 _ _ _; first | (apply Ld1.blk; (focus ((repeat (first | assumption | (apply Blk.from; assumption))); done)); rfl) | (apply Ld1.rsF; (focus ((repeat (first | assumption | (apply RdS.from; assumption))); done)); assumption; rfl) | (apply Ld1.rs; (focus ((repeat (first | assumption | (apply RdS.from; assumption))); done)); assumption; rfl)) | (show Ld _ _ _ _; first | (apply Ld.blk; (focus ((repeat (first | assumption | (apply Blk.from; assumption))); done)); rfl) | (apply Ld.rs; (focus ((repeat (first | assumption | (apply RdS.from; assumption))); done)); assumption)) | (show Ix _ _ _ _ _; first | (apply Ix.rs; (focus ((repeat (first | assumption | (apply RdS.from; assumption))); done)); (first | with_reducible rfl | assumption); (first | assumption | omega)) | (apply Ix.arr; (focus ((repeat (first | assumption | (apply RdS.from; assumption))); done)); (first | assumption | (simp; done)); (first | with_reducible rfl | assumption); (first | assumption | omega))) | (show Al _ _ _ _; refine Al.mk (fun _ _ _ _ _ _ => ?_)) | (show St _ _ _ _; apply St.new; assumption; assumption; assumption; rfl; rfl; intro _ _ _ _)) | (show Cl _ _ _ _ _ _; refine Cl.mk (sound_c _ _ _ _ (by (focus ((repeat (first | assumption | (apply RdS.from; assumption))); done))) (by (focus ((repeat (first | assumption | (apply RdS.from; assumption))); done)))) ?_; rintro _ _ ⟨rfl, _⟩))
  · simp_all
  · exact ⟨rfl, by (repeat (first | exact Ext.refl _ | assumption | (apply Ext.from; assumption)))⟩
theorem pFlow_yes (f : Fn) (A : Option Addr) (c m : Nat) (w : World) (hA : RdC w A f.code) (hG : RdG w) (hS : soundB f = true) (hm : f.slots = (m : Int)) (hm8 : m ≤ 8) :
    Cl Tryd.prog 17 #[f.v A c] w (IsRows f.code.length m (flwG f) w) (fun _ _ => False) := by
  refine calls_ex (args := [f.v A c]) T.ok Tryd.func17 rfl rfl rfl rfl ?_
  repeat' (first | (first | (show Gd _ _ _; first | with_reducible refine Gd.t ?_ | with_reducible refine Gd.f ?_ | with_reducible refine Gd.dec (fun _ => ?_) (fun _ => ?_) | with_reducible refine Gd.beq (fun _ => ?_) (fun _ => ?_) | with_reducible refine Gd.bne (fun _ => ?_) (fun _ => ?_) | with_reducible refine Gd.not ?_ | refine Gd.t ?_ | refine Gd.f ?_ | with_reducible refine Gd.var (fun _ => ?_) (fun _ => ?_)) | (show Sq _ _ _; refine Sq.mk ?_) | (show Ld1 _ _ _; first | (apply Ld1.blk; (focus ((repeat (first | assumption | (apply Blk.from; assumption))); done)); rfl) | (apply Ld1.rsF; (focus ((repeat (first | assumption | (apply RdS.from; assumption))); done)); assumption; rfl) | (apply Ld1.rs; (focus ((repeat (first | assumption | (apply RdS.from; assumption))); done)); assumption; rfl)) | (show Ld _ _ _ _; first | (apply Ld.blk; (focus ((repeat (first | assumption | (apply Blk.from; assumption))); done)); rfl) | (apply Ld.rs; (focus ((repeat (first | assumption | (apply RdS.from; assumption))); done)); assumption)) | (show Ix _ _ _ _ _; first | (apply Ix.rs; (focus ((repeat (first | assumption | (apply RdS.from; assumption))); done)); (first | with_reducible rfl | assumption); (first | assumption | omega)) | (apply Ix.arr; (focus ((repeat (first | assumption | (apply RdS.from; assumption))); done)); (first | assumption | (simp; done)); (first | with_reducible rfl | assumption); (first | assumption | omega))) | (show Al _ _ _ _; refine Al.mk (fun _ _ _ _ _ _ => ?_)) | (show St _ _ _ _; apply St.new; assumption; assumption; assumption; rfl; rfl; intro _ _ _ _)) | (show Cl _ _ _ _ _ _; refine Cl.mk (sound_c _ _ _ _ (by (focus ((repeat (first | assumption | (apply RdS.from; assumption))); done))) (by (focus ((repeat (first | assumption | (apply RdS.from; assumption))); done)))) ?_; rintro _ _ ⟨rfl, _⟩))
  rotate_left
  · simp_all
  rename_i w2 e2 _
  have e02 : Ext w w2 := by (repeat (first | exact Ext.refl _ | assumption | (apply Ext.from; assumption)))
  (show Cl _ _ _ _ _ _; refine Cl.mk (states_c f A c m _ (by (focus ((repeat (first | assumption | (apply RdS.from; assumption))); done))) (by (focus ((repeat (first | assumption | (apply RdS.from; assumption))); done))) hS hm hm8) ?_)
  rintro _ w3 ⟨p, ps, rfl, hl, hM, e3⟩
  exact ⟨p, ps, rfl, hl, ⟨hM.top, hM.le, hM.row, hM.nodup, fun q hq => Nat.le_trans e02.size (hM.lo q hq), Nat.le_trans e02.size hM.plo⟩, e02.trans e3⟩
end Go.Proofs.YtbbadmlekagloaaDoor
namespace Go.Proofs.YtbbadmlekagloaaDoor
open Go Go.Sh
attribute [local irreducible] Blk Ext RdS
theorem take_next {α : Type} {l m : List α} {i : Nat} (ht : l.take i = m.take i) {x : α} (hl : l[i]? = some x) (hm : m[i]? = some x) : l.take (i + 1) = m.take (i + 1) := by
  obtain ⟨h1, e1⟩ := List.getElem?_eq_some_iff.1 hl
  obtain ⟨h2, e2⟩ := List.getElem?_eq_some_iff.1 hm
  rw [List.take_succ_eq_append_getElem h1, List.take_succ_eq_append_getElem h2, ht, e1, e2]
theorem take_all {α : Type} {l m : List α} (hlm : l.length = m.length) (ht : l.take l.length = m.take l.length) : l = m := by
  rw [List.take_length] at ht
  rw [hlm, List.take_length] at ht
  exact ht
theorem sameRow_c (A B : Option Addr) (c d : Nat) (l m : List Int) (w : World) (h1 : RdS ints 1 w A l) (h2 : RdS ints 1 w B m) (hl : l.length ≤ 140737488355328) :
    Cl Tryd.prog 52 #[.slice A l.length c, .slice B m.length d] w (fun v w' => v = .bool (decide (l = m)) ∧ Ext w w') (fun _ _ => False) := by
  refine calls_ex (args := [.slice A l.length c, .slice B m.length d]) T.ok Tryd.func52 rfl rfl rfl rfl ?_
  repeat' (first | (show Gd _ _ _; first | with_reducible refine Gd.t ?_ | with_reducible refine Gd.f ?_ | with_reducible refine Gd.dec (fun _ => ?_) (fun _ => ?_) | with_reducible refine Gd.beq (fun _ => ?_) (fun _ => ?_) | with_reducible refine Gd.bne (fun _ => ?_) (fun _ => ?_) | with_reducible refine Gd.not ?_ | refine Gd.t ?_ | refine Gd.f ?_ | with_reducible refine Gd.var (fun _ => ?_) (fun _ => ?_)) | (show Sq _ _ _; refine Sq.mk ?_) | (show Ld1 _ _ _; first | (apply Ld1.blk; (focus ((repeat (first | assumption | (apply Blk.from; assumption))); done)); rfl) | (apply Ld1.rsF; (focus ((repeat (first | assumption | (apply RdS.from; assumption))); done)); assumption; rfl) | (apply Ld1.rs; (focus ((repeat (first | assumption | (apply RdS.from; assumption))); done)); assumption; rfl)) | (show Ld _ _ _ _; first | (apply Ld.blk; (focus ((repeat (first | assumption | (apply Blk.from; assumption))); done)); rfl) | (apply Ld.rs; (focus ((repeat (first | assumption | (apply RdS.from; assumption))); done)); assumption)) | (show Ix _ _ _ _ _; first | (apply Ix.rs; (focus ((repeat (first | assumption | (apply RdS.from; assumption))); done)); (first | with_reducible rfl | assumption); (first | assumption | omega)) | (apply Ix.arr; (focus ((repeat (first | assumption | (apply RdS.from; assumption))); done)); (first | assumption | (simp; done)); (first | with_reducible rfl | assumption); (first | assumption | omega))) | (show Al _ _ _ _; refine Al.mk (fun _ _ _ _ _ _ => ?_)) | (show St _ _ _ _; apply St.new; assumption; assumption; assumption; rfl; rfl; intro _ _ _ _))
  · rename_i hne
    have : l ≠ m := fun e => by subst e; exact hne rfl
    exact ⟨b_eq (by simp [this]), by (repeat (first | exact Ext.refl _ | assumption | (apply Ext.from; assumption)))⟩
  · rename_i he
    have hlm : l.length = m.length := by omega
    refine Lp.g0 T.ok (σ := Nat) (fun i => [(5, .int .i64 (i : Int)), (0, .slice A l.length c), (1, .slice B m.length d)])
      (fun i w' => i ≤ l.length ∧ l.take i = m.take i ∧ Ext w w') (fun i _ => l.length - i) 0 rfl ⟨rfl, rfl, rfl, trivial⟩ ⟨by omega, by simp, Ext.refl _⟩ ?_
    rintro i w1 ⟨hi, ht, e1⟩
    have h1 := RdS.from e1 h1
    have h2 := RdS.from e1 h2
    by_cases hlt : i < l.length
    · obtain ⟨x, hx⟩ : ∃ x, l[i]? = some x := ⟨_, List.getElem?_eq_getElem hlt⟩
      obtain ⟨y, hy⟩ : ∃ y, m[i]? = some y := ⟨_, List.getElem?_eq_getElem (by omega)⟩
      repeat' (first | ((show Gd _ _ _; first | with_reducible refine Gd.t ?_ | with_reducible refine Gd.f ?_ | with_reducible refine Gd.dec (fun _ => ?_) (fun _ => ?_) | with_reducible refine Gd.beq (fun _ => ?_) (fun _ => ?_) | with_reducible refine Gd.bne (fun _ => ?_) (fun _ => ?_) | with_reducible refine Gd.not ?_ | refine Gd.t ?_ | refine Gd.f ?_ | with_reducible refine Gd.var (fun _ => ?_) (fun _ => ?_)) <;> first | (exfalso; omega) | skip) | (first | (show Gd _ _ _; first | with_reducible refine Gd.t ?_ | with_reducible refine Gd.f ?_ | with_reducible refine Gd.dec (fun _ => ?_) (fun _ => ?_) | with_reducible refine Gd.beq (fun _ => ?_) (fun _ => ?_) | with_reducible refine Gd.bne (fun _ => ?_) (fun _ => ?_) | with_reducible refine Gd.not ?_ | refine Gd.t ?_ | refine Gd.f ?_ | with_reducible refine Gd.var (fun _ => ?_) (fun _ => ?_)) | (show Sq _ _ _; refine Sq.mk ?_) | (show Ld1 _ _ _; first | (apply Ld1.blk; (focus ((repeat (first | assumption | (apply Blk.from; assumption))); done)); rfl) | (apply Ld1.rsF; (focus ((repeat (first | assumption | (apply RdS.from; assumption))); done)); assumption; rfl) | (apply Ld1.rs; (focus ((repeat (first | assumption | (apply RdS.from; assumption))); done)); assumption; rfl)) | (show Ld _ _ _ _; first | (apply Ld.blk; (focus ((repeat (first | assumption | (apply Blk.from; assumption))); done)); rfl) | (apply Ld.rs; (focus ((repeat (first | assumption | (apply RdS.from; assumption))); done)); assumption)) | (show Ix _ _ _ _ _; first | (apply Ix.rs; (focus ((repeat (first | assumption | (apply RdS.from; assumption))); done)); (first | with_reducible rfl | assumption); (first | assumption | omega)) | (apply Ix.arr; (focus ((repeat (first | assumption | (apply RdS.from; assumption))); done)); (first | assumption | (simp; done)); (first | with_reducible rfl | assumption); (first | assumption | omega))) | (show Al _ _ _ _; refine Al.mk (fun _ _ _ _ _ _ => ?_)) | (show St _ _ _ _; apply St.new; assumption; assumption; assumption; rfl; rfl; intro _ _ _ _)))
      (show Dr _ _ _ _ _ _ _; refine Dr.quiet T.ok mixed (by kernel_rfl) (fun W hW => ?_))
      repeat' (first | (show Gd _ _ _; first | with_reducible refine Gd.t ?_ | with_reducible refine Gd.f ?_ | with_reducible refine Gd.dec (fun _ => ?_) (fun _ => ?_) | with_reducible refine Gd.beq (fun _ => ?_) (fun _ => ?_) | with_reducible refine Gd.bne (fun _ => ?_) (fun _ => ?_) | with_reducible refine Gd.not ?_ | refine Gd.t ?_ | refine Gd.f ?_ | with_reducible refine Gd.var (fun _ => ?_) (fun _ => ?_)) | (show QLd1 _ _ _; first | (apply QLd1.blk hW; (focus ((repeat (first | assumption | (apply Blk.from; assumption))); done)); rfl) | (apply QLd1.rsF hW; (focus ((repeat (first | assumption | (apply RdS.from; assumption))); done)); assumption; rfl) | (apply QLd1.rs hW; (focus ((repeat (first | assumption | (apply RdS.from; assumption))); done)); assumption; rfl)) | (show QLd _ _ _ _; first | (apply QLd.blk hW; (focus ((repeat (first | assumption | (apply Blk.from; assumption))); done)); rfl) | (apply QLd.rs hW; (focus ((repeat (first | assumption | (apply RdS.from; assumption))); done)); assumption)) | (show Ix _ _ _ _ _; first | (apply Ix.rs; (focus ((repeat (first | assumption | (apply RdS.from; assumption))); done)); (first | with_reducible rfl | assumption); (first | assumption | omega)) | (apply Ix.arr; (focus ((repeat (first | assumption | (apply RdS.from; assumption))); done)); (first | assumption | (simp; done)); (first | with_reducible rfl | assumption); (first | assumption | omega))))
      intro w2 e2
      repeat' (first | ((show Gd _ _ _; first | with_reducible refine Gd.t ?_ | with_reducible refine Gd.f ?_ | with_reducible refine Gd.dec (fun _ => ?_) (fun _ => ?_) | with_reducible refine Gd.beq (fun _ => ?_) (fun _ => ?_) | with_reducible refine Gd.bne (fun _ => ?_) (fun _ => ?_) | with_reducible refine Gd.not ?_ | refine Gd.t ?_ | refine Gd.f ?_ | with_reducible refine Gd.var (fun _ => ?_) (fun _ => ?_)) <;> first | (exfalso; omega) | skip) | (first | (show Gd _ _ _; first | with_reducible refine Gd.t ?_ | with_reducible refine Gd.f ?_ | with_reducible refine Gd.dec (fun _ => ?_) (fun _ => ?_) | with_reducible refine Gd.beq (fun _ => ?_) (fun _ => ?_) | with_reducible refine Gd.bne (fun _ => ?_) (fun _ => ?_) | with_reducible refine Gd.not ?_ | refine Gd.t ?_ | refine Gd.f ?_ | with_reducible refine Gd.var (fun _ => ?_) (fun _ => ?_)) | (show Sq _ _ _; refine Sq.mk ?_) | (show Ld1 _ _ _; first | (apply Ld1.blk; (focus ((repeat (first | assumption | (apply Blk.from; assumption))); done)); rfl) | (apply Ld1.rsF; (focus ((repeat (first | assumption | (apply RdS.from; assumption))); done)); assumption; rfl) | (apply Ld1.rs; (focus ((repeat (first | assumption | (apply RdS.from; assumption))); done)); assumption; rfl)) | (show Ld _ _ _ _; first | (apply Ld.blk; (focus ((repeat (first | assumption | (apply Blk.from; assumption))); done)); rfl) | (apply Ld.rs; (focus ((repeat (first | assumption | (apply RdS.from; assumption))); done)); assumption)) | (show Ix _ _ _ _ _; first | (apply Ix.rs; (focus ((repeat (first | assumption | (apply RdS.from; assumption))); done)); (first | with_reducible rfl | assumption); (first | assumption | omega)) | (apply Ix.arr; (focus ((repeat (first | assumption | (apply RdS.from; assumption))); done)); (first | assumption | (simp; done)); (first | with_reducible rfl | assumption); (first | assumption | omega))) | (show Al _ _ _ _; refine Al.mk (fun _ _ _ _ _ _ => ?_)) | (show St _ _ _ _; apply St.new; assumption; assumption; assumption; rfl; rfl; intro _ _ _ _)))
      · rename_i hne
        have : l ≠ m := fun e => by subst e; rw [hx] at hy; simp at hy; exact hne hy
        exact ⟨b_eq (by simp [this]), by (repeat (first | exact Ext.refl _ | assumption | (apply Ext.from; assumption)))⟩
      · rename_i he
        subst he
        exact ⟨i + 1, ⟨at_int (m := ((i + 1 : Nat) : Int)) rfl (w64 (by simp) (by omega) (by omega)), rfl, rfl, trivial⟩, rfl, ⟨by omega, take_next ht hx hy, e1.trans e2⟩, by omega⟩
    · repeat' (first | ((show Gd _ _ _; first | with_reducible refine Gd.t ?_ | with_reducible refine Gd.f ?_ | with_reducible refine Gd.dec (fun _ => ?_) (fun _ => ?_) | with_reducible refine Gd.beq (fun _ => ?_) (fun _ => ?_) | with_reducible refine Gd.bne (fun _ => ?_) (fun _ => ?_) | with_reducible refine Gd.not ?_ | refine Gd.t ?_ | refine Gd.f ?_ | with_reducible refine Gd.var (fun _ => ?_) (fun _ => ?_)) <;> first | (exfalso; omega) | skip) | (first | (show Gd _ _ _; first | with_reducible refine Gd.t ?_ | with_reducible refine Gd.f ?_ | with_reducible refine Gd.dec (fun _ => ?_) (fun _ => ?_) | with_reducible refine Gd.beq (fun _ => ?_) (fun _ => ?_) | with_reducible refine Gd.bne (fun _ => ?_) (fun _ => ?_) | with_reducible refine Gd.not ?_ | refine Gd.t ?_ | refine Gd.f ?_ | with_reducible refine Gd.var (fun _ => ?_) (fun _ => ?_)) | (show Sq _ _ _; refine Sq.mk ?_) | (show Ld1 _ _ _; first | (apply Ld1.blk; (focus ((repeat (first | assumption | (apply Blk.from; assumption))); done)); rfl) | (apply Ld1.rsF; (focus ((repeat (first | assumption | (apply RdS.from; assumption))); done)); assumption; rfl) | (apply Ld1.rs; (focus ((repeat (first | assumption | (apply RdS.from; assumption))); done)); assumption; rfl)) | (show Ld _ _ _ _; first | (apply Ld.blk; (focus ((repeat (first | assumption | (apply Blk.from; assumption))); done)); rfl) | (apply Ld.rs; (focus ((repeat (first | assumption | (apply RdS.from; assumption))); done)); assumption)) | (show Ix _ _ _ _ _; first | (apply Ix.rs; (focus ((repeat (first | assumption | (apply RdS.from; assumption))); done)); (first | with_reducible rfl | assumption); (first | assumption | omega)) | (apply Ix.arr; (focus ((repeat (first | assumption | (apply RdS.from; assumption))); done)); (first | assumption | (simp; done)); (first | with_reducible rfl | assumption); (first | assumption | omega))) | (show Al _ _ _ _; refine Al.mk (fun _ _ _ _ _ _ => ?_)) | (show St _ _ _ _; apply St.new; assumption; assumption; assumption; rfl; rfl; intro _ _ _ _)))
      have hi : i = l.length := by omega
      subst hi
      have := take_all hlm ht
      exact ⟨b_eq (by simp [this]), by (repeat (first | exact Ext.refl _ | assumption | (apply Ext.from; assumption)))⟩
theorem sameWords_c (A B : Option Addr) (c d : Nat) (l m : List Int) (w : World) (h1 : RdS ints 1 w A l) (h2 : RdS ints 1 w B m) (hl : l.length ≤ 140737488355328) :
    Cl Tryd.prog 41 #[.slice A l.length c, .slice B m.length d] w (fun v w' => v = .bool (decide (l = m)) ∧ Ext w w') (fun _ _ => False) := by
  refine calls_ex (args := [.slice A l.length c, .slice B m.length d]) T.ok Tryd.func41 rfl rfl rfl rfl ?_
  repeat' (first | (show Gd _ _ _; first | with_reducible refine Gd.t ?_ | with_reducible refine Gd.f ?_ | with_reducible refine Gd.dec (fun _ => ?_) (fun _ => ?_) | with_reducible refine Gd.beq (fun _ => ?_) (fun _ => ?_) | with_reducible refine Gd.bne (fun _ => ?_) (fun _ => ?_) | with_reducible refine Gd.not ?_ | refine Gd.t ?_ | refine Gd.f ?_ | with_reducible refine Gd.var (fun _ => ?_) (fun _ => ?_)) | (show Sq _ _ _; refine Sq.mk ?_) | (show Ld1 _ _ _; first | (apply Ld1.blk; (focus ((repeat (first | assumption | (apply Blk.from; assumption))); done)); rfl) | (apply Ld1.rsF; (focus ((repeat (first | assumption | (apply RdS.from; assumption))); done)); assumption; rfl) | (apply Ld1.rs; (focus ((repeat (first | assumption | (apply RdS.from; assumption))); done)); assumption; rfl)) | (show Ld _ _ _ _; first | (apply Ld.blk; (focus ((repeat (first | assumption | (apply Blk.from; assumption))); done)); rfl) | (apply Ld.rs; (focus ((repeat (first | assumption | (apply RdS.from; assumption))); done)); assumption)) | (show Ix _ _ _ _ _; first | (apply Ix.rs; (focus ((repeat (first | assumption | (apply RdS.from; assumption))); done)); (first | with_reducible rfl | assumption); (first | assumption | omega)) | (apply Ix.arr; (focus ((repeat (first | assumption | (apply RdS.from; assumption))); done)); (first | assumption | (simp; done)); (first | with_reducible rfl | assumption); (first | assumption | omega))) | (show Al _ _ _ _; refine Al.mk (fun _ _ _ _ _ _ => ?_)) | (show St _ _ _ _; apply St.new; assumption; assumption; assumption; rfl; rfl; intro _ _ _ _))
  · rename_i hne
    have : l ≠ m := fun e => by subst e; exact hne rfl
    exact ⟨b_eq (by simp [this]), by (repeat (first | exact Ext.refl _ | assumption | (apply Ext.from; assumption)))⟩
  · rename_i he
    have hlm : l.length = m.length := by omega
    refine Lp.g0 T.ok (σ := Nat) (fun i => [(5, .int .i64 (i : Int)), (0, .slice A l.length c), (1, .slice B m.length d)])
      (fun i w' => i ≤ l.length ∧ l.take i = m.take i ∧ Ext w w') (fun i _ => l.length - i) 0 rfl ⟨rfl, rfl, rfl, trivial⟩ ⟨by omega, by simp, Ext.refl _⟩ ?_
    rintro i w1 ⟨hi, ht, e1⟩
    have h1 := RdS.from e1 h1
    have h2 := RdS.from e1 h2
    by_cases hlt : i < l.length
    · obtain ⟨x, hx⟩ : ∃ x, l[i]? = some x := ⟨_, List.getElem?_eq_getElem hlt⟩
      obtain ⟨y, hy⟩ : ∃ y, m[i]? = some y := ⟨_, List.getElem?_eq_getElem (by omega)⟩
      repeat' (first | ((show Gd _ _ _; first | with_reducible refine Gd.t ?_ | with_reducible refine Gd.f ?_ | with_reducible refine Gd.dec (fun _ => ?_) (fun _ => ?_) | with_reducible refine Gd.beq (fun _ => ?_) (fun _ => ?_) | with_reducible refine Gd.bne (fun _ => ?_) (fun _ => ?_) | with_reducible refine Gd.not ?_ | refine Gd.t ?_ | refine Gd.f ?_ | with_reducible refine Gd.var (fun _ => ?_) (fun _ => ?_)) <;> first | (exfalso; omega) | skip) | (first | (show Gd _ _ _; first | with_reducible refine Gd.t ?_ | with_reducible refine Gd.f ?_ | with_reducible refine Gd.dec (fun _ => ?_) (fun _ => ?_) | with_reducible refine Gd.beq (fun _ => ?_) (fun _ => ?_) | with_reducible refine Gd.bne (fun _ => ?_) (fun _ => ?_) | with_reducible refine Gd.not ?_ | refine Gd.t ?_ | refine Gd.f ?_ | with_reducible refine Gd.var (fun _ => ?_) (fun _ => ?_)) | (show Sq _ _ _; refine Sq.mk ?_) | (show Ld1 _ _ _; first | (apply Ld1.blk; (focus ((repeat (first | assumption | (apply Blk.from; assumption))); done)); rfl) | (apply Ld1.rsF; (focus ((repeat (first | assumption | (apply RdS.from; assumption))); done)); assumption; rfl) | (apply Ld1.rs; (focus ((repeat (first | assumption | (apply RdS.from; assumption))); done)); assumption; rfl)) | (show Ld _ _ _ _; first | (apply Ld.blk; (focus ((repeat (first | assumption | (apply Blk.from; assumption))); done)); rfl) | (apply Ld.rs; (focus ((repeat (first | assumption | (apply RdS.from; assumption))); done)); assumption)) | (show Ix _ _ _ _ _; first | (apply Ix.rs; (focus ((repeat (first | assumption | (apply RdS.from; assumption))); done)); (first | with_reducible rfl | assumption); (first | assumption | omega)) | (apply Ix.arr; (focus ((repeat (first | assumption | (apply RdS.from; assumption))); done)); (first | assumption | (simp; done)); (first | with_reducible rfl | assumption); (first | assumption | omega))) | (show Al _ _ _ _; refine Al.mk (fun _ _ _ _ _ _ => ?_)) | (show St _ _ _ _; apply St.new; assumption; assumption; assumption; rfl; rfl; intro _ _ _ _)))
      (show Dr _ _ _ _ _ _ _; refine Dr.quiet T.ok mixed (by kernel_rfl) (fun W hW => ?_))
      repeat' (first | (show Gd _ _ _; first | with_reducible refine Gd.t ?_ | with_reducible refine Gd.f ?_ | with_reducible refine Gd.dec (fun _ => ?_) (fun _ => ?_) | with_reducible refine Gd.beq (fun _ => ?_) (fun _ => ?_) | with_reducible refine Gd.bne (fun _ => ?_) (fun _ => ?_) | with_reducible refine Gd.not ?_ | refine Gd.t ?_ | refine Gd.f ?_ | with_reducible refine Gd.var (fun _ => ?_) (fun _ => ?_)) | (show QLd1 _ _ _; first | (apply QLd1.blk hW; (focus ((repeat (first | assumption | (apply Blk.from; assumption))); done)); rfl) | (apply QLd1.rsF hW; (focus ((repeat (first | assumption | (apply RdS.from; assumption))); done)); assumption; rfl) | (apply QLd1.rs hW; (focus ((repeat (first | assumption | (apply RdS.from; assumption))); done)); assumption; rfl)) | (show QLd _ _ _ _; first | (apply QLd.blk hW; (focus ((repeat (first | assumption | (apply Blk.from; assumption))); done)); rfl) | (apply QLd.rs hW; (focus ((repeat (first | assumption | (apply RdS.from; assumption))); done)); assumption)) | (show Ix _ _ _ _ _; first | (apply Ix.rs; (focus ((repeat (first | assumption | (apply RdS.from; assumption))); done)); (first | with_reducible rfl | assumption); (first | assumption | omega)) | (apply Ix.arr; (focus ((repeat (first | assumption | (apply RdS.from; assumption))); done)); (first | assumption | (simp; done)); (first | with_reducible rfl | assumption); (first | assumption | omega))))
      intro w2 e2
      repeat' (first | ((show Gd _ _ _; first | with_reducible refine Gd.t ?_ | with_reducible refine Gd.f ?_ | with_reducible refine Gd.dec (fun _ => ?_) (fun _ => ?_) | with_reducible refine Gd.beq (fun _ => ?_) (fun _ => ?_) | with_reducible refine Gd.bne (fun _ => ?_) (fun _ => ?_) | with_reducible refine Gd.not ?_ | refine Gd.t ?_ | refine Gd.f ?_ | with_reducible refine Gd.var (fun _ => ?_) (fun _ => ?_)) <;> first | (exfalso; omega) | skip) | (first | (show Gd _ _ _; first | with_reducible refine Gd.t ?_ | with_reducible refine Gd.f ?_ | with_reducible refine Gd.dec (fun _ => ?_) (fun _ => ?_) | with_reducible refine Gd.beq (fun _ => ?_) (fun _ => ?_) | with_reducible refine Gd.bne (fun _ => ?_) (fun _ => ?_) | with_reducible refine Gd.not ?_ | refine Gd.t ?_ | refine Gd.f ?_ | with_reducible refine Gd.var (fun _ => ?_) (fun _ => ?_)) | (show Sq _ _ _; refine Sq.mk ?_) | (show Ld1 _ _ _; first | (apply Ld1.blk; (focus ((repeat (first | assumption | (apply Blk.from; assumption))); done)); rfl) | (apply Ld1.rsF; (focus ((repeat (first | assumption | (apply RdS.from; assumption))); done)); assumption; rfl) | (apply Ld1.rs; (focus ((repeat (first | assumption | (apply RdS.from; assumption))); done)); assumption; rfl)) | (show Ld _ _ _ _; first | (apply Ld.blk; (focus ((repeat (first | assumption | (apply Blk.from; assumption))); done)); rfl) | (apply Ld.rs; (focus ((repeat (first | assumption | (apply RdS.from; assumption))); done)); assumption)) | (show Ix _ _ _ _ _; first | (apply Ix.rs; (focus ((repeat (first | assumption | (apply RdS.from; assumption))); done)); (first | with_reducible rfl | assumption); (first | assumption | omega)) | (apply Ix.arr; (focus ((repeat (first | assumption | (apply RdS.from; assumption))); done)); (first | assumption | (simp; done)); (first | with_reducible rfl | assumption); (first | assumption | omega))) | (show Al _ _ _ _; refine Al.mk (fun _ _ _ _ _ _ => ?_)) | (show St _ _ _ _; apply St.new; assumption; assumption; assumption; rfl; rfl; intro _ _ _ _)))
      · rename_i hne
        have : l ≠ m := fun e => by subst e; rw [hx] at hy; simp at hy; exact hne hy
        exact ⟨b_eq (by simp [this]), by (repeat (first | exact Ext.refl _ | assumption | (apply Ext.from; assumption)))⟩
      · rename_i he
        subst he
        exact ⟨i + 1, ⟨at_int (m := ((i + 1 : Nat) : Int)) rfl (w64 (by simp) (by omega) (by omega)), rfl, rfl, trivial⟩, rfl, ⟨by omega, take_next ht hx hy, e1.trans e2⟩, by omega⟩
    · repeat' (first | ((show Gd _ _ _; first | with_reducible refine Gd.t ?_ | with_reducible refine Gd.f ?_ | with_reducible refine Gd.dec (fun _ => ?_) (fun _ => ?_) | with_reducible refine Gd.beq (fun _ => ?_) (fun _ => ?_) | with_reducible refine Gd.bne (fun _ => ?_) (fun _ => ?_) | with_reducible refine Gd.not ?_ | refine Gd.t ?_ | refine Gd.f ?_ | with_reducible refine Gd.var (fun _ => ?_) (fun _ => ?_)) <;> first | (exfalso; omega) | skip) | (first | (show Gd _ _ _; first | with_reducible refine Gd.t ?_ | with_reducible refine Gd.f ?_ | with_reducible refine Gd.dec (fun _ => ?_) (fun _ => ?_) | with_reducible refine Gd.beq (fun _ => ?_) (fun _ => ?_) | with_reducible refine Gd.bne (fun _ => ?_) (fun _ => ?_) | with_reducible refine Gd.not ?_ | refine Gd.t ?_ | refine Gd.f ?_ | with_reducible refine Gd.var (fun _ => ?_) (fun _ => ?_)) | (show Sq _ _ _; refine Sq.mk ?_) | (show Ld1 _ _ _; first | (apply Ld1.blk; (focus ((repeat (first | assumption | (apply Blk.from; assumption))); done)); rfl) | (apply Ld1.rsF; (focus ((repeat (first | assumption | (apply RdS.from; assumption))); done)); assumption; rfl) | (apply Ld1.rs; (focus ((repeat (first | assumption | (apply RdS.from; assumption))); done)); assumption; rfl)) | (show Ld _ _ _ _; first | (apply Ld.blk; (focus ((repeat (first | assumption | (apply Blk.from; assumption))); done)); rfl) | (apply Ld.rs; (focus ((repeat (first | assumption | (apply RdS.from; assumption))); done)); assumption)) | (show Ix _ _ _ _ _; first | (apply Ix.rs; (focus ((repeat (first | assumption | (apply RdS.from; assumption))); done)); (first | with_reducible rfl | assumption); (first | assumption | omega)) | (apply Ix.arr; (focus ((repeat (first | assumption | (apply RdS.from; assumption))); done)); (first | assumption | (simp; done)); (first | with_reducible rfl | assumption); (first | assumption | omega))) | (show Al _ _ _ _; refine Al.mk (fun _ _ _ _ _ _ => ?_)) | (show St _ _ _ _; apply St.new; assumption; assumption; assumption; rfl; rfl; intro _ _ _ _)))
      have hi : i = l.length := by omega
      subst hi
      have := take_all hlm ht
      exact ⟨b_eq (by simp [this]), by (repeat (first | exact Ext.refl _ | assumption | (apply Ext.from; assumption)))⟩
/-- rows of numbers that can be read -/
def Nest (w : World) (A : Option Addr) (ls : List (List Int)) : Prop := ∃ cs : List Value, RdS vals 1 w A cs ∧ cs.length = ls.length ∧ ∀ (i : Nat) (l : List Int), ls[i]? = some l → l.length ≤ 140737488355328 ∧ ∃ (B : Option Addr) (c : Nat), cs[i]? = some (Value.slice B l.length c) ∧ RdS ints 1 w B l
theorem Nest.ext {w w' : World} {A : Option Addr} {ls : List (List Int)} (h : Nest w A ls) (e : Ext w w') : Nest w' A ls := by
  obtain ⟨cs, h1, h2, h3⟩ := h
  refine ⟨cs, RdS.from e h1, h2, fun i l hl => ?_⟩
  obtain ⟨h4, B, c, h5, h6⟩ := h3 i l hl
  exact ⟨h4, B, c, h5, RdS.from e h6⟩
theorem sameRows_c (A B : Option Addr) (c d : Nat) (l m : List (List Int)) (w : World) (h1 : Nest w A l) (h2 : Nest w B m) (hl : l.length ≤ 140737488355328) :
    Cl Tryd.prog 18 #[.slice A l.length c, .slice B m.length d] w (fun v w' => v = .bool (decide (l = m)) ∧ Ext w w') (fun _ _ => False) := by
  refine calls_ex (args := [.slice A l.length c, .slice B m.length d]) T.ok Tryd.func18 rfl rfl rfl rfl ?_
  repeat' (first | (show Gd _ _ _; first | with_reducible refine Gd.t ?_ | with_reducible refine Gd.f ?_ | with_reducible refine Gd.dec (fun _ => ?_) (fun _ => ?_) | with_reducible refine Gd.beq (fun _ => ?_) (fun _ => ?_) | with_reducible refine Gd.bne (fun _ => ?_) (fun _ => ?_) | with_reducible refine Gd.not ?_ | refine Gd.t ?_ | refine Gd.f ?_ | with_reducible refine Gd.var (fun _ => ?_) (fun _ => ?_)) | (show Sq _ _ _; refine Sq.mk ?_) | (show Ld1 _ _ _; first | (apply Ld1.blk; (focus ((repeat (first | assumption | (apply Blk.from; assumption))); done)); rfl) | (apply Ld1.rsF; (focus ((repeat (first | assumption | (apply RdS.from; assumption))); done)); assumption; rfl) | (apply Ld1.rs; (focus ((repeat (first | assumption | (apply RdS.from; assumption))); done)); assumption; rfl)) | (show Ld _ _ _ _; first | (apply Ld.blk; (focus ((repeat (first | assumption | (apply Blk.from; assumption))); done)); rfl) | (apply Ld.rs; (focus ((repeat (first | assumption | (apply RdS.from; assumption))); done)); assumption)) | (show Ix _ _ _ _ _; first | (apply Ix.rs; (focus ((repeat (first | assumption | (apply RdS.from; assumption))); done)); (first | with_reducible rfl | assumption); (first | assumption | omega)) | (apply Ix.arr; (focus ((repeat (first | assumption | (apply RdS.from; assumption))); done)); (first | assumption | (simp; done)); (first | with_reducible rfl | assumption); (first | assumption | omega))) | (show Al _ _ _ _; refine Al.mk (fun _ _ _ _ _ _ => ?_)) | (show St _ _ _ _; apply St.new; assumption; assumption; assumption; rfl; rfl; intro _ _ _ _))
  · rename_i hne
    have : l ≠ m := fun e => by subst e; exact hne rfl
    exact ⟨b_eq (by simp [this]), by (repeat (first | exact Ext.refl _ | assumption | (apply Ext.from; assumption)))⟩
  · rename_i he
    have hlm : l.length = m.length := by omega
    refine Lp.g0 T.ok (σ := Nat) (fun i => [(5, .int .i64 (i : Int)), (0, .slice A l.length c), (1, .slice B m.length d)])
      (fun i w' => i ≤ l.length ∧ l.take i = m.take i ∧ Ext w w') (fun i _ => l.length - i) 0 rfl ⟨rfl, rfl, rfl, trivial⟩ ⟨by omega, by simp, Ext.refl _⟩ ?_
    rintro i w1 ⟨hi, ht, e1⟩
    obtain ⟨cs, h3, h4, h5⟩ := h1.ext e1
    obtain ⟨ds, k3, k4, k5⟩ := h2.ext e1
    by_cases hlt : i < l.length
    · obtain ⟨x, hx⟩ : ∃ x, l[i]? = some x := ⟨_, List.getElem?_eq_getElem hlt⟩
      obtain ⟨y, hy⟩ : ∃ y, m[i]? = some y := ⟨_, List.getElem?_eq_getElem (by omega)⟩
      obtain ⟨hxl, Bx, cx, hcx, hrx⟩ := h5 i x hx
      obtain ⟨_, By, cy, hcy, hry⟩ := k5 i y hy
      repeat' (first | ((show Gd _ _ _; first | with_reducible refine Gd.t ?_ | with_reducible refine Gd.f ?_ | with_reducible refine Gd.dec (fun _ => ?_) (fun _ => ?_) | with_reducible refine Gd.beq (fun _ => ?_) (fun _ => ?_) | with_reducible refine Gd.bne (fun _ => ?_) (fun _ => ?_) | with_reducible refine Gd.not ?_ | refine Gd.t ?_ | refine Gd.f ?_ | with_reducible refine Gd.var (fun _ => ?_) (fun _ => ?_)) <;> first | (exfalso; omega) | skip) | (first | (show Gd _ _ _; first | with_reducible refine Gd.t ?_ | with_reducible refine Gd.f ?_ | with_reducible refine Gd.dec (fun _ => ?_) (fun _ => ?_) | with_reducible refine Gd.beq (fun _ => ?_) (fun _ => ?_) | with_reducible refine Gd.bne (fun _ => ?_) (fun _ => ?_) | with_reducible refine Gd.not ?_ | refine Gd.t ?_ | refine Gd.f ?_ | with_reducible refine Gd.var (fun _ => ?_) (fun _ => ?_)) | (show Sq _ _ _; refine Sq.mk ?_) | (show Ld1 _ _ _; first | (apply Ld1.blk; (focus ((repeat (first | assumption | (apply Blk.from; assumption))); done)); rfl) | (apply Ld1.rsF; (focus ((repeat (first | assumption | (apply RdS.from; assumption))); done)); assumption; rfl) | (apply Ld1.rs; (focus ((repeat (first | assumption | (apply RdS.from; assumption))); done)); assumption; rfl)) | (show Ld _ _ _ _; first | (apply Ld.blk; (focus ((repeat (first | assumption | (apply Blk.from; assumption))); done)); rfl) | (apply Ld.rs; (focus ((repeat (first | assumption | (apply RdS.from; assumption))); done)); assumption)) | (show Ix _ _ _ _ _; first | (apply Ix.rs; (focus ((repeat (first | assumption | (apply RdS.from; assumption))); done)); (first | with_reducible rfl | assumption); (first | assumption | omega)) | (apply Ix.arr; (focus ((repeat (first | assumption | (apply RdS.from; assumption))); done)); (first | assumption | (simp; done)); (first | with_reducible rfl | assumption); (first | assumption | omega))) | (show Al _ _ _ _; refine Al.mk (fun _ _ _ _ _ _ => ?_)) | (show St _ _ _ _; apply St.new; assumption; assumption; assumption; rfl; rfl; intro _ _ _ _)))
      (show Dr _ _ _ _ _ _ _; refine Dr.quiet T.ok mixed (by kernel_rfl) (fun W hW => ?_))
      repeat' (first | (first | (show Gd _ _ _; first | with_reducible refine Gd.t ?_ | with_reducible refine Gd.f ?_ | with_reducible refine Gd.dec (fun _ => ?_) (fun _ => ?_) | with_reducible refine Gd.beq (fun _ => ?_) (fun _ => ?_) | with_reducible refine Gd.bne (fun _ => ?_) (fun _ => ?_) | with_reducible refine Gd.not ?_ | refine Gd.t ?_ | refine Gd.f ?_ | with_reducible refine Gd.var (fun _ => ?_) (fun _ => ?_)) | (show QLd1 _ _ _; first | (apply QLd1.blk hW; (focus ((repeat (first | assumption | (apply Blk.from; assumption))); done)); rfl) | (apply QLd1.rsF hW; (focus ((repeat (first | assumption | (apply RdS.from; assumption))); done)); assumption; rfl) | (apply QLd1.rs hW; (focus ((repeat (first | assumption | (apply RdS.from; assumption))); done)); assumption; rfl)) | (show QLd _ _ _ _; first | (apply QLd.blk hW; (focus ((repeat (first | assumption | (apply Blk.from; assumption))); done)); rfl) | (apply QLd.rs hW; (focus ((repeat (first | assumption | (apply RdS.from; assumption))); done)); assumption)) | (show Ix _ _ _ _ _; first | (apply Ix.rs; (focus ((repeat (first | assumption | (apply RdS.from; assumption))); done)); (first | with_reducible rfl | assumption); (first | assumption | omega)) | (apply Ix.arr; (focus ((repeat (first | assumption | (apply RdS.from; assumption))); done)); (first | assumption | (simp; done)); (first | with_reducible rfl | assumption); (first | assumption | omega)))) | (show QCl _ _ _ _ _ _; refine QCl.mk hW (fun _ _ => Cl.mk (sameRow_c _ _ _ _ _ _ _ (by (focus ((repeat (first | assumption | (apply RdS.from; assumption))); done))) (by (focus ((repeat (first | assumption | (apply RdS.from; assumption))); done))) hxl) (fun _ _ h => h)) ?_))
      intro w2 e2
      repeat' (first | ((show Gd _ _ _; first | with_reducible refine Gd.t ?_ | with_reducible refine Gd.f ?_ | with_reducible refine Gd.dec (fun _ => ?_) (fun _ => ?_) | with_reducible refine Gd.beq (fun _ => ?_) (fun _ => ?_) | with_reducible refine Gd.bne (fun _ => ?_) (fun _ => ?_) | with_reducible refine Gd.not ?_ | refine Gd.t ?_ | refine Gd.f ?_ | with_reducible refine Gd.var (fun _ => ?_) (fun _ => ?_)) <;> first | (exfalso; omega) | skip) | (first | (show Gd _ _ _; first | with_reducible refine Gd.t ?_ | with_reducible refine Gd.f ?_ | with_reducible refine Gd.dec (fun _ => ?_) (fun _ => ?_) | with_reducible refine Gd.beq (fun _ => ?_) (fun _ => ?_) | with_reducible refine Gd.bne (fun _ => ?_) (fun _ => ?_) | with_reducible refine Gd.not ?_ | refine Gd.t ?_ | refine Gd.f ?_ | with_reducible refine Gd.var (fun _ => ?_) (fun _ => ?_)) | (show Sq _ _ _; refine Sq.mk ?_) | (show Ld1 _ _ _; first | (apply Ld1.blk; (focus ((repeat (first | assumption | (apply Blk.from; assumption))); done)); rfl) | (apply Ld1.rsF; (focus ((repeat (first | assumption | (apply RdS.from; assumption))); done)); assumption; rfl) | (apply Ld1.rs; (focus ((repeat (first | assumption | (apply RdS.from; assumption))); done)); assumption; rfl)) | (show Ld _ _ _ _; first | (apply Ld.blk; (focus ((repeat (first | assumption | (apply Blk.from; assumption))); done)); rfl) | (apply Ld.rs; (focus ((repeat (first | assumption | (apply RdS.from; assumption))); done)); assumption)) | (show Ix _ _ _ _ _; first | (apply Ix.rs; (focus ((repeat (first | assumption | (apply RdS.from; assumption))); done)); (first | with_reducible rfl | assumption); (first | assumption | omega)) | (apply Ix.arr; (focus ((repeat (first | assumption | (apply RdS.from; assumption))); done)); (first | assumption | (simp; done)); (first | with_reducible rfl | assumption); (first | assumption | omega))) | (show Al _ _ _ _; refine Al.mk (fun _ _ _ _ _ _ => ?_)) | (show St _ _ _ _; apply St.new; assumption; assumption; assumption; rfl; rfl; intro _ _ _ _)))
      · rename_i he
        have he : x = y := by simpa using he
        subst he
        exact ⟨i + 1, ⟨at_int (m := ((i + 1 : Nat) : Int)) rfl (w64 (by simp) (by omega) (by omega)), rfl, rfl, trivial⟩, rfl, ⟨by omega, take_next ht hx hy, e1.trans e2⟩, by omega⟩
      · rename_i hne
        have hne : x ≠ y := by simpa using hne
        have : l ≠ m := fun e => by subst e; rw [hx] at hy; simp at hy; exact hne hy
        exact ⟨b_eq (by simp [this]), by (repeat (first | exact Ext.refl _ | assumption | (apply Ext.from; assumption)))⟩
    · repeat' (first | ((show Gd _ _ _; first | with_reducible refine Gd.t ?_ | with_reducible refine Gd.f ?_ | with_reducible refine Gd.dec (fun _ => ?_) (fun _ => ?_) | with_reducible refine Gd.beq (fun _ => ?_) (fun _ => ?_) | with_reducible refine Gd.bne (fun _ => ?_) (fun _ => ?_) | with_reducible refine Gd.not ?_ | refine Gd.t ?_ | refine Gd.f ?_ | with_reducible refine Gd.var (fun _ => ?_) (fun _ => ?_)) <;> first | (exfalso; omega) | skip) | (first | (show Gd _ _ _; first | with_reducible refine Gd.t ?_ | with_reducible refine Gd.f ?_ | with_reducible refine Gd.dec (fun _ => ?_) (fun _ => ?_) | with_reducible refine Gd.beq (fun _ => ?_) (fun _ => ?_) | with_reducible refine Gd.bne (fun _ => ?_) (fun _ => ?_) | with_reducible refine Gd.not ?_ | refine Gd.t ?_ | refine Gd.f ?_ | with_reducible refine Gd.var (fun _ => ?_) (fun _ => ?_)) | (show Sq _ _ _; refine Sq.mk ?_) | (show Ld1 _ _ _; first | (apply Ld1.blk; (focus ((repeat (first | assumption | (apply Blk.from; assumption))); done)); rfl) | (apply Ld1.rsF; (focus ((repeat (first | assumption | (apply RdS.from; assumption))); done)); assumption; rfl) | (apply Ld1.rs; (focus ((repeat (first | assumption | (apply RdS.from; assumption))); done)); assumption; rfl)) | (show Ld _ _ _ _; first | (apply Ld.blk; (focus ((repeat (first | assumption | (apply Blk.from; assumption))); done)); rfl) | (apply Ld.rs; (focus ((repeat (first | assumption | (apply RdS.from; assumption))); done)); assumption)) | (show Ix _ _ _ _ _; first | (apply Ix.rs; (focus ((repeat (first | assumption | (apply RdS.from; assumption))); done)); (first | with_reducible rfl | assumption); (first | assumption | omega)) | (apply Ix.arr; (focus ((repeat (first | assumption | (apply RdS.from; assumption))); done)); (first | assumption | (simp; done)); (first | with_reducible rfl | assumption); (first | assumption | omega))) | (show Al _ _ _ _; refine Al.mk (fun _ _ _ _ _ _ => ?_)) | (show St _ _ _ _; apply St.new; assumption; assumption; assumption; rfl; rfl; intro _ _ _ _)))
      have hi : i = l.length := by omega
      subst hi
      have := take_all hlm ht
      exact ⟨b_eq (by simp [this]), by (repeat (first | exact Ext.refl _ | assumption | (apply Ext.from; assumption)))⟩
end Go.Proofs.YtbbadmlekagloaaDoor
namespace Go.Sh
open Go.RowKit
/-- of the blocks there were, those in S alone may have changed -/
structure Tch (S : Nat → Prop) (w w' : World) : Prop where
  os : w'.os = w.os
  tape : w'.tape = w.tape
  output : w'.output = w.output
  size : w.heap.size ≤ w'.heap.size
  block : ∀ k, k < w.heap.size → ¬ S k → w'.heap[k]? = w.heap[k]?
section
variable {S : Nat → Prop} {w0 w w' w'' : World}
theorem Tch.refl (S : Nat → Prop) (w : World) : Tch S w w := ⟨rfl, rfl, rfl, Nat.le_refl _, fun _ _ _ => rfl⟩
theorem Tch.ext (t : Tch S w w') (e : Ext w' w'') : Tch S w w'' :=
  ⟨(Below.os e).trans t.os, (Below.tape e).trans t.tape, (Below.output e).trans t.output, Nat.le_trans t.size (Below.size e), fun k hk hs => (Below.block e k (Nat.lt_of_lt_of_le hk t.size)).trans (t.block k hk hs)⟩
theorem Tch.upd {b : Nat} (t : Tch S w w') (u : Upd b w' w'') (hb : S b ∨ w.heap.size ≤ b) : Tch S w w'' :=
  ⟨u.os.trans t.os, u.tape.trans t.tape, u.output.trans t.output, by rw [u.size]; exact t.size, fun k hk hs => (u.block k fun e => by
    subst e
    rcases hb with h | h
    · exact hs h
    · omega).trans (t.block k hk hs)⟩
theorem Tch.of_ext (e : Ext w w') : Tch S w w' := (Tch.refl S w).ext e
theorem Ext.tch (e : Ext w0 w) (t : Tch S w w') (hS : ∀ k, S k → w0.heap.size ≤ k) : Ext w0 w' :=
  Below.trans e ⟨t.os, t.tape, t.output, t.size, fun k hk => t.block k (Nat.lt_of_lt_of_le hk (Below.size e)) fun h => by have := hS k h; omega⟩
theorem Blk.tch {b : Nat} {t : TypeId} {cs : List Value} (h : Blk w b t cs) (u : Tch S w w') (hb : ¬ S b) : Blk w' b t cs := (u.block b h.lt hb).trans h
theorem RdS.tch {α : Type} {enc : α → List Value} {sz : Nat} {A : Option Addr} {l : List α} (h : RdS enc sz w A l) (u : Tch S w w') (hb : ∀ b, obk A = some b → ¬ S b) : RdS enc sz w' A l :=
  h.keep u.size fun b hA hlt => u.block b hlt (hb b hA)
variable {α : Type} {enc : α → List Value} {sz : Nat} {e : TypeId} {A : Option Addr} {c : Nat} {l : List α} {P : Program} {T : Tab} {k : Value → World → Prop} {Y : List PanicEntry → World → Prop}
theorem Que.mono {B B' : Nat} (h : Que enc sz e w B A c l) (hB : B' ≤ B) : Que enc sz e w B' A c l := by
  refine ⟨h.sizes, h.le, ?_⟩
  rcases h.place with h1 | ⟨b, off, cs, h2, h3, r⟩
  · exact .inl h1
  · exact .inr ⟨b, off, cs, h2, Nat.le_trans hB h3, r⟩
/-- append(l, m...) where l is full: always new memory, whoever owns l -/
theorem Sm.appG (hT : TabOk P T) {t ty : TypeId} {ti ei : TI} {X : Option Addr} {m : List α} {n n2 c2 : Nat}
    (ht : getT T.ts t = some ti) (hd : ti.desc = .slice e) (he : getT T.ts e = some ei) (hsz : ei.size = sz) (hz : ei.zero.cells.size = sz) (hpos : 0 < sz)
    (h : RdS enc sz w A l) (hl : ∀ x ∈ l, (enc x).length = sz) (hn : n = l.length) (hA : A = none → c = 0) (hc : c < l.length + m.length) (hr : RdS enc sz w X m) (hn2 : n2 = m.length) (hne : m ≠ []) (hm : ∀ x ∈ m, (enc x).length = sz)
    (hlen : (l.length + m.length) * ei.bytes ≤ 140737488355328) (hlen2 : l.length + m.length ≤ 140737488355328)
    (hk : ∀ c' w', Que enc sz e w' w.heap.size (some ⟨w.heap.size, 0, none⟩) c' (l ++ m) → Ext w w' → k (.slice (some ⟨w.heap.size, 0, none⟩) (l ++ m).length c') w') : Sm P (Builtin.append_ #[t, t] ty #[.slice A n c, .slice X n2 c2]) w k Y := by
  subst hn hn2
  obtain ⟨j, hj, hjz, hjs, hjb⟩ := info_of hT.1 he
  have hu := (hT.1.get ht).1
  rw [hd] at hu
  have hjs' : j.size = sz := hjs.trans hsz
  have hfm := flat_len hm
  have hfl := flat_len hl
  have hm0 : 0 < m.length := List.length_pos_iff.2 hne
  obtain ⟨ad, rfl⟩ : ∃ ad, X = some ad := Option.ne_none_iff_exists'.1 (hr.some hne).1
  have hnews := src_cells hpos hr hm
  have hall : ∀ x ∈ l ++ m, (enc x).length = sz := fun x hx => (List.mem_append.1 hx).elim (hl x) (hm x)
  have grown : ∀ (c0 : Nat) (old : List Value), old = l.flatMap enc → l.length + m.length ≤ c0 → ∀ (p : Nat) (w2 : World), p = w.heap.size → w2 = w.drew.alloc (.cells (old.toArray ++ (m.flatMap enc).toArray ++ Builtin.zeroCells ei.zero.cells (c0 - (l.length + m.length))) e) →
      Que enc sz e w2 p (some ⟨p, 0, none⟩) c0 (l ++ m) ∧ Ext w w2 := by
    rintro c0 _ rfl hc p w2 rfl rfl
    refine ⟨Que.of_blk (cs := l.flatMap enc ++ m.flatMap enc ++ (Builtin.zeroCells ei.zero.cells (c0 - (l.length + m.length))).toList) ?_ (Nat.le_refl _) hall (by simp; omega) ?_ ?_, ⟨rfl, rfl, rfl, ?_, fun i hi => ?_⟩⟩
    · unfold Blk
      show (w.heap.push _)[w.heap.size]? = _
      simp
    · simp only [List.length_append, hfm, hfl, Array.length_toList, size_zeroCells, hz]
      rw [← Nat.add_mul, ← Nat.add_mul, Nat.zero_add]
      exact Nat.mul_le_mul_right _ (by omega)
    · intro j v hv
      rw [Nat.zero_add, ← List.flatMap_append, List.getElem?_append_left (List.getElem?_eq_some_iff.1 hv).1]
      exact hv
    · show w.heap.size ≤ (w.heap.push _).size
      simp
    · show (w.heap.push _)[i]? = _
      rw [Array.getElem?_push_lt hi, Array.getElem?_eq_getElem hi]
  have h63 : ((l.length + m.length : Nat) : Int) ≤ 9223372036854775807 := by omega
  refine ⟨?_⟩
  cases A with
  | none =>
    have hl0 : l = [] := by
      rcases l with _ | ⟨x, r⟩
      · rfl
      · exact absurd rfl (h.some (by simp)).1
    subst hl0
    obtain rfl := hA rfl
    simp only [List.length_nil, Nat.zero_add] at hlen h63 ⊢
    rw [run_append_nil w t ty e j ei.zero hu hj hjz ad m.length c2 (m.flatMap enc) (by rw [hfm, hjs']) hnews hm0 h63 (by rw [hjb]; omega)]
    obtain ⟨g1, g2⟩ := grown (grownCap w m.length 0 e) [] rfl (by simp; exact grownCap_ge _ _ _ _) _ (w.drew.alloc (.cells ((m.flatMap enc).toArray ++ Builtin.zeroCells ei.zero.cells (grownCap w m.length 0 e - m.length)) e)) rfl (by simp)
    have := hk _ _ g1 g2
    simpa using this
  | some b =>
    rw [run_append_grow w t ty e j ei.zero hu hj hjz b l.length c (l.flatMap enc) (by rw [hfl, hjs']) (src_cells hpos h hl) ad m.length c2 (m.flatMap enc) (by rw [hfm, hjs']) hnews hc h63 (growslice_fits hc (by rw [hjb]; exact hlen))]
    obtain ⟨g1, g2⟩ := grown (grownCap w (l.length + m.length) c e) _ rfl (grownCap_ge _ _ _ _) _ _ rfl rfl
    have := hk _ _ g1 g2
    simpa using this
/-- make([]T, n, c) -/
theorem Sm.makeQ (hT : TabOk P T) {t : TypeId} {ti ei : TI} {n c : Nat} {kl kc : IntKind} {a b : Int} {z : α}
    (ht : getT T.ts t = some ti) (hd : ti.desc = .slice e) (he : getT T.ts e = some ei) (ha : a = (n : Int)) (hb : b = (c : Int)) (hnc : n ≤ c) (hsz : ei.size = sz) (hz : ei.zero.cells.toList = enc z) (hzl : (enc z).length = sz) (hpos : 0 < sz)
    (hbytes : ei.bytes * c ≤ 281474976710656) (h63 : c ≤ 140737488355328)
    (hk : ∀ p w', w.heap.size = p → Que enc sz e w' p (some ⟨p, 0, none⟩) c (List.replicate n z) → Ext w w' → k (.slice (some ⟨p, 0, none⟩) n c) w') : Sm P (Instr.makeSlice t (.int kl a) (.int kc b)) w k Y := by
  subst ha hb
  obtain ⟨j, hj, hjz, hjs, hjb⟩ := info_of hT.1 he
  have hu := (hT.1.get ht).1
  rw [hd] at hu
  have hb' : (j.bytes : Int) * (c : Int) ≤ 281474976710656 := by
    have h : ((j.bytes * c : Nat) : Int) ≤ 281474976710656 := by rw [hjb]; omega
    rwa [Int.natCast_mul] at h
  have hr := run_make (P := P) w t e j ei.zero hu hj hjz kl kc (n : Int) (c : Int) (by omega) (by omega) hb' (by omega)
  simp only [Int.toNat_natCast] at hr
  refine ⟨?_⟩
  rw [hr]
  have hcells : madeCells ei.zero.cells (c * j.size) = ((List.replicate c z).flatMap enc).toArray := by
    have hzc : ei.zero.cells = (enc z).toArray := by apply Array.ext'; simpa using hz
    rw [hjs, hsz, hzc, madeL hzl hpos]
    simp [List.flatMap]
  have hall : ∀ m, ∀ x ∈ List.replicate m z, (enc x).length = sz := fun m x hx => by rw [(List.mem_replicate.1 hx).2]; exact hzl
  refine hk _ _ rfl (Que.of_blk (cs := (List.replicate c z).flatMap enc) ?_ (Nat.le_refl _) (hall n) (by simpa using hnc) ?_ fun i v hv => ?_) (Ext.alloc w _)
  · unfold Blk
    show (w.heap.push _)[w.heap.size]? = _
    rw [hcells]; simp
  · rw [flat_len (hall c)]; simp
  · rw [Nat.zero_add]
    have : List.replicate c z = List.replicate n z ++ List.replicate (c - n) z := by
      rw [List.replicate_append_replicate]; congr 1; omega
    rw [this, List.flatMap_append, List.getElem?_append_left (List.getElem?_eq_some_iff.1 hv).1]
    exact hv
end
end Go.Sh
namespace Go.Proofs.YtbbadmlekagloaaDoor
open Go Go.Sh
attribute [local irreducible] Blk Ext RdS
/-- n rows of m numbers each, or no rows at all -/
def MX (w : World) (B : Nat) (A : Option Addr) (n m : Nat) (ps : List Nat) (g : Nat → Nat → Int) : Prop := (A = none ∧ n = 0 ∧ ps = []) ∨ ∃ p, A = some ⟨p, 0, none⟩ ∧ ps.length = n ∧ Mx w B p n m ps g
section
variable {w w' : World} {B n m : Nat} {A : Option Addr} {ps : List Nat} {g g' : Nat → Nat → Int}
theorem MX.len (h : MX w B A n m ps g) : ps.length = n := by
  rcases h with ⟨_, rfl, rfl⟩ | ⟨p, _, h, _⟩
  · rfl
  · exact h
theorem MX.ext (h : MX w B A n m ps g) (e : Ext w w') : MX w' B A n m ps g := by
  rcases h with h | ⟨p, h1, h2, h3⟩
  · exact .inl h
  · exact .inr ⟨p, h1, h2, h3.ext e⟩
theorem MX.congr (h : MX w B A n m ps g) (hg : ∀ i j, i < n → j < m → g i j = g' i j) : MX w B A n m ps g' := by
  rcases h with h | ⟨p, h1, h2, h3⟩
  · exact .inl h
  · exact .inr ⟨p, h1, h2, h3.congr hg⟩
theorem MX.row (h : MX w B A n m ps g) {i q : Nat} (hq : ps[i]? = some q) : Blk w q 3 ((rowL m (g i)).flatMap ints) := by
  rcases h with ⟨_, _, rfl⟩ | ⟨p, _, _, h⟩
  · simp at hq
  · exact h.row i q hq
theorem MX.nodup (h : MX w B A n m ps g) : ps.Nodup := by
  rcases h with ⟨_, _, rfl⟩ | ⟨p, _, _, h⟩
  · simp
  · exact h.nodup
theorem MX.lo (h : MX w B A n m ps g) : ∀ q ∈ ps, B ≤ q := by
  rcases h with ⟨_, _, rfl⟩ | ⟨p, _, _, h⟩
  · simp
  · exact h.lo
theorem MX.hi (h : MX w B A n m ps g) : ∀ q ∈ ps, q < w.heap.size := fun q hq => by
  obtain ⟨i, hi⟩ := List.getElem?_of_mem hq
  exact (h.row hi).lt
theorem MX.top (h : MX w B A n m ps g) : ∀ b, obk A = some b → B ≤ b ∧ b < w.heap.size ∧ b ∉ ps := by
  rcases h with ⟨rfl, _, rfl⟩ | ⟨p, rfl, _, h⟩
  · intro b hb; simp [obk] at hb
  · intro b hb
    simp [obk] at hb; subst hb
    exact ⟨h.plo, h.top.lt, fun hm => h.ne_p p hm rfl⟩
theorem MX.rd (h : MX w B A n m ps g) (hn : n ≤ 140737488355328) : ∃ cs : List Value, RdS vals 1 w A cs ∧ cs.length = n ∧ ∀ (i q : Nat), ps[i]? = some q → cs[i]? = some (rowV m q) := by
  rcases h with ⟨rfl, rfl, rfl⟩ | ⟨p, rfl, hl, h⟩
  · exact ⟨[], RdS.nil, rfl, fun i q hq => by simp at hq⟩
  · exact ⟨_, h.rd hn, h.len, fun i q hq => h.at hq⟩
theorem MX.tch {S : Nat → Prop} (h : MX w B A n m ps g) (t : Tch S w w') (hp : ∀ b, obk A = some b → ¬ S b) (hq : ∀ q ∈ ps, ¬ S q) : MX w' B A n m ps g := by
  rcases h with h | ⟨p, rfl, hl, h⟩
  · exact .inl h
  · exact .inr ⟨p, rfl, hl, ⟨h.top.tch t (hp p rfl), h.le, fun i q hi => (h.row i q hi).tch t (hq q (List.mem_of_getElem? hi)), h.nodup, h.lo, h.plo⟩⟩
theorem MX.set {i j q : Nat} {v : Int} (h : MX w B A n m ps g) (hq : ps[i]? = some q) (u : Upd q w w') (hb : Blk w' q 3 (((rowL m (g i)).set j v).flatMap ints)) : MX w' B A n m ps (put2 g i j v) := by
  rcases h with ⟨_, _, rfl⟩ | ⟨p, h1, h2, h⟩
  · simp at hq
  · exact .inr ⟨p, h1, h2, h.set hq u hb⟩
def matL (n m : Nat) (g : Nat → Nat → Int) : List (List Int) := (List.range n).map fun i => rowL m (g i)
theorem matL_len (n m : Nat) (g : Nat → Nat → Int) : (matL n m g).length = n := by simp [matL]
theorem MX.nest (h : MX w B A n m ps g) (hn : n ≤ 140737488355328) (hm : m ≤ 140737488355328) : Nest w A (matL n m g) := by
  obtain ⟨cs, h1, h2, h3⟩ := h.rd hn
  refine ⟨cs, h1, by rw [h2, matL_len], fun i l hl => ?_⟩
  have hi : i < n := by have := (List.getElem?_eq_some_iff.1 hl).1; rw [matL_len] at this; exact this
  obtain ⟨q, hq⟩ : ∃ q, ps[i]? = some q := ⟨_, List.getElem?_eq_getElem (by rw [h.len]; exact hi)⟩
  simp [matL, hi] at hl
  subst hl
  refine ⟨by rw [rowL_len]; exact hm, some ⟨q, 0, none⟩, m, ?_, rd_of_blk (h.row hq) (by rw [rowL_len]; exact hm)⟩
  rw [h3 i q hq, rowL_len]; rfl
end
/-- the rows ahead of i are marked, and of row i the places ahead of k -/
def mark (x : Int) (g : Nat → Nat → Int) (i k : Nat) : Nat → Nat → Int := fun i' j => if i' < i ∨ (i' = i ∧ j < k) then x + i' else g i' j
theorem mark_put (x : Int) (g : Nat → Nat → Int) (i k : Nat) : put2 (mark x g i k) i k (x + i) = mark x g i (k + 1) := by
  funext i' j
  unfold put2 put1 mark
  by_cases e : i' = i
  · subst e
    by_cases e2 : j = k
    · subst e2; simp
    · have : (j < k) = (j < k + 1) := propext ⟨fun h => by omega, fun h => by omega⟩
      simp [e2, this]
  · simp [e]
theorem fill_c (A : Option Addr) (B n m : Nat) (ps : List Nat) (g : Nat → Nat → Int) (x : Int) (w : World) (h : MX w B A n m ps g) (hn : n ≤ 512) (hm : m ≤ 8) (hx : 0 ≤ x ∧ x ≤ 10000) :
    Cl Tryd.prog 19 #[.slice A n n, .int .i64 x] w (fun _ w' => MX w' B A n m ps (fun i _ => x + i) ∧ Tch (· ∈ ps) w w') (fun _ _ => False) := by
  refine calls_ex (args := [.slice A n n, .int .i64 x]) T.ok Tryd.func19 rfl rfl rfl rfl ?_
  repeat' (first | (show Gd _ _ _; first | with_reducible refine Gd.t ?_ | with_reducible refine Gd.f ?_ | with_reducible refine Gd.dec (fun _ => ?_) (fun _ => ?_) | with_reducible refine Gd.beq (fun _ => ?_) (fun _ => ?_) | with_reducible refine Gd.bne (fun _ => ?_) (fun _ => ?_) | with_reducible refine Gd.not ?_ | refine Gd.t ?_ | refine Gd.f ?_ | with_reducible refine Gd.var (fun _ => ?_) (fun _ => ?_)) | (show Sq _ _ _; refine Sq.mk ?_) | (show Ld1 _ _ _; first | (apply Ld1.blk; (focus ((repeat (first | assumption | (apply Blk.from; assumption))); done)); rfl) | (apply Ld1.rsF; (focus ((repeat (first | assumption | (apply RdS.from; assumption))); done)); assumption; rfl) | (apply Ld1.rs; (focus ((repeat (first | assumption | (apply RdS.from; assumption))); done)); assumption; rfl)) | (show Ld _ _ _ _; first | (apply Ld.blk; (focus ((repeat (first | assumption | (apply Blk.from; assumption))); done)); rfl) | (apply Ld.rs; (focus ((repeat (first | assumption | (apply RdS.from; assumption))); done)); assumption)) | (show Ix _ _ _ _ _; first | (apply Ix.rs; (focus ((repeat (first | assumption | (apply RdS.from; assumption))); done)); (first | with_reducible rfl | assumption); (first | assumption | omega)) | (apply Ix.arr; (focus ((repeat (first | assumption | (apply RdS.from; assumption))); done)); (first | assumption | (simp; done)); (first | with_reducible rfl | assumption); (first | assumption | omega))) | (show Al _ _ _ _; refine Al.mk (fun _ _ _ _ _ _ => ?_)) | (show St _ _ _ _; apply St.new; assumption; assumption; assumption; rfl; rfl; intro _ _ _ _))
  refine Lp.g0 T.ok (σ := Nat) (fun i => [(4, .int .i64 (i : Int)), (0, .slice A n n), (1, .int .i64 x)])
    (fun i w' => i ≤ n ∧ MX w' B A n m ps (mark x g i 0) ∧ Tch (· ∈ ps) w w') (fun i _ => n - i) 0 rfl ⟨rfl, rfl, rfl, trivial⟩ ⟨by omega, h.congr fun i j _ _ => by simp [mark], Tch.refl _ _⟩ ?_
  clear h
  rintro i w1 ⟨hi, h, t1⟩
  by_cases hin : i < n
  · repeat' (first | ((show Gd _ _ _; first | with_reducible refine Gd.t ?_ | with_reducible refine Gd.f ?_ | with_reducible refine Gd.dec (fun _ => ?_) (fun _ => ?_) | with_reducible refine Gd.beq (fun _ => ?_) (fun _ => ?_) | with_reducible refine Gd.bne (fun _ => ?_) (fun _ => ?_) | with_reducible refine Gd.not ?_ | refine Gd.t ?_ | refine Gd.f ?_ | with_reducible refine Gd.var (fun _ => ?_) (fun _ => ?_)) <;> first | (exfalso; omega) | skip) | (first | (show Gd _ _ _; first | with_reducible refine Gd.t ?_ | with_reducible refine Gd.f ?_ | with_reducible refine Gd.dec (fun _ => ?_) (fun _ => ?_) | with_reducible refine Gd.beq (fun _ => ?_) (fun _ => ?_) | with_reducible refine Gd.bne (fun _ => ?_) (fun _ => ?_) | with_reducible refine Gd.not ?_ | refine Gd.t ?_ | refine Gd.f ?_ | with_reducible refine Gd.var (fun _ => ?_) (fun _ => ?_)) | (show Sq _ _ _; refine Sq.mk ?_) | (show Ld1 _ _ _; first | (apply Ld1.blk; (focus ((repeat (first | assumption | (apply Blk.from; assumption))); done)); rfl) | (apply Ld1.rsF; (focus ((repeat (first | assumption | (apply RdS.from; assumption))); done)); assumption; rfl) | (apply Ld1.rs; (focus ((repeat (first | assumption | (apply RdS.from; assumption))); done)); assumption; rfl)) | (show Ld _ _ _ _; first | (apply Ld.blk; (focus ((repeat (first | assumption | (apply Blk.from; assumption))); done)); rfl) | (apply Ld.rs; (focus ((repeat (first | assumption | (apply RdS.from; assumption))); done)); assumption)) | (show Ix _ _ _ _ _; first | (apply Ix.rs; (focus ((repeat (first | assumption | (apply RdS.from; assumption))); done)); (first | with_reducible rfl | assumption); (first | assumption | omega)) | (apply Ix.arr; (focus ((repeat (first | assumption | (apply RdS.from; assumption))); done)); (first | assumption | (simp; done)); (first | with_reducible rfl | assumption); (first | assumption | omega))) | (show Al _ _ _ _; refine Al.mk (fun _ _ _ _ _ _ => ?_)) | (show St _ _ _ _; apply St.new; assumption; assumption; assumption; rfl; rfl; intro _ _ _ _)))
    refine Lp.g0 T.ok (σ := Nat) (fun k => [(5, .int .i64 (k : Int)), (4, .int .i64 (i : Int)), (0, .slice A n n), (1, .int .i64 x)])
      (fun k w' => k ≤ m ∧ MX w' B A n m ps (mark x g i k) ∧ Tch (· ∈ ps) w w') (fun k _ => m - k) 0 rfl ⟨rfl, rfl, rfl, rfl, trivial⟩ ⟨by omega, h, t1⟩ ?_
    clear h t1
    rintro k w2 ⟨hk, h, t2⟩
    obtain ⟨q, hq⟩ : ∃ q, ps[i]? = some q := ⟨_, List.getElem?_eq_getElem (by rw [h.len]; exact hin)⟩
    obtain ⟨cs, hrc, hcl, hca⟩ := h.rd (by omega)
    have hcq := hca i q hq
    have hrow := h.row hq
    have hrr := rd_of_blk hrow (by rw [rowL_len]; omega)
    by_cases hkm : k < m
    · repeat' (first | ((show Gd _ _ _; first | with_reducible refine Gd.t ?_ | with_reducible refine Gd.f ?_ | with_reducible refine Gd.dec (fun _ => ?_) (fun _ => ?_) | with_reducible refine Gd.beq (fun _ => ?_) (fun _ => ?_) | with_reducible refine Gd.bne (fun _ => ?_) (fun _ => ?_) | with_reducible refine Gd.not ?_ | refine Gd.t ?_ | refine Gd.f ?_ | with_reducible refine Gd.var (fun _ => ?_) (fun _ => ?_)) <;> first | (exfalso; omega) | skip) | (first | (show Gd _ _ _; first | with_reducible refine Gd.t ?_ | with_reducible refine Gd.f ?_ | with_reducible refine Gd.dec (fun _ => ?_) (fun _ => ?_) | with_reducible refine Gd.beq (fun _ => ?_) (fun _ => ?_) | with_reducible refine Gd.bne (fun _ => ?_) (fun _ => ?_) | with_reducible refine Gd.not ?_ | refine Gd.t ?_ | refine Gd.f ?_ | with_reducible refine Gd.var (fun _ => ?_) (fun _ => ?_)) | (show Sq _ _ _; refine Sq.mk ?_) | (show Ld1 _ _ _; first | (apply Ld1.blk; (focus ((repeat (first | assumption | (apply Blk.from; assumption))); done)); rfl) | (apply Ld1.rsF; (focus ((repeat (first | assumption | (apply RdS.from; assumption))); done)); assumption; rfl) | (apply Ld1.rs; (focus ((repeat (first | assumption | (apply RdS.from; assumption))); done)); assumption; rfl)) | (show Ld _ _ _ _; first | (apply Ld.blk; (focus ((repeat (first | assumption | (apply Blk.from; assumption))); done)); rfl) | (apply Ld.rs; (focus ((repeat (first | assumption | (apply RdS.from; assumption))); done)); assumption)) | (show Ix _ _ _ _ _; first | (apply Ix.rs; (focus ((repeat (first | assumption | (apply RdS.from; assumption))); done)); (first | with_reducible rfl | assumption); (first | assumption | omega)) | (apply Ix.arr; (focus ((repeat (first | assumption | (apply RdS.from; assumption))); done)); (first | assumption | (simp; done)); (first | with_reducible rfl | assumption); (first | assumption | omega))) | (show Al _ _ _ _; refine Al.mk (fun _ _ _ _ _ _ => ?_)) | (show St _ _ _ _; apply St.new; assumption; assumption; assumption; rfl; rfl; intro _ _ _ _)))
      (show Ix _ _ _ _ _; refine Ix.arr (i := k) hrr (rowL_len _ _) rfl (by rw [rowL_len]; exact hkm) ?_)
      have hwr : IntKind.i64.wrap (x + (i : Int)) = x + i := w64 rfl (by omega) (by omega)
      refine St.ints hrow (by rw [rowL_len]; exact hkm) fun w3 u3 hq3 => ?_
      rw [hwr] at hq3
      have h3 := h.set hq u3 hq3
      rw [mark_put] at h3
      have t3 := t2.upd u3 (.inl (List.mem_of_getElem? hq))
      repeat' (first | ((show Gd _ _ _; first | with_reducible refine Gd.t ?_ | with_reducible refine Gd.f ?_ | with_reducible refine Gd.dec (fun _ => ?_) (fun _ => ?_) | with_reducible refine Gd.beq (fun _ => ?_) (fun _ => ?_) | with_reducible refine Gd.bne (fun _ => ?_) (fun _ => ?_) | with_reducible refine Gd.not ?_ | refine Gd.t ?_ | refine Gd.f ?_ | with_reducible refine Gd.var (fun _ => ?_) (fun _ => ?_)) <;> first | (exfalso; omega) | skip) | (first | (show Gd _ _ _; first | with_reducible refine Gd.t ?_ | with_reducible refine Gd.f ?_ | with_reducible refine Gd.dec (fun _ => ?_) (fun _ => ?_) | with_reducible refine Gd.beq (fun _ => ?_) (fun _ => ?_) | with_reducible refine Gd.bne (fun _ => ?_) (fun _ => ?_) | with_reducible refine Gd.not ?_ | refine Gd.t ?_ | refine Gd.f ?_ | with_reducible refine Gd.var (fun _ => ?_) (fun _ => ?_)) | (show Sq _ _ _; refine Sq.mk ?_) | (show Ld1 _ _ _; first | (apply Ld1.blk; (focus ((repeat (first | assumption | (apply Blk.from; assumption))); done)); rfl) | (apply Ld1.rsF; (focus ((repeat (first | assumption | (apply RdS.from; assumption))); done)); assumption; rfl) | (apply Ld1.rs; (focus ((repeat (first | assumption | (apply RdS.from; assumption))); done)); assumption; rfl)) | (show Ld _ _ _ _; first | (apply Ld.blk; (focus ((repeat (first | assumption | (apply Blk.from; assumption))); done)); rfl) | (apply Ld.rs; (focus ((repeat (first | assumption | (apply RdS.from; assumption))); done)); assumption)) | (show Ix _ _ _ _ _; first | (apply Ix.rs; (focus ((repeat (first | assumption | (apply RdS.from; assumption))); done)); (first | with_reducible rfl | assumption); (first | assumption | omega)) | (apply Ix.arr; (focus ((repeat (first | assumption | (apply RdS.from; assumption))); done)); (first | assumption | (simp; done)); (first | with_reducible rfl | assumption); (first | assumption | omega))) | (show Al _ _ _ _; refine Al.mk (fun _ _ _ _ _ _ => ?_)) | (show St _ _ _ _; apply St.new; assumption; assumption; assumption; rfl; rfl; intro _ _ _ _)))
      exact ⟨k + 1, ⟨at_int (m := ((k + 1 : Nat) : Int)) rfl (w64 (by simp) (by omega) (by omega)), rfl, rfl, rfl, trivial⟩, rfl, ⟨by omega, h3, t3⟩, by omega⟩
    · repeat' (first | ((show Gd _ _ _; first | with_reducible refine Gd.t ?_ | with_reducible refine Gd.f ?_ | with_reducible refine Gd.dec (fun _ => ?_) (fun _ => ?_) | with_reducible refine Gd.beq (fun _ => ?_) (fun _ => ?_) | with_reducible refine Gd.bne (fun _ => ?_) (fun _ => ?_) | with_reducible refine Gd.not ?_ | refine Gd.t ?_ | refine Gd.f ?_ | with_reducible refine Gd.var (fun _ => ?_) (fun _ => ?_)) <;> first | (exfalso; omega) | skip) | (first | (show Gd _ _ _; first | with_reducible refine Gd.t ?_ | with_reducible refine Gd.f ?_ | with_reducible refine Gd.dec (fun _ => ?_) (fun _ => ?_) | with_reducible refine Gd.beq (fun _ => ?_) (fun _ => ?_) | with_reducible refine Gd.bne (fun _ => ?_) (fun _ => ?_) | with_reducible refine Gd.not ?_ | refine Gd.t ?_ | refine Gd.f ?_ | with_reducible refine Gd.var (fun _ => ?_) (fun _ => ?_)) | (show Sq _ _ _; refine Sq.mk ?_) | (show Ld1 _ _ _; first | (apply Ld1.blk; (focus ((repeat (first | assumption | (apply Blk.from; assumption))); done)); rfl) | (apply Ld1.rsF; (focus ((repeat (first | assumption | (apply RdS.from; assumption))); done)); assumption; rfl) | (apply Ld1.rs; (focus ((repeat (first | assumption | (apply RdS.from; assumption))); done)); assumption; rfl)) | (show Ld _ _ _ _; first | (apply Ld.blk; (focus ((repeat (first | assumption | (apply Blk.from; assumption))); done)); rfl) | (apply Ld.rs; (focus ((repeat (first | assumption | (apply RdS.from; assumption))); done)); assumption)) | (show Ix _ _ _ _ _; first | (apply Ix.rs; (focus ((repeat (first | assumption | (apply RdS.from; assumption))); done)); (first | with_reducible rfl | assumption); (first | assumption | omega)) | (apply Ix.arr; (focus ((repeat (first | assumption | (apply RdS.from; assumption))); done)); (first | assumption | (simp; done)); (first | with_reducible rfl | assumption); (first | assumption | omega))) | (show Al _ _ _ _; refine Al.mk (fun _ _ _ _ _ _ => ?_)) | (show St _ _ _ _; apply St.new; assumption; assumption; assumption; rfl; rfl; intro _ _ _ _)))
      refine ⟨i + 1, ⟨at_int (m := ((i + 1 : Nat) : Int)) rfl (w64 (by simp) (by omega) (by omega)), rfl, rfl, trivial⟩, rfl, ⟨by omega, h.congr fun i' j hi' hj => ?_, t2⟩, by omega⟩
      unfold mark
      by_cases hc : i' < i ∨ i' = i ∧ j < k
      · rw [if_pos hc, if_pos (by omega)]
      · rw [if_neg hc, if_neg (by omega)]
  · repeat' (first | ((show Gd _ _ _; first | with_reducible refine Gd.t ?_ | with_reducible refine Gd.f ?_ | with_reducible refine Gd.dec (fun _ => ?_) (fun _ => ?_) | with_reducible refine Gd.beq (fun _ => ?_) (fun _ => ?_) | with_reducible refine Gd.bne (fun _ => ?_) (fun _ => ?_) | with_reducible refine Gd.not ?_ | refine Gd.t ?_ | refine Gd.f ?_ | with_reducible refine Gd.var (fun _ => ?_) (fun _ => ?_)) <;> first | (exfalso; omega) | skip) | (first | (show Gd _ _ _; first | with_reducible refine Gd.t ?_ | with_reducible refine Gd.f ?_ | with_reducible refine Gd.dec (fun _ => ?_) (fun _ => ?_) | with_reducible refine Gd.beq (fun _ => ?_) (fun _ => ?_) | with_reducible refine Gd.bne (fun _ => ?_) (fun _ => ?_) | with_reducible refine Gd.not ?_ | refine Gd.t ?_ | refine Gd.f ?_ | with_reducible refine Gd.var (fun _ => ?_) (fun _ => ?_)) | (show Sq _ _ _; refine Sq.mk ?_) | (show Ld1 _ _ _; first | (apply Ld1.blk; (focus ((repeat (first | assumption | (apply Blk.from; assumption))); done)); rfl) | (apply Ld1.rsF; (focus ((repeat (first | assumption | (apply RdS.from; assumption))); done)); assumption; rfl) | (apply Ld1.rs; (focus ((repeat (first | assumption | (apply RdS.from; assumption))); done)); assumption; rfl)) | (show Ld _ _ _ _; first | (apply Ld.blk; (focus ((repeat (first | assumption | (apply Blk.from; assumption))); done)); rfl) | (apply Ld.rs; (focus ((repeat (first | assumption | (apply RdS.from; assumption))); done)); assumption)) | (show Ix _ _ _ _ _; first | (apply Ix.rs; (focus ((repeat (first | assumption | (apply RdS.from; assumption))); done)); (first | with_reducible rfl | assumption); (first | assumption | omega)) | (apply Ix.arr; (focus ((repeat (first | assumption | (apply RdS.from; assumption))); done)); (first | assumption | (simp; done)); (first | with_reducible rfl | assumption); (first | assumption | omega))) | (show Al _ _ _ _; refine Al.mk (fun _ _ _ _ _ _ => ?_)) | (show St _ _ _ _; apply St.new; assumption; assumption; assumption; rfl; rfl; intro _ _ _ _)))
    exact ⟨h.congr fun i' j hi' hj => by unfold mark; rw [if_pos (by omega)], t1⟩
end Go.Proofs.YtbbadmlekagloaaDoor
namespace Go.Proofs.YtbbadmlekagloaaDoor
open Go Go.Sh
attribute [local irreducible] Blk Ext RdS
def oddI (i : Int) : Ins := ⟨70 + i, -1, -2, -3, -4⟩
theorem odd_c (i : Int) (w : World) (hi : 0 ≤ i ∧ i ≤ 100) : Cl Tryd.prog 23 #[.int .i64 i] w (fun v w' => v = (oddI i).v ∧ Ext w w') (fun _ _ => False) := by
  have hw : IntKind.i64.wrap (70 + i) = 70 + i := w64 rfl (by omega) (by omega)
  refine calls_ex (args := [.int .i64 i]) T.ok Tryd.func23 rfl rfl rfl rfl ?_
  repeat' (first | (show Gd _ _ _; first | with_reducible refine Gd.t ?_ | with_reducible refine Gd.f ?_ | with_reducible refine Gd.dec (fun _ => ?_) (fun _ => ?_) | with_reducible refine Gd.beq (fun _ => ?_) (fun _ => ?_) | with_reducible refine Gd.bne (fun _ => ?_) (fun _ => ?_) | with_reducible refine Gd.not ?_ | refine Gd.t ?_ | refine Gd.f ?_ | with_reducible refine Gd.var (fun _ => ?_) (fun _ => ?_)) | (show Sq _ _ _; refine Sq.mk ?_) | (show Ld1 _ _ _; first | (apply Ld1.blk; (focus ((repeat (first | assumption | (apply Blk.from; assumption))); done)); rfl) | (apply Ld1.rsF; (focus ((repeat (first | assumption | (apply RdS.from; assumption))); done)); assumption; rfl) | (apply Ld1.rs; (focus ((repeat (first | assumption | (apply RdS.from; assumption))); done)); assumption; rfl)) | (show Ld _ _ _ _; first | (apply Ld.blk; (focus ((repeat (first | assumption | (apply Blk.from; assumption))); done)); rfl) | (apply Ld.rs; (focus ((repeat (first | assumption | (apply RdS.from; assumption))); done)); assumption)) | (show Ix _ _ _ _ _; first | (apply Ix.rs; (focus ((repeat (first | assumption | (apply RdS.from; assumption))); done)); (first | with_reducible rfl | assumption); (first | assumption | omega)) | (apply Ix.arr; (focus ((repeat (first | assumption | (apply RdS.from; assumption))); done)); (first | assumption | (simp; done)); (first | with_reducible rfl | assumption); (first | assumption | omega))) | (show Al _ _ _ _; refine Al.mk (fun _ _ _ _ _ _ => ?_)) | (show St _ _ _ _; apply St.new; assumption; assumption; assumption; rfl; rfl; intro _ _ _ _))
  refine ⟨?_, by (repeat (first | exact Ext.refl _ | assumption | (apply Ext.from; assumption)))⟩
  show Value.agg #[.int .i64 (IntKind.i64.wrap (70 + i)), _, _, _, _] = _
  rw [hw]; rfl
theorem putL_at {α : Type} {enc : α → List Value} {sz : Nat} {x : α} : ∀ {l : List α} {i : Nat}, (∀ y ∈ l, (enc y).length = sz) → (enc x).length = sz → i < l.length → putL (l.flatMap enc) (i * sz) (enc x) = (l.set i x).flatMap enc
  | [], i, _, _, hi => by simp at hi
  | y :: r, 0, h, hx, _ => by
    have hy := h y (by simp)
    simp only [putL, Nat.zero_mul, List.take_zero, List.nil_append, Nat.zero_add, List.flatMap_cons, List.set_cons_zero]
    rw [List.drop_append_of_le_length (by omega), List.drop_of_length_le (by omega)]; simp
  | y :: r, i + 1, h, hx, hi => by
    have hy := h y (by simp)
    have ih := putL_at (l := r) (i := i) (fun z hz => h z (by simp [hz])) hx (by simpa using hi)
    simp only [putL] at ih
    simp only [putL, List.flatMap_cons, List.set_cons_succ]
    rw [← ih, show (i + 1) * sz = sz + i * sz by rw [Nat.add_mul]; omega]
    rw [List.take_append, List.take_of_length_le (by omega), List.drop_append, List.drop_of_length_le (by omega)]
    simp only [hy, List.nil_append]
    rw [show sz + i * sz - sz = i * sz by omega, show sz + i * sz + (enc x).length - sz = i * sz + (enc x).length by omega]
    simp
theorem St.elem {α : Type} {enc : α → List Value} {sz p t i : Nat} {l : List α} {x : α} {w : World} {k : World → Prop} (h : Blk w p t (l.flatMap enc)) (hs : ∀ y ∈ l, (enc y).length = sz) (hx : (enc x).length = sz) (hi : i < l.length) (h1 : (enc x).all Value.oneCell' = true)
    (hk : ∀ w', Upd p w w' → Blk w' p t ((l.set i x).flatMap enc) → k w') : St w ((gA (some ⟨p, 0, none⟩)).add (i * sz)) (enc x) k := by
  simp only [gA]
  rw [add_lit, Nat.zero_add]
  refine St.upd h (Nat.ble_eq_true_of_le ?_) h1 fun w' u hb => hk w' u ?_
  · rw [flat_len hs, hx]
    have := Nat.mul_le_mul_right sz (show i + 1 ≤ l.length from hi)
    rw [Nat.add_mul] at this
    omega
  · rw [putL_at hs hx hi] at hb
    exact hb
theorem insE (y : Ins) : (Ins.enc y).length = 5 := rfl
theorem rd_of_code {p : Nat} {l : List Ins} {w : World} (h : Blk w p 35 (l.flatMap Ins.enc)) : RdC w (some ⟨p, 0, none⟩) l :=
  (Que.of_full (B := 0) h (Nat.zero_le _) (fun y _ => insE y)).rd
def z0 : Ins := ⟨0, 0, 0, 0, 0⟩
/-- a function laid anew, with two odd instructions behind its code -/
def Spared (f : Fn) (w : World) (v : Value) (w' : World) : Prop := ∃ p, v = .tuple #[f.v (some ⟨p, 0, none⟩) (f.code.length + 2), .slice (some ⟨p, 0, none⟩) (f.code.length + 2) (f.code.length + 2)] ∧ w.heap.size ≤ p ∧
  Blk w' p 35 ((f.code ++ [oddI 0, oddI 1]).flatMap Ins.enc) ∧ Ext w w'
theorem spare_c (f : Fn) (A : Option Addr) (c : Nat) (w : World) (hA : RdC w A f.code) (hl : f.code.length ≤ 1048576) :
    Cl Tryd.prog 16 #[f.v A c] w (Spared f w) (fun _ _ => False) := by
  refine calls_ex (args := [f.v A c]) T.ok Tryd.func16 rfl rfl rfl rfl ?_
  refine Sq.mk ?_
  refine Al.mk fun pf w1 hpf hb e1 hs1 => ?_
  refine Al.mk fun pr w2 hpr hbr e2 hs2 => ?_
  have hb := hb.ext e2
  repeat' (first | (show Gd _ _ _; first | with_reducible refine Gd.t ?_ | with_reducible refine Gd.f ?_ | with_reducible refine Gd.dec (fun _ => ?_) (fun _ => ?_) | with_reducible refine Gd.beq (fun _ => ?_) (fun _ => ?_) | with_reducible refine Gd.bne (fun _ => ?_) (fun _ => ?_) | with_reducible refine Gd.not ?_ | refine Gd.t ?_ | refine Gd.f ?_ | with_reducible refine Gd.var (fun _ => ?_) (fun _ => ?_)) | (show Sq _ _ _; refine Sq.mk ?_) | (show Ld1 _ _ _; first | (apply Ld1.blk; (focus ((repeat (first | assumption | (apply Blk.from; assumption))); done)); rfl) | (apply Ld1.rsF; (focus ((repeat (first | assumption | (apply RdS.from; assumption))); done)); assumption; rfl) | (apply Ld1.rs; (focus ((repeat (first | assumption | (apply RdS.from; assumption))); done)); assumption; rfl)) | (show Ld _ _ _ _; first | (apply Ld.blk; (focus ((repeat (first | assumption | (apply Blk.from; assumption))); done)); rfl) | (apply Ld.rs; (focus ((repeat (first | assumption | (apply RdS.from; assumption))); done)); assumption)) | (show Ix _ _ _ _ _; first | (apply Ix.rs; (focus ((repeat (first | assumption | (apply RdS.from; assumption))); done)); (first | with_reducible rfl | assumption); (first | assumption | omega)) | (apply Ix.arr; (focus ((repeat (first | assumption | (apply RdS.from; assumption))); done)); (first | assumption | (simp; done)); (first | with_reducible rfl | assumption); (first | assumption | omega))) | (show Al _ _ _ _; refine Al.mk (fun _ _ _ _ _ _ => ?_)) | (show St _ _ _ _; apply St.new; assumption; assumption; assumption; rfl; rfl; intro _ _ _ _))
  have hw2 : IntKind.i64.wrap ((f.code.length : Int) + 2) = ((f.code.length + 2 : Nat) : Int) := w64 (by omega) (by omega) (by omega)
  have hw1 : IntKind.i64.wrap ((f.code.length : Int) + 1) = ((f.code.length + 1 : Nat) : Int) := w64 (by omega) (by omega) (by omega)
  refine Sm.make T.ok (enc := Ins.enc) (z := z0) (n := f.code.length + 2) rfl rfl rfl hw2 hw2 rfl rfl rfl (by decide) ?_ (by omega) (fun p w3 hp hb3 e3 => ?_)
  · show 40 * _ ≤ _; omega
  have hprlo : w.heap.size ≤ pr := by have := e1.size; omega
  have hplo : w.heap.size ≤ p := by have := (e1.trans e2).size; omega
  have hpf_ne : pf ≠ p := by have := hb.lt; omega
  have hpr_ne : pr ≠ p := by have := hbr.lt; omega
  repeat' (first | (show Gd _ _ _; first | with_reducible refine Gd.t ?_ | with_reducible refine Gd.f ?_ | with_reducible refine Gd.dec (fun _ => ?_) (fun _ => ?_) | with_reducible refine Gd.beq (fun _ => ?_) (fun _ => ?_) | with_reducible refine Gd.bne (fun _ => ?_) (fun _ => ?_) | with_reducible refine Gd.not ?_ | refine Gd.t ?_ | refine Gd.f ?_ | with_reducible refine Gd.var (fun _ => ?_) (fun _ => ?_)) | (show Sq _ _ _; refine Sq.mk ?_) | (show Ld1 _ _ _; first | (apply Ld1.blk; (focus ((repeat (first | assumption | (apply Blk.from; assumption))); done)); rfl) | (apply Ld1.rsF; (focus ((repeat (first | assumption | (apply RdS.from; assumption))); done)); assumption; rfl) | (apply Ld1.rs; (focus ((repeat (first | assumption | (apply RdS.from; assumption))); done)); assumption; rfl)) | (show Ld _ _ _ _; first | (apply Ld.blk; (focus ((repeat (first | assumption | (apply Blk.from; assumption))); done)); rfl) | (apply Ld.rs; (focus ((repeat (first | assumption | (apply RdS.from; assumption))); done)); assumption)) | (show Ix _ _ _ _ _; first | (apply Ix.rs; (focus ((repeat (first | assumption | (apply RdS.from; assumption))); done)); (first | with_reducible rfl | assumption); (first | assumption | omega)) | (apply Ix.arr; (focus ((repeat (first | assumption | (apply RdS.from; assumption))); done)); (first | assumption | (simp; done)); (first | with_reducible rfl | assumption); (first | assumption | omega))) | (show Al _ _ _ _; refine Al.mk (fun _ _ _ _ _ _ => ?_)) | (show St _ _ _ _; apply St.new; assumption; assumption; assumption; rfl; rfl; intro _ _ _ _))
  refine Lp.g0 T.ok (σ := Nat) (fun i => [(6, .int .i64 (i : Int)), (5, .slice (some ⟨p, 0, none⟩) (f.code.length + 2) (f.code.length + 2)), (4, .int .i64 (f.code.length : Int)), (1, .pointer (some ⟨pf, 0, none⟩)), (2, .pointer (some ⟨pr, 0, none⟩))])
    (fun i w' => i ≤ f.code.length ∧ Blk w' p 35 ((f.code.take i ++ List.replicate (f.code.length + 2 - i) z0).flatMap Ins.enc) ∧ Ext w w' ∧ Blk w' pf 24 (f.v A c).cells.toList ∧ Blk w' pr 24 T.t24.zero.cells.toList) (fun i _ => f.code.length - i) 0 rfl ⟨rfl, rfl, rfl, rfl, rfl, trivial⟩
    ⟨by omega, by simpa using hb3, (e1.trans e2).trans e3, hb.ext e3, hbr.ext e3⟩ ?_
  clear hb hbr hb3 e1 e2 e3 hs1 hs2
  rintro i w4 ⟨hi, hbp, e4, hb, hbr⟩
  have hA4 := RdS.from e4 hA
  have hrp := rd_of_code hbp
  have hlp : (f.code.take i ++ List.replicate (f.code.length + 2 - i) z0).length = f.code.length + 2 := by simp; omega
  by_cases hlt : i < f.code.length
  · obtain ⟨x, hx⟩ : ∃ x, f.code[i]? = some x := ⟨_, List.getElem?_eq_getElem hlt⟩
    repeat' (first | ((show Gd _ _ _; first | with_reducible refine Gd.t ?_ | with_reducible refine Gd.f ?_ | with_reducible refine Gd.dec (fun _ => ?_) (fun _ => ?_) | with_reducible refine Gd.beq (fun _ => ?_) (fun _ => ?_) | with_reducible refine Gd.bne (fun _ => ?_) (fun _ => ?_) | with_reducible refine Gd.not ?_ | refine Gd.t ?_ | refine Gd.f ?_ | with_reducible refine Gd.var (fun _ => ?_) (fun _ => ?_)) <;> first | (exfalso; omega) | skip) | (first | (show Gd _ _ _; first | with_reducible refine Gd.t ?_ | with_reducible refine Gd.f ?_ | with_reducible refine Gd.dec (fun _ => ?_) (fun _ => ?_) | with_reducible refine Gd.beq (fun _ => ?_) (fun _ => ?_) | with_reducible refine Gd.bne (fun _ => ?_) (fun _ => ?_) | with_reducible refine Gd.not ?_ | refine Gd.t ?_ | refine Gd.f ?_ | with_reducible refine Gd.var (fun _ => ?_) (fun _ => ?_)) | (show Sq _ _ _; refine Sq.mk ?_) | (show Ld1 _ _ _; first | (apply Ld1.blk; (focus ((repeat (first | assumption | (apply Blk.from; assumption))); done)); rfl) | (apply Ld1.rsF; (focus ((repeat (first | assumption | (apply RdS.from; assumption))); done)); assumption; rfl) | (apply Ld1.rs; (focus ((repeat (first | assumption | (apply RdS.from; assumption))); done)); assumption; rfl)) | (show Ld _ _ _ _; first | (apply Ld.blk; (focus ((repeat (first | assumption | (apply Blk.from; assumption))); done)); rfl) | (apply Ld.rs; (focus ((repeat (first | assumption | (apply RdS.from; assumption))); done)); assumption)) | (show Ix _ _ _ _ _; first | (apply Ix.rs; (focus ((repeat (first | assumption | (apply RdS.from; assumption))); done)); (first | with_reducible rfl | assumption); (first | assumption | omega)) | (apply Ix.arr; (focus ((repeat (first | assumption | (apply RdS.from; assumption))); done)); (first | assumption | (simp; done)); (first | with_reducible rfl | assumption); (first | assumption | omega))) | (show Al _ _ _ _; refine Al.mk (fun _ _ _ _ _ _ => ?_)) | (show St _ _ _ _; apply St.new; assumption; assumption; assumption; rfl; rfl; intro _ _ _ _)))
    refine St.elem (x := x) hbp (fun y _ => insE y) (insE x) (by rw [hlp]; omega) rfl fun w5 u5 hb5 => ?_
    have hset : (f.code.take i ++ List.replicate (f.code.length + 2 - i) z0).set i x = f.code.take (i + 1) ++ List.replicate (f.code.length + 2 - (i + 1)) z0 := by
      obtain ⟨h1, h2⟩ := List.getElem?_eq_some_iff.1 hx
      obtain ⟨d, hd⟩ : ∃ d, f.code.length + 2 - i = d + 1 := ⟨f.code.length + 2 - i - 1, by omega⟩
      rw [List.set_append_right _ _ (by rw [List.length_take]; omega), hd, List.take_succ_eq_append_getElem h1, h2, show f.code.length + 2 - (i + 1) = d by omega]
      simp [List.replicate_succ, Nat.min_eq_left (Nat.le_of_lt h1)]
    rw [hset] at hb5
    repeat' (first | ((show Gd _ _ _; first | with_reducible refine Gd.t ?_ | with_reducible refine Gd.f ?_ | with_reducible refine Gd.dec (fun _ => ?_) (fun _ => ?_) | with_reducible refine Gd.beq (fun _ => ?_) (fun _ => ?_) | with_reducible refine Gd.bne (fun _ => ?_) (fun _ => ?_) | with_reducible refine Gd.not ?_ | refine Gd.t ?_ | refine Gd.f ?_ | with_reducible refine Gd.var (fun _ => ?_) (fun _ => ?_)) <;> first | (exfalso; omega) | skip) | (first | (show Gd _ _ _; first | with_reducible refine Gd.t ?_ | with_reducible refine Gd.f ?_ | with_reducible refine Gd.dec (fun _ => ?_) (fun _ => ?_) | with_reducible refine Gd.beq (fun _ => ?_) (fun _ => ?_) | with_reducible refine Gd.bne (fun _ => ?_) (fun _ => ?_) | with_reducible refine Gd.not ?_ | refine Gd.t ?_ | refine Gd.f ?_ | with_reducible refine Gd.var (fun _ => ?_) (fun _ => ?_)) | (show Sq _ _ _; refine Sq.mk ?_) | (show Ld1 _ _ _; first | (apply Ld1.blk; (focus ((repeat (first | assumption | (apply Blk.from; assumption))); done)); rfl) | (apply Ld1.rsF; (focus ((repeat (first | assumption | (apply RdS.from; assumption))); done)); assumption; rfl) | (apply Ld1.rs; (focus ((repeat (first | assumption | (apply RdS.from; assumption))); done)); assumption; rfl)) | (show Ld _ _ _ _; first | (apply Ld.blk; (focus ((repeat (first | assumption | (apply Blk.from; assumption))); done)); rfl) | (apply Ld.rs; (focus ((repeat (first | assumption | (apply RdS.from; assumption))); done)); assumption)) | (show Ix _ _ _ _ _; first | (apply Ix.rs; (focus ((repeat (first | assumption | (apply RdS.from; assumption))); done)); (first | with_reducible rfl | assumption); (first | assumption | omega)) | (apply Ix.arr; (focus ((repeat (first | assumption | (apply RdS.from; assumption))); done)); (first | assumption | (simp; done)); (first | with_reducible rfl | assumption); (first | assumption | omega))) | (show Al _ _ _ _; refine Al.mk (fun _ _ _ _ _ _ => ?_)) | (show St _ _ _ _; apply St.new; assumption; assumption; assumption; rfl; rfl; intro _ _ _ _)))
    exact ⟨i + 1, ⟨at_int (m := ((i + 1 : Nat) : Int)) rfl (w64 (by simp) (by omega) (by omega)), rfl, rfl, rfl, rfl, trivial⟩, rfl, ⟨by omega, hb5, e4.upd u5 hplo, hb.upd u5 hpf_ne, hbr.upd u5 hpr_ne⟩, by omega⟩
  · have hi : i = f.code.length := by omega
    subst hi
    rw [List.take_length, show f.code.length + 2 - f.code.length = 2 by omega] at hbp hrp hlp
    repeat' (first | ((show Gd _ _ _; first | with_reducible refine Gd.t ?_ | with_reducible refine Gd.f ?_ | with_reducible refine Gd.dec (fun _ => ?_) (fun _ => ?_) | with_reducible refine Gd.beq (fun _ => ?_) (fun _ => ?_) | with_reducible refine Gd.bne (fun _ => ?_) (fun _ => ?_) | with_reducible refine Gd.not ?_ | refine Gd.t ?_ | refine Gd.f ?_ | with_reducible refine Gd.var (fun _ => ?_) (fun _ => ?_)) <;> first | (exfalso; omega) | skip) | (first | (show Gd _ _ _; first | with_reducible refine Gd.t ?_ | with_reducible refine Gd.f ?_ | with_reducible refine Gd.dec (fun _ => ?_) (fun _ => ?_) | with_reducible refine Gd.beq (fun _ => ?_) (fun _ => ?_) | with_reducible refine Gd.bne (fun _ => ?_) (fun _ => ?_) | with_reducible refine Gd.not ?_ | refine Gd.t ?_ | refine Gd.f ?_ | with_reducible refine Gd.var (fun _ => ?_) (fun _ => ?_)) | (show Sq _ _ _; refine Sq.mk ?_) | (show Ld1 _ _ _; first | (apply Ld1.blk; (focus ((repeat (first | assumption | (apply Blk.from; assumption))); done)); rfl) | (apply Ld1.rsF; (focus ((repeat (first | assumption | (apply RdS.from; assumption))); done)); assumption; rfl) | (apply Ld1.rs; (focus ((repeat (first | assumption | (apply RdS.from; assumption))); done)); assumption; rfl)) | (show Ld _ _ _ _; first | (apply Ld.blk; (focus ((repeat (first | assumption | (apply Blk.from; assumption))); done)); rfl) | (apply Ld.rs; (focus ((repeat (first | assumption | (apply RdS.from; assumption))); done)); assumption)) | (show Ix _ _ _ _ _; first | (apply Ix.rs; (focus ((repeat (first | assumption | (apply RdS.from; assumption))); done)); (first | with_reducible rfl | assumption); (first | assumption | omega)) | (apply Ix.arr; (focus ((repeat (first | assumption | (apply RdS.from; assumption))); done)); (first | assumption | (simp; done)); (first | with_reducible rfl | assumption); (first | assumption | omega))) | (show Al _ _ _ _; refine Al.mk (fun _ _ _ _ _ _ => ?_)) | (show St _ _ _ _; apply St.new; assumption; assumption; assumption; rfl; rfl; intro _ _ _ _)) | (show Cl _ _ _ _ _ _; refine Cl.mk (odd_c 0 _ (by decide)) ?_; rintro _ _ ⟨rfl, _⟩))
    rename_i w5 e5
    refine St.elem (x := oddI 0) (hbp.ext e5) (fun y _ => insE y) (insE _) (by rw [hlp]; omega) rfl fun w6 u6 hb6 => ?_
    rw [List.set_append_right _ _ (Nat.le_refl _), Nat.sub_self] at hb6
    replace hb6 : Blk w6 p 35 ((f.code ++ [oddI 0, z0]).flatMap Ins.enc) := hb6
    have hb66 := (hb.ext e5).upd u6 hpf_ne
    have hbr6 := (hbr.ext e5).upd u6 hpr_ne
    have e06 := (e4.trans e5).upd u6 hplo
    clear hb hbr e4 e5 u6 hbp hrp hlp
    repeat' (first | ((show Gd _ _ _; first | with_reducible refine Gd.t ?_ | with_reducible refine Gd.f ?_ | with_reducible refine Gd.dec (fun _ => ?_) (fun _ => ?_) | with_reducible refine Gd.beq (fun _ => ?_) (fun _ => ?_) | with_reducible refine Gd.bne (fun _ => ?_) (fun _ => ?_) | with_reducible refine Gd.not ?_ | refine Gd.t ?_ | refine Gd.f ?_ | with_reducible refine Gd.var (fun _ => ?_) (fun _ => ?_)) <;> first | (exfalso; omega) | skip) | (first | (show Gd _ _ _; first | with_reducible refine Gd.t ?_ | with_reducible refine Gd.f ?_ | with_reducible refine Gd.dec (fun _ => ?_) (fun _ => ?_) | with_reducible refine Gd.beq (fun _ => ?_) (fun _ => ?_) | with_reducible refine Gd.bne (fun _ => ?_) (fun _ => ?_) | with_reducible refine Gd.not ?_ | refine Gd.t ?_ | refine Gd.f ?_ | with_reducible refine Gd.var (fun _ => ?_) (fun _ => ?_)) | (show Sq _ _ _; refine Sq.mk ?_) | (show Ld1 _ _ _; first | (apply Ld1.blk; (focus ((repeat (first | assumption | (apply Blk.from; assumption))); done)); rfl) | (apply Ld1.rsF; (focus ((repeat (first | assumption | (apply RdS.from; assumption))); done)); assumption; rfl) | (apply Ld1.rs; (focus ((repeat (first | assumption | (apply RdS.from; assumption))); done)); assumption; rfl)) | (show Ld _ _ _ _; first | (apply Ld.blk; (focus ((repeat (first | assumption | (apply Blk.from; assumption))); done)); rfl) | (apply Ld.rs; (focus ((repeat (first | assumption | (apply RdS.from; assumption))); done)); assumption)) | (show Ix _ _ _ _ _; first | (apply Ix.rs; (focus ((repeat (first | assumption | (apply RdS.from; assumption))); done)); (first | with_reducible rfl | assumption); (first | assumption | omega)) | (apply Ix.arr; (focus ((repeat (first | assumption | (apply RdS.from; assumption))); done)); (first | assumption | (simp; done)); (first | with_reducible rfl | assumption); (first | assumption | omega))) | (show Al _ _ _ _; refine Al.mk (fun _ _ _ _ _ _ => ?_)) | (show St _ _ _ _; apply St.new; assumption; assumption; assumption; rfl; rfl; intro _ _ _ _)) | (show Cl _ _ _ _ _ _; refine Cl.mk (odd_c 1 _ (by decide)) ?_; rintro _ _ ⟨rfl, _⟩))
    rename_i w7 e7
    have hl7 : (f.code ++ [oddI 0, z0]).length = f.code.length + 2 := by simp
    (show Ix _ _ _ _ _; refine Ix.arr (i := f.code.length + 1) (RdS.from e7 (rd_of_code hb6)) hl7 hw1 (by rw [hl7]; omega) ?_)
    refine St.elem (x := oddI 1) (i := f.code.length + 1) (hb6.ext e7) (fun y _ => insE y) (insE _) (by rw [hl7]; omega) rfl fun w8 u8 hb8 => ?_
    rw [List.set_append_right _ _ (by omega), show f.code.length + 1 - f.code.length = 1 by omega] at hb8
    replace hb8 : Blk w8 p 35 ((f.code ++ [oddI 0, oddI 1]).flatMap Ins.enc) := hb8
    have hb := (hb66.ext e7).upd u8 hpf_ne
    have hbr := (hbr6.ext e7).upd u8 hpr_ne
    have e08 := (e06.trans e7).upd u8 hplo
    clear hb66 hbr6 e06 e7 u8 hb6
    repeat' (first | ((show Gd _ _ _; first | with_reducible refine Gd.t ?_ | with_reducible refine Gd.f ?_ | with_reducible refine Gd.dec (fun _ => ?_) (fun _ => ?_) | with_reducible refine Gd.beq (fun _ => ?_) (fun _ => ?_) | with_reducible refine Gd.bne (fun _ => ?_) (fun _ => ?_) | with_reducible refine Gd.not ?_ | refine Gd.t ?_ | refine Gd.f ?_ | with_reducible refine Gd.var (fun _ => ?_) (fun _ => ?_)) <;> first | (exfalso; omega) | skip) | (first | (show Gd _ _ _; first | with_reducible refine Gd.t ?_ | with_reducible refine Gd.f ?_ | with_reducible refine Gd.dec (fun _ => ?_) (fun _ => ?_) | with_reducible refine Gd.beq (fun _ => ?_) (fun _ => ?_) | with_reducible refine Gd.bne (fun _ => ?_) (fun _ => ?_) | with_reducible refine Gd.not ?_ | refine Gd.t ?_ | refine Gd.f ?_ | with_reducible refine Gd.var (fun _ => ?_) (fun _ => ?_)) | (show Sq _ _ _; refine Sq.mk ?_) | (show Ld1 _ _ _; first | (apply Ld1.blk; (focus ((repeat (first | assumption | (apply Blk.from; assumption))); done)); rfl) | (apply Ld1.rsF; (focus ((repeat (first | assumption | (apply RdS.from; assumption))); done)); assumption; rfl) | (apply Ld1.rs; (focus ((repeat (first | assumption | (apply RdS.from; assumption))); done)); assumption; rfl)) | (show Ld _ _ _ _; first | (apply Ld.blk; (focus ((repeat (first | assumption | (apply Blk.from; assumption))); done)); rfl) | (apply Ld.rs; (focus ((repeat (first | assumption | (apply RdS.from; assumption))); done)); assumption)) | (show Ix _ _ _ _ _; first | (apply Ix.rs; (focus ((repeat (first | assumption | (apply RdS.from; assumption))); done)); (first | with_reducible rfl | assumption); (first | assumption | omega)) | (apply Ix.arr; (focus ((repeat (first | assumption | (apply RdS.from; assumption))); done)); (first | assumption | (simp; done)); (first | with_reducible rfl | assumption); (first | assumption | omega))) | (show Al _ _ _ _; refine Al.mk (fun _ _ _ _ _ _ => ?_)) | (show St _ _ _ _; apply St.new; assumption; assumption; assumption; rfl; rfl; intro _ _ _ _)))
    rename_i pg wg0 hpg hbg0 eg0 hsg0 wg eg hbg hsg
    replace hbg : Blk wg pg 24 (f.v A c).cells.toList := hbg
    have hpg1 : pr ≠ pg := by have := hbr.lt; omega
    replace hbr := hbr.ext eg
    replace hb8 := hb8.ext eg
    have hpg2 : p ≠ pg := hb8.ne hbg (by decide)
    have e0g := e08.trans eg
    have hpglo : w.heap.size ≤ pg := by have := e08.size; omega
    clear hbg0 eg0 hsg0 hsg hb e08 eg
    refine Sm.cutHi (i := f.code.length) T.ok rfl rfl rfl rfl rfl (by omega) ?_
    refine St.upd hbg rfl rfl (fun w9 u9 hbg9 => ?_)
    replace hbr := hbr.upd u9 hpg1
    replace hb8 := hb8.upd u9 hpg2
    replace hbg9 : Blk w9 pg 24 (f.v (some ⟨p, 0, none⟩) (f.code.length + 2)).cells.toList := hbg9
    have e09 := e0g.upd u9 hpglo
    clear u9 e0g hbg
    repeat' (first | ((show Gd _ _ _; first | with_reducible refine Gd.t ?_ | with_reducible refine Gd.f ?_ | with_reducible refine Gd.dec (fun _ => ?_) (fun _ => ?_) | with_reducible refine Gd.beq (fun _ => ?_) (fun _ => ?_) | with_reducible refine Gd.bne (fun _ => ?_) (fun _ => ?_) | with_reducible refine Gd.not ?_ | refine Gd.t ?_ | refine Gd.f ?_ | with_reducible refine Gd.var (fun _ => ?_) (fun _ => ?_)) <;> first | (exfalso; omega) | skip) | (first | (show Gd _ _ _; first | with_reducible refine Gd.t ?_ | with_reducible refine Gd.f ?_ | with_reducible refine Gd.dec (fun _ => ?_) (fun _ => ?_) | with_reducible refine Gd.beq (fun _ => ?_) (fun _ => ?_) | with_reducible refine Gd.bne (fun _ => ?_) (fun _ => ?_) | with_reducible refine Gd.not ?_ | refine Gd.t ?_ | refine Gd.f ?_ | with_reducible refine Gd.var (fun _ => ?_) (fun _ => ?_)) | (show Sq _ _ _; refine Sq.mk ?_) | (show Ld1 _ _ _; first | (apply Ld1.blk; (focus ((repeat (first | assumption | (apply Blk.from; assumption))); done)); rfl) | (apply Ld1.rsF; (focus ((repeat (first | assumption | (apply RdS.from; assumption))); done)); assumption; rfl) | (apply Ld1.rs; (focus ((repeat (first | assumption | (apply RdS.from; assumption))); done)); assumption; rfl)) | (show Ld _ _ _ _; first | (apply Ld.blk; (focus ((repeat (first | assumption | (apply Blk.from; assumption))); done)); rfl) | (apply Ld.rs; (focus ((repeat (first | assumption | (apply RdS.from; assumption))); done)); assumption)) | (show Ix _ _ _ _ _; first | (apply Ix.rs; (focus ((repeat (first | assumption | (apply RdS.from; assumption))); done)); (first | with_reducible rfl | assumption); (first | assumption | omega)) | (apply Ix.arr; (focus ((repeat (first | assumption | (apply RdS.from; assumption))); done)); (first | assumption | (simp; done)); (first | with_reducible rfl | assumption); (first | assumption | omega))) | (show Al _ _ _ _; refine Al.mk (fun _ _ _ _ _ _ => ?_)) | (show St _ _ _ _; apply St.new; assumption; assumption; assumption; rfl; rfl; intro _ _ _ _)))
    refine St.upd hbr rfl rfl (fun w10 u10 hbr10 => ?_)
    replace hb8 := hb8.upd u10 hpr_ne.symm
    replace hbr10 : Blk w10 pr 24 (f.v (some ⟨p, 0, none⟩) (f.code.length + 2)).cells.toList := hbr10
    have e010 := e09.upd u10 hprlo
    clear u10 e09 hbr hbg9
    repeat' (first | ((show Gd _ _ _; first | with_reducible refine Gd.t ?_ | with_reducible refine Gd.f ?_ | with_reducible refine Gd.dec (fun _ => ?_) (fun _ => ?_) | with_reducible refine Gd.beq (fun _ => ?_) (fun _ => ?_) | with_reducible refine Gd.bne (fun _ => ?_) (fun _ => ?_) | with_reducible refine Gd.not ?_ | refine Gd.t ?_ | refine Gd.f ?_ | with_reducible refine Gd.var (fun _ => ?_) (fun _ => ?_)) <;> first | (exfalso; omega) | skip) | (first | (show Gd _ _ _; first | with_reducible refine Gd.t ?_ | with_reducible refine Gd.f ?_ | with_reducible refine Gd.dec (fun _ => ?_) (fun _ => ?_) | with_reducible refine Gd.beq (fun _ => ?_) (fun _ => ?_) | with_reducible refine Gd.bne (fun _ => ?_) (fun _ => ?_) | with_reducible refine Gd.not ?_ | refine Gd.t ?_ | refine Gd.f ?_ | with_reducible refine Gd.var (fun _ => ?_) (fun _ => ?_)) | (show Sq _ _ _; refine Sq.mk ?_) | (show Ld1 _ _ _; first | (apply Ld1.blk; (focus ((repeat (first | assumption | (apply Blk.from; assumption))); done)); rfl) | (apply Ld1.rsF; (focus ((repeat (first | assumption | (apply RdS.from; assumption))); done)); assumption; rfl) | (apply Ld1.rs; (focus ((repeat (first | assumption | (apply RdS.from; assumption))); done)); assumption; rfl)) | (show Ld _ _ _ _; first | (apply Ld.blk; (focus ((repeat (first | assumption | (apply Blk.from; assumption))); done)); rfl) | (apply Ld.rs; (focus ((repeat (first | assumption | (apply RdS.from; assumption))); done)); assumption)) | (show Ix _ _ _ _ _; first | (apply Ix.rs; (focus ((repeat (first | assumption | (apply RdS.from; assumption))); done)); (first | with_reducible rfl | assumption); (first | assumption | omega)) | (apply Ix.arr; (focus ((repeat (first | assumption | (apply RdS.from; assumption))); done)); (first | assumption | (simp; done)); (first | with_reducible rfl | assumption); (first | assumption | omega))) | (show Al _ _ _ _; refine Al.mk (fun _ _ _ _ _ _ => ?_)) | (show St _ _ _ _; apply St.new; assumption; assumption; assumption; rfl; rfl; intro _ _ _ _)))
    exact ⟨p, rfl, hplo, hb8, e010⟩
theorem sameFunc_c (f g : Fn) (A C : Option Addr) (c d : Nat) (w : World) (hA : RdC w A f.code) (hC : RdC w C g.code) (hl : f.code.length ≤ 1048576) :
    Cl Tryd.prog 22 #[f.v A c, g.v C d] w (fun v w' => v = .bool (decide (f = g)) ∧ Ext w w') (fun _ _ => False) := by
  refine calls_ex (args := [f.v A c, g.v C d]) T.ok Tryd.func22 rfl rfl rfl rfl ?_
  repeat' (first | (show Gd _ _ _; first | with_reducible refine Gd.t ?_ | with_reducible refine Gd.f ?_ | with_reducible refine Gd.dec (fun _ => ?_) (fun _ => ?_) | with_reducible refine Gd.beq (fun _ => ?_) (fun _ => ?_) | with_reducible refine Gd.bne (fun _ => ?_) (fun _ => ?_) | with_reducible refine Gd.not ?_ | refine Gd.t ?_ | refine Gd.f ?_ | with_reducible refine Gd.var (fun _ => ?_) (fun _ => ?_)) | (show Sq _ _ _; refine Sq.mk ?_) | (show Ld1 _ _ _; first | (apply Ld1.blk; (focus ((repeat (first | assumption | (apply Blk.from; assumption))); done)); rfl) | (apply Ld1.rsF; (focus ((repeat (first | assumption | (apply RdS.from; assumption))); done)); assumption; rfl) | (apply Ld1.rs; (focus ((repeat (first | assumption | (apply RdS.from; assumption))); done)); assumption; rfl)) | (show Ld _ _ _ _; first | (apply Ld.blk; (focus ((repeat (first | assumption | (apply Blk.from; assumption))); done)); rfl) | (apply Ld.rs; (focus ((repeat (first | assumption | (apply RdS.from; assumption))); done)); assumption)) | (show Ix _ _ _ _ _; first | (apply Ix.rs; (focus ((repeat (first | assumption | (apply RdS.from; assumption))); done)); (first | with_reducible rfl | assumption); (first | assumption | omega)) | (apply Ix.arr; (focus ((repeat (first | assumption | (apply RdS.from; assumption))); done)); (first | assumption | (simp; done)); (first | with_reducible rfl | assumption); (first | assumption | omega))) | (show Al _ _ _ _; refine Al.mk (fun _ _ _ _ _ _ => ?_)) | (show St _ _ _ _; apply St.new; assumption; assumption; assumption; rfl; rfl; intro _ _ _ _))
  · rename_i h; have : f ≠ g := fun e => by subst e; exact h rfl
    exact ⟨b_eq (by simp [this]), by (repeat (first | exact Ext.refl _ | assumption | (apply Ext.from; assumption)))⟩
  · rename_i h; have : f ≠ g := fun e => by subst e; exact h rfl
    exact ⟨b_eq (by simp [this]), by (repeat (first | exact Ext.refl _ | assumption | (apply Ext.from; assumption)))⟩
  · rename_i h; have : f ≠ g := fun e => by subst e; exact h rfl
    exact ⟨b_eq (by simp [this]), by (repeat (first | exact Ext.refl _ | assumption | (apply Ext.from; assumption)))⟩
  · rename_i h; have : f ≠ g := fun e => by subst e; exact h rfl
    exact ⟨b_eq (by simp [this]), by (repeat (first | exact Ext.refl _ | assumption | (apply Ext.from; assumption)))⟩
  rename_i pf wf hpf hbf ef hsf pg w2 hpg hbg eg hsg h1 h2 h3 h4
  have hlm : f.code.length = g.code.length := by omega
  have hfg : f.code = g.code → f = g := fun e => by
    obtain ⟨a1, a2, a3, a4⟩ := f
    obtain ⟨b1, b2, b3, b4⟩ := g
    simp only at h1 h2 h3 e
    subst h1; subst h2; subst h3; subst e; rfl
  have hbf := hbf.ext eg
  have e02 := ef.trans eg
  refine Lp.g0 T.ok (σ := Nat) (fun i => [(5, .int .i64 (i : Int)), (2, .pointer (some ⟨pf, 0, none⟩)), (3, .pointer (some ⟨pg, 0, none⟩))])
    (fun i w' => i ≤ f.code.length ∧ f.code.take i = g.code.take i ∧ Ext w2 w') (fun i _ => f.code.length - i) 0 rfl ⟨rfl, rfl, rfl, trivial⟩ ⟨by omega, by simp, Ext.refl _⟩ ?_
  rintro i w3 ⟨hi, ht, e3⟩
  have e03 := e02.trans e3
  have hA := RdS.from e03 hA
  have hC := RdS.from e03 hC
  have hbf := hbf.ext e3
  have hbg := hbg.ext e3
  by_cases hlt : i < f.code.length
  · obtain ⟨x, hx⟩ : ∃ x, f.code[i]? = some x := ⟨_, List.getElem?_eq_getElem hlt⟩
    obtain ⟨y, hy⟩ : ∃ y, g.code[i]? = some y := ⟨_, List.getElem?_eq_getElem (by omega)⟩
    repeat' (first | ((show Gd _ _ _; first | with_reducible refine Gd.t ?_ | with_reducible refine Gd.f ?_ | with_reducible refine Gd.dec (fun _ => ?_) (fun _ => ?_) | with_reducible refine Gd.beq (fun _ => ?_) (fun _ => ?_) | with_reducible refine Gd.bne (fun _ => ?_) (fun _ => ?_) | with_reducible refine Gd.not ?_ | refine Gd.t ?_ | refine Gd.f ?_ | with_reducible refine Gd.var (fun _ => ?_) (fun _ => ?_)) <;> first | (exfalso; omega) | skip) | (first | (show Gd _ _ _; first | with_reducible refine Gd.t ?_ | with_reducible refine Gd.f ?_ | with_reducible refine Gd.dec (fun _ => ?_) (fun _ => ?_) | with_reducible refine Gd.beq (fun _ => ?_) (fun _ => ?_) | with_reducible refine Gd.bne (fun _ => ?_) (fun _ => ?_) | with_reducible refine Gd.not ?_ | refine Gd.t ?_ | refine Gd.f ?_ | with_reducible refine Gd.var (fun _ => ?_) (fun _ => ?_)) | (show Sq _ _ _; refine Sq.mk ?_) | (show Ld1 _ _ _; first | (apply Ld1.blk; (focus ((repeat (first | assumption | (apply Blk.from; assumption))); done)); rfl) | (apply Ld1.rsF; (focus ((repeat (first | assumption | (apply RdS.from; assumption))); done)); assumption; rfl) | (apply Ld1.rs; (focus ((repeat (first | assumption | (apply RdS.from; assumption))); done)); assumption; rfl)) | (show Ld _ _ _ _; first | (apply Ld.blk; (focus ((repeat (first | assumption | (apply Blk.from; assumption))); done)); rfl) | (apply Ld.rs; (focus ((repeat (first | assumption | (apply RdS.from; assumption))); done)); assumption)) | (show Ix _ _ _ _ _; first | (apply Ix.rs; (focus ((repeat (first | assumption | (apply RdS.from; assumption))); done)); (first | with_reducible rfl | assumption); (first | assumption | omega)) | (apply Ix.arr; (focus ((repeat (first | assumption | (apply RdS.from; assumption))); done)); (first | assumption | (simp; done)); (first | with_reducible rfl | assumption); (first | assumption | omega))) | (show Al _ _ _ _; refine Al.mk (fun _ _ _ _ _ _ => ?_)) | (show St _ _ _ _; apply St.new; assumption; assumption; assumption; rfl; rfl; intro _ _ _ _)))
    (show Dr _ _ _ _ _ _ _; refine Dr.quiet T.ok mixed (by kernel_rfl) (fun W hW => ?_))
    repeat' (first | (show Gd _ _ _; first | with_reducible refine Gd.t ?_ | with_reducible refine Gd.f ?_ | with_reducible refine Gd.dec (fun _ => ?_) (fun _ => ?_) | with_reducible refine Gd.beq (fun _ => ?_) (fun _ => ?_) | with_reducible refine Gd.bne (fun _ => ?_) (fun _ => ?_) | with_reducible refine Gd.not ?_ | refine Gd.t ?_ | refine Gd.f ?_ | with_reducible refine Gd.var (fun _ => ?_) (fun _ => ?_)) | (show QLd1 _ _ _; first | (apply QLd1.blk hW; (focus ((repeat (first | assumption | (apply Blk.from; assumption))); done)); rfl) | (apply QLd1.rsF hW; (focus ((repeat (first | assumption | (apply RdS.from; assumption))); done)); assumption; rfl) | (apply QLd1.rs hW; (focus ((repeat (first | assumption | (apply RdS.from; assumption))); done)); assumption; rfl)) | (show QLd _ _ _ _; first | (apply QLd.blk hW; (focus ((repeat (first | assumption | (apply Blk.from; assumption))); done)); rfl) | (apply QLd.rs hW; (focus ((repeat (first | assumption | (apply RdS.from; assumption))); done)); assumption)) | (show Ix _ _ _ _ _; first | (apply Ix.rs; (focus ((repeat (first | assumption | (apply RdS.from; assumption))); done)); (first | with_reducible rfl | assumption); (first | assumption | omega)) | (apply Ix.arr; (focus ((repeat (first | assumption | (apply RdS.from; assumption))); done)); (first | assumption | (simp; done)); (first | with_reducible rfl | assumption); (first | assumption | omega))))
    intro w4 e4
    repeat' (first | ((show Gd _ _ _; first | with_reducible refine Gd.t ?_ | with_reducible refine Gd.f ?_ | with_reducible refine Gd.dec (fun _ => ?_) (fun _ => ?_) | with_reducible refine Gd.beq (fun _ => ?_) (fun _ => ?_) | with_reducible refine Gd.bne (fun _ => ?_) (fun _ => ?_) | with_reducible refine Gd.not ?_ | refine Gd.t ?_ | refine Gd.f ?_ | with_reducible refine Gd.var (fun _ => ?_) (fun _ => ?_)) <;> first | (exfalso; omega) | skip) | (first | (show Gd _ _ _; first | with_reducible refine Gd.t ?_ | with_reducible refine Gd.f ?_ | with_reducible refine Gd.dec (fun _ => ?_) (fun _ => ?_) | with_reducible refine Gd.beq (fun _ => ?_) (fun _ => ?_) | with_reducible refine Gd.bne (fun _ => ?_) (fun _ => ?_) | with_reducible refine Gd.not ?_ | refine Gd.t ?_ | refine Gd.f ?_ | with_reducible refine Gd.var (fun _ => ?_) (fun _ => ?_)) | (show Sq _ _ _; refine Sq.mk ?_) | (show Ld1 _ _ _; first | (apply Ld1.blk; (focus ((repeat (first | assumption | (apply Blk.from; assumption))); done)); rfl) | (apply Ld1.rsF; (focus ((repeat (first | assumption | (apply RdS.from; assumption))); done)); assumption; rfl) | (apply Ld1.rs; (focus ((repeat (first | assumption | (apply RdS.from; assumption))); done)); assumption; rfl)) | (show Ld _ _ _ _; first | (apply Ld.blk; (focus ((repeat (first | assumption | (apply Blk.from; assumption))); done)); rfl) | (apply Ld.rs; (focus ((repeat (first | assumption | (apply RdS.from; assumption))); done)); assumption)) | (show Ix _ _ _ _ _; first | (apply Ix.rs; (focus ((repeat (first | assumption | (apply RdS.from; assumption))); done)); (first | with_reducible rfl | assumption); (first | assumption | omega)) | (apply Ix.arr; (focus ((repeat (first | assumption | (apply RdS.from; assumption))); done)); (first | assumption | (simp; done)); (first | with_reducible rfl | assumption); (first | assumption | omega))) | (show Al _ _ _ _; refine Al.mk (fun _ _ _ _ _ _ => ?_)) | (show St _ _ _ _; apply St.new; assumption; assumption; assumption; rfl; rfl; intro _ _ _ _)))
    · rename_i h
      have he : x = y := by
        obtain ⟨a1, a2, a3, a4, a5⟩ := x
        obtain ⟨b1, b2, b3, b4, b5⟩ := y
        simp at h
        obtain ⟨rfl, rfl, rfl, rfl, rfl⟩ := h
        rfl
      subst he
      exact ⟨i + 1, ⟨at_int (m := ((i + 1 : Nat) : Int)) rfl (w64 (by simp) (by omega) (by omega)), rfl, rfl, trivial⟩, rfl, ⟨by omega, take_next ht hx hy, e3.trans e4⟩, by omega⟩
    · rename_i h
      have hne : x ≠ y := fun e => by subst e; simp at h
      have : f ≠ g := fun e => by subst e; rw [hx] at hy; simp at hy; exact hne hy
      exact ⟨b_eq (by simp [this]), e03.trans e4⟩
  · repeat' (first | ((show Gd _ _ _; first | with_reducible refine Gd.t ?_ | with_reducible refine Gd.f ?_ | with_reducible refine Gd.dec (fun _ => ?_) (fun _ => ?_) | with_reducible refine Gd.beq (fun _ => ?_) (fun _ => ?_) | with_reducible refine Gd.bne (fun _ => ?_) (fun _ => ?_) | with_reducible refine Gd.not ?_ | refine Gd.t ?_ | refine Gd.f ?_ | with_reducible refine Gd.var (fun _ => ?_) (fun _ => ?_)) <;> first | (exfalso; omega) | skip) | (first | (show Gd _ _ _; first | with_reducible refine Gd.t ?_ | with_reducible refine Gd.f ?_ | with_reducible refine Gd.dec (fun _ => ?_) (fun _ => ?_) | with_reducible refine Gd.beq (fun _ => ?_) (fun _ => ?_) | with_reducible refine Gd.bne (fun _ => ?_) (fun _ => ?_) | with_reducible refine Gd.not ?_ | refine Gd.t ?_ | refine Gd.f ?_ | with_reducible refine Gd.var (fun _ => ?_) (fun _ => ?_)) | (show Sq _ _ _; refine Sq.mk ?_) | (show Ld1 _ _ _; first | (apply Ld1.blk; (focus ((repeat (first | assumption | (apply Blk.from; assumption))); done)); rfl) | (apply Ld1.rsF; (focus ((repeat (first | assumption | (apply RdS.from; assumption))); done)); assumption; rfl) | (apply Ld1.rs; (focus ((repeat (first | assumption | (apply RdS.from; assumption))); done)); assumption; rfl)) | (show Ld _ _ _ _; first | (apply Ld.blk; (focus ((repeat (first | assumption | (apply Blk.from; assumption))); done)); rfl) | (apply Ld.rs; (focus ((repeat (first | assumption | (apply RdS.from; assumption))); done)); assumption)) | (show Ix _ _ _ _ _; first | (apply Ix.rs; (focus ((repeat (first | assumption | (apply RdS.from; assumption))); done)); (first | with_reducible rfl | assumption); (first | assumption | omega)) | (apply Ix.arr; (focus ((repeat (first | assumption | (apply RdS.from; assumption))); done)); (first | assumption | (simp; done)); (first | with_reducible rfl | assumption); (first | assumption | omega))) | (show Al _ _ _ _; refine Al.mk (fun _ _ _ _ _ _ => ?_)) | (show St _ _ _ _; apply St.new; assumption; assumption; assumption; rfl; rfl; intro _ _ _ _)))
    have hi : i = f.code.length := by omega
    subst hi
    have := hfg (take_all hlm ht)
    exact ⟨b_eq (by simp [this]), e03⟩
end Go.Proofs.YtbbadmlekagloaaDoor
namespace Go.Proofs.YtbbadmlekagloaaDoor
open Go Go.Sh
attribute [local irreducible] Blk Ext RdS
def turnedI (x : Ins) : Ins := { x with k := IntKind.i64.wrap (x.k + 1) }
def turnedF (f : Fn) : Fn := { f with code := f.code.reverse.map turnedI }
theorem turned_len (f : Fn) : (turnedF f).code.length = f.code.length := by simp [turnedF]
def funV (f : Fn) (C : Option Addr) (n c : Nat) : List Value := [.int .i64 f.params, .int .i64 f.regs, .int .i64 f.slots, .slice C n c]
theorem turned_c (f : Fn) (A : Option Addr) (c : Nat) (w : World) (hA : RdC w A f.code) (hl : f.code.length ≤ 1048576) :
    Cl Tryd.prog 53 #[f.v A c] w (fun v w' => ∃ C d, v = (turnedF f).v C d ∧ RdC w' C (turnedF f).code ∧ Ext w w' ∧ Fresh w C ∧ (turnedF f).code.length ≤ d) (fun _ _ => False) := by
  refine calls_ex (args := [f.v A c]) T.ok Tryd.func53 rfl rfl rfl rfl ?_
  refine Sq.mk ?_
  refine Al.mk fun pf w1 hpf hb e1 hs1 => ?_
  refine Al.mk fun pr w2 hpr hbr e2 hs2 => ?_
  have hb := hb.ext e2
  repeat' (first | (show Gd _ _ _; first | with_reducible refine Gd.t ?_ | with_reducible refine Gd.f ?_ | with_reducible refine Gd.dec (fun _ => ?_) (fun _ => ?_) | with_reducible refine Gd.beq (fun _ => ?_) (fun _ => ?_) | with_reducible refine Gd.bne (fun _ => ?_) (fun _ => ?_) | with_reducible refine Gd.not ?_ | refine Gd.t ?_ | refine Gd.f ?_ | with_reducible refine Gd.var (fun _ => ?_) (fun _ => ?_)) | (show Sq _ _ _; refine Sq.mk ?_) | (show Ld1 _ _ _; first | (apply Ld1.blk; (focus ((repeat (first | assumption | (apply Blk.from; assumption))); done)); rfl) | (apply Ld1.rsF; (focus ((repeat (first | assumption | (apply RdS.from; assumption))); done)); assumption; rfl) | (apply Ld1.rs; (focus ((repeat (first | assumption | (apply RdS.from; assumption))); done)); assumption; rfl)) | (show Ld _ _ _ _; first | (apply Ld.blk; (focus ((repeat (first | assumption | (apply Blk.from; assumption))); done)); rfl) | (apply Ld.rs; (focus ((repeat (first | assumption | (apply RdS.from; assumption))); done)); assumption)) | (show Ix _ _ _ _ _; first | (apply Ix.rs; (focus ((repeat (first | assumption | (apply RdS.from; assumption))); done)); (first | with_reducible rfl | assumption); (first | assumption | omega)) | (apply Ix.arr; (focus ((repeat (first | assumption | (apply RdS.from; assumption))); done)); (first | assumption | (simp; done)); (first | with_reducible rfl | assumption); (first | assumption | omega))) | (show Al _ _ _ _; refine Al.mk (fun _ _ _ _ _ _ => ?_)) | (show St _ _ _ _; apply St.new; assumption; assumption; assumption; rfl; rfl; intro _ _ _ _))
  rename_i pg wg0 hpg hbg0 eg0 hsg0 wg1 eg1 hbg1 hsg1 wg eg hbg hsg
  replace hbg : Blk wg pg 24 (funV f none 0 0) := hbg
  replace eg : Ext w2 wg := eg
  replace hb := hb.ext eg
  replace hbr := hbr.ext eg
  have e0g := (e1.trans e2).trans eg
  have hpglo : w.heap.size ≤ pg := by have := (e1.trans e2).size; omega
  have hprlo : w.heap.size ≤ pr := by have := e1.size; omega
  have hpfg : pf ≠ pg := by have := e2.size; omega
  have hprg : pr ≠ pg := by omega
  clear hbg0 eg0 hsg0 eg1 hbg1 hsg1 hsg eg e1 e2 hs1 hs2
  repeat' (first | (show Gd _ _ _; first | with_reducible refine Gd.t ?_ | with_reducible refine Gd.f ?_ | with_reducible refine Gd.dec (fun _ => ?_) (fun _ => ?_) | with_reducible refine Gd.beq (fun _ => ?_) (fun _ => ?_) | with_reducible refine Gd.bne (fun _ => ?_) (fun _ => ?_) | with_reducible refine Gd.not ?_ | refine Gd.t ?_ | refine Gd.f ?_ | with_reducible refine Gd.var (fun _ => ?_) (fun _ => ?_)) | (show Sq _ _ _; refine Sq.mk ?_) | (show Ld1 _ _ _; first | (apply Ld1.blk; (focus ((repeat (first | assumption | (apply Blk.from; assumption))); done)); rfl) | (apply Ld1.rsF; (focus ((repeat (first | assumption | (apply RdS.from; assumption))); done)); assumption; rfl) | (apply Ld1.rs; (focus ((repeat (first | assumption | (apply RdS.from; assumption))); done)); assumption; rfl)) | (show Ld _ _ _ _; first | (apply Ld.blk; (focus ((repeat (first | assumption | (apply Blk.from; assumption))); done)); rfl) | (apply Ld.rs; (focus ((repeat (first | assumption | (apply RdS.from; assumption))); done)); assumption)) | (show Ix _ _ _ _ _; first | (apply Ix.rs; (focus ((repeat (first | assumption | (apply RdS.from; assumption))); done)); (first | with_reducible rfl | assumption); (first | assumption | omega)) | (apply Ix.arr; (focus ((repeat (first | assumption | (apply RdS.from; assumption))); done)); (first | assumption | (simp; done)); (first | with_reducible rfl | assumption); (first | assumption | omega))) | (show Al _ _ _ _; refine Al.mk (fun _ _ _ _ _ _ => ?_)) | (show St _ _ _ _; apply St.new; assumption; assumption; assumption; rfl; rfl; intro _ _ _ _))
  refine Lp.g0 T.ok (σ := Nat × Option Addr × Nat) (fun s => [(4, .int .i64 ((f.code.length : Int) - 1 - s.1)), (1, .pointer (some ⟨pf, 0, none⟩)), (2, .pointer (some ⟨pr, 0, none⟩)), (3, .pointer (some ⟨pg, 0, none⟩))])
    (fun s w' => s.1 ≤ f.code.length ∧ Que Ins.enc 5 35 w' w.heap.size s.2.1 s.2.2 ((f.code.reverse.take s.1).map turnedI) ∧ Blk w' pg 24 (funV f s.2.1 s.1 s.2.2) ∧ Blk w' pf 24 (f.v A c).cells.toList ∧ Blk w' pr 24 T.t24.zero.cells.toList ∧ Ext w w')
    (fun s _ => f.code.length - s.1) (0, none, 0) rfl ⟨at_int rfl (w64 (by simp) (by omega) (by omega)), rfl, rfl, rfl, trivial⟩ ⟨by simp, by simpa using Que.nil, hbg, hb, hbr, e0g⟩ ?_
  clear hbg hb hbr e0g
  rintro ⟨i, C, d⟩ w4 ⟨hi, hQ, hbg, hb, hbr, e4⟩
  simp only at hi hQ hbg hb hbr e4 ⊢
  have hA4 := RdS.from e4 hA
  have hql : ((f.code.reverse.take i).map turnedI).length = i := by simp; omega
  by_cases hlt : i < f.code.length
  · obtain ⟨x, hx⟩ : ∃ x, f.code[f.code.length - 1 - i]? = some x := ⟨_, List.getElem?_eq_getElem (by omega)⟩
    have hxi : (f.code.length : Int) - 1 - (i : Int) = ((f.code.length - 1 - i : Nat) : Int) := by omega
    have hxl : f.code.length - 1 - i < f.code.length := by omega
    repeat' (first | ((show Gd _ _ _; first | with_reducible refine Gd.t ?_ | with_reducible refine Gd.f ?_ | with_reducible refine Gd.dec (fun _ => ?_) (fun _ => ?_) | with_reducible refine Gd.beq (fun _ => ?_) (fun _ => ?_) | with_reducible refine Gd.bne (fun _ => ?_) (fun _ => ?_) | with_reducible refine Gd.not ?_ | refine Gd.t ?_ | refine Gd.f ?_ | with_reducible refine Gd.var (fun _ => ?_) (fun _ => ?_)) <;> first | (exfalso; omega) | skip) | (first | (show Gd _ _ _; first | with_reducible refine Gd.t ?_ | with_reducible refine Gd.f ?_ | with_reducible refine Gd.dec (fun _ => ?_) (fun _ => ?_) | with_reducible refine Gd.beq (fun _ => ?_) (fun _ => ?_) | with_reducible refine Gd.bne (fun _ => ?_) (fun _ => ?_) | with_reducible refine Gd.not ?_ | refine Gd.t ?_ | refine Gd.f ?_ | with_reducible refine Gd.var (fun _ => ?_) (fun _ => ?_)) | (show Sq _ _ _; refine Sq.mk ?_) | (show Ld1 _ _ _; first | (apply Ld1.blk; (focus ((repeat (first | assumption | (apply Blk.from; assumption))); done)); rfl) | (apply Ld1.rsF; (focus ((repeat (first | assumption | (apply RdS.from; assumption))); done)); assumption; rfl) | (apply Ld1.rs; (focus ((repeat (first | assumption | (apply RdS.from; assumption))); done)); assumption; rfl)) | (show Ld _ _ _ _; first | (apply Ld.blk; (focus ((repeat (first | assumption | (apply Blk.from; assumption))); done)); rfl) | (apply Ld.rs; (focus ((repeat (first | assumption | (apply RdS.from; assumption))); done)); assumption)) | (show Ix _ _ _ _ _; first | (apply Ix.rs; (focus ((repeat (first | assumption | (apply RdS.from; assumption))); done)); (first | with_reducible rfl | assumption); (first | assumption | omega)) | (apply Ix.arr; (focus ((repeat (first | assumption | (apply RdS.from; assumption))); done)); (first | assumption | (simp; done)); (first | with_reducible rfl | assumption); (first | assumption | omega))) | (show Al _ _ _ _; refine Al.mk (fun _ _ _ _ _ _ => ?_)) | (show St _ _ _ _; apply St.new; assumption; assumption; assumption; rfl; rfl; intro _ _ _ _)))
    rename_i p5 w50 hp5 hb50 e50 hs50 w51 e51 hb51 hs51 w5 e5 hb5 hs5
    replace hb5 : Blk w5 p5 35 (Ins.enc (turnedI x)) := hb5
    replace e5 : Ext w4 w5 := e5
    replace hbg := hbg.ext e5
    replace hb := hb.ext e5
    replace hbr := hbr.ext e5
    have hQ5 := hQ.ext e5
    have e05 := e4.trans e5
    clear hb50 e50 hs50 e51 hb51 hs51 hs5 e5 hQ e4
    repeat' (first | ((show Gd _ _ _; first | with_reducible refine Gd.t ?_ | with_reducible refine Gd.f ?_ | with_reducible refine Gd.dec (fun _ => ?_) (fun _ => ?_) | with_reducible refine Gd.beq (fun _ => ?_) (fun _ => ?_) | with_reducible refine Gd.bne (fun _ => ?_) (fun _ => ?_) | with_reducible refine Gd.not ?_ | refine Gd.t ?_ | refine Gd.f ?_ | with_reducible refine Gd.var (fun _ => ?_) (fun _ => ?_)) <;> first | (exfalso; omega) | skip) | (first | (show Gd _ _ _; first | with_reducible refine Gd.t ?_ | with_reducible refine Gd.f ?_ | with_reducible refine Gd.dec (fun _ => ?_) (fun _ => ?_) | with_reducible refine Gd.beq (fun _ => ?_) (fun _ => ?_) | with_reducible refine Gd.bne (fun _ => ?_) (fun _ => ?_) | with_reducible refine Gd.not ?_ | refine Gd.t ?_ | refine Gd.f ?_ | with_reducible refine Gd.var (fun _ => ?_) (fun _ => ?_)) | (show Sq _ _ _; refine Sq.mk ?_) | (show Ld1 _ _ _; first | (apply Ld1.blk; (focus ((repeat (first | assumption | (apply Blk.from; assumption))); done)); rfl) | (apply Ld1.rsF; (focus ((repeat (first | assumption | (apply RdS.from; assumption))); done)); assumption; rfl) | (apply Ld1.rs; (focus ((repeat (first | assumption | (apply RdS.from; assumption))); done)); assumption; rfl)) | (show Ld _ _ _ _; first | (apply Ld.blk; (focus ((repeat (first | assumption | (apply Blk.from; assumption))); done)); rfl) | (apply Ld.rs; (focus ((repeat (first | assumption | (apply RdS.from; assumption))); done)); assumption)) | (show Ix _ _ _ _ _; first | (apply Ix.rs; (focus ((repeat (first | assumption | (apply RdS.from; assumption))); done)); (first | with_reducible rfl | assumption); (first | assumption | omega)) | (apply Ix.arr; (focus ((repeat (first | assumption | (apply RdS.from; assumption))); done)); (first | assumption | (simp; done)); (first | with_reducible rfl | assumption); (first | assumption | omega))) | (show Al _ _ _ _; refine Al.mk (fun _ _ _ _ _ _ => ?_)) | (show St _ _ _ _; apply St.new; assumption; assumption; assumption; rfl; rfl; intro _ _ _ _)))
    refine Sm.lit T.ok (cs := Ins.enc (turnedI x)) rfl rfl rfl rfl rfl rfl rfl (fun p6 w6 hp6 hb6 e6 _ => ?_)
    have hr6 : RdC w6 (some ⟨p6, 0, none⟩) [turnedI x] := rd_of_code hb6
    refine Sm.appQ (enc := Ins.enc) (m := [turnedI x]) T.ok rfl rfl rfl rfl rfl (by decide) (hQ5.ext e6) hql.symm hr6 rfl (by simp) (fun y _ => insE y) (fun y _ v hv => by simp [Ins.enc] at hv; rcases hv with rfl | rfl | rfl | rfl | rfl <;> rfl) ?_ ?_ (e05.trans e6).size (fun D d' w7 hQ7 g7 hD => ?_)
    · rw [hql]; show (i + 1) * 40 ≤ _; omega
    · rw [hql]; show i + 1 ≤ _; omega
    have hlist : (f.code.reverse.take i).map turnedI ++ [turnedI x] = (f.code.reverse.take (i + 1)).map turnedI := by
      have hr : i < f.code.reverse.length := by simpa using hlt
      have hxr : f.code.reverse[i] = x := by
        rw [List.getElem_reverse]
        exact (List.getElem?_eq_some_iff.1 hx).2
      rw [List.take_succ_eq_append_getElem hr, hxr, List.map_append]; rfl
    rw [hlist] at hQ7
    replace hbg := (hbg.ext e6).grow' g7 ((hQ5.ext e6).ne_t (hbg.ext e6) (by decide))
    replace hb := (hb.ext e6).grow' g7 ((hQ5.ext e6).ne_t (hb.ext e6) (by decide))
    replace hbr := (hbr.ext e6).grow' g7 ((hQ5.ext e6).ne_t (hbr.ext e6) (by decide))
    have e07 := Grow.extQ (e05.trans e6) g7 (hQ5.ext e6) (Nat.le_refl _)
    clear hQ5 e05 g7 e6 hr6 hb6 hb5
    repeat' (first | ((show Gd _ _ _; first | with_reducible refine Gd.t ?_ | with_reducible refine Gd.f ?_ | with_reducible refine Gd.dec (fun _ => ?_) (fun _ => ?_) | with_reducible refine Gd.beq (fun _ => ?_) (fun _ => ?_) | with_reducible refine Gd.bne (fun _ => ?_) (fun _ => ?_) | with_reducible refine Gd.not ?_ | refine Gd.t ?_ | refine Gd.f ?_ | with_reducible refine Gd.var (fun _ => ?_) (fun _ => ?_)) <;> first | (exfalso; omega) | skip) | (first | (show Gd _ _ _; first | with_reducible refine Gd.t ?_ | with_reducible refine Gd.f ?_ | with_reducible refine Gd.dec (fun _ => ?_) (fun _ => ?_) | with_reducible refine Gd.beq (fun _ => ?_) (fun _ => ?_) | with_reducible refine Gd.bne (fun _ => ?_) (fun _ => ?_) | with_reducible refine Gd.not ?_ | refine Gd.t ?_ | refine Gd.f ?_ | with_reducible refine Gd.var (fun _ => ?_) (fun _ => ?_)) | (show Sq _ _ _; refine Sq.mk ?_) | (show Ld1 _ _ _; first | (apply Ld1.blk; (focus ((repeat (first | assumption | (apply Blk.from; assumption))); done)); rfl) | (apply Ld1.rsF; (focus ((repeat (first | assumption | (apply RdS.from; assumption))); done)); assumption; rfl) | (apply Ld1.rs; (focus ((repeat (first | assumption | (apply RdS.from; assumption))); done)); assumption; rfl)) | (show Ld _ _ _ _; first | (apply Ld.blk; (focus ((repeat (first | assumption | (apply Blk.from; assumption))); done)); rfl) | (apply Ld.rs; (focus ((repeat (first | assumption | (apply RdS.from; assumption))); done)); assumption)) | (show Ix _ _ _ _ _; first | (apply Ix.rs; (focus ((repeat (first | assumption | (apply RdS.from; assumption))); done)); (first | with_reducible rfl | assumption); (first | assumption | omega)) | (apply Ix.arr; (focus ((repeat (first | assumption | (apply RdS.from; assumption))); done)); (first | assumption | (simp; done)); (first | with_reducible rfl | assumption); (first | assumption | omega))) | (show Al _ _ _ _; refine Al.mk (fun _ _ _ _ _ _ => ?_)) | (show St _ _ _ _; apply St.new; assumption; assumption; assumption; rfl; rfl; intro _ _ _ _)))
    refine St.upd hbg rfl rfl (fun w8 u8 hbg8 => ?_)
    replace hbg8 : Blk w8 pg 24 (funV f D ((f.code.reverse.take i).map turnedI ++ [turnedI x]).length d') := hbg8
    rw [List.length_append, hql, List.length_singleton] at hbg8
    have hQ8 := hQ7.upd u8 (hQ7.ne_t hbg (by decide))
    have hb8 := hb.upd u8 hpfg
    have hbr8 := hbr.upd u8 hprg
    have e08 := e07.upd u8 hpglo
    clear hQ7 hb hbr e07 u8
    repeat' (first | ((show Gd _ _ _; first | with_reducible refine Gd.t ?_ | with_reducible refine Gd.f ?_ | with_reducible refine Gd.dec (fun _ => ?_) (fun _ => ?_) | with_reducible refine Gd.beq (fun _ => ?_) (fun _ => ?_) | with_reducible refine Gd.bne (fun _ => ?_) (fun _ => ?_) | with_reducible refine Gd.not ?_ | refine Gd.t ?_ | refine Gd.f ?_ | with_reducible refine Gd.var (fun _ => ?_) (fun _ => ?_)) <;> first | (exfalso; omega) | skip) | (first | (show Gd _ _ _; first | with_reducible refine Gd.t ?_ | with_reducible refine Gd.f ?_ | with_reducible refine Gd.dec (fun _ => ?_) (fun _ => ?_) | with_reducible refine Gd.beq (fun _ => ?_) (fun _ => ?_) | with_reducible refine Gd.bne (fun _ => ?_) (fun _ => ?_) | with_reducible refine Gd.not ?_ | refine Gd.t ?_ | refine Gd.f ?_ | with_reducible refine Gd.var (fun _ => ?_) (fun _ => ?_)) | (show Sq _ _ _; refine Sq.mk ?_) | (show Ld1 _ _ _; first | (apply Ld1.blk; (focus ((repeat (first | assumption | (apply Blk.from; assumption))); done)); rfl) | (apply Ld1.rsF; (focus ((repeat (first | assumption | (apply RdS.from; assumption))); done)); assumption; rfl) | (apply Ld1.rs; (focus ((repeat (first | assumption | (apply RdS.from; assumption))); done)); assumption; rfl)) | (show Ld _ _ _ _; first | (apply Ld.blk; (focus ((repeat (first | assumption | (apply Blk.from; assumption))); done)); rfl) | (apply Ld.rs; (focus ((repeat (first | assumption | (apply RdS.from; assumption))); done)); assumption)) | (show Ix _ _ _ _ _; first | (apply Ix.rs; (focus ((repeat (first | assumption | (apply RdS.from; assumption))); done)); (first | with_reducible rfl | assumption); (first | assumption | omega)) | (apply Ix.arr; (focus ((repeat (first | assumption | (apply RdS.from; assumption))); done)); (first | assumption | (simp; done)); (first | with_reducible rfl | assumption); (first | assumption | omega))) | (show Al _ _ _ _; refine Al.mk (fun _ _ _ _ _ _ => ?_)) | (show St _ _ _ _; apply St.new; assumption; assumption; assumption; rfl; rfl; intro _ _ _ _)))
    exact ⟨(i + 1, D, d'), ⟨at_int rfl (w64 (by simp; omega) (by simp; omega) (by simp; omega)), rfl, rfl, rfl, trivial⟩, rfl, ⟨by simp; omega, hQ8, hbg8, hb8, hbr8, e08⟩, by simp; omega⟩
  · have hi : i = f.code.length := by omega
    subst hi
    repeat' (first | ((show Gd _ _ _; first | with_reducible refine Gd.t ?_ | with_reducible refine Gd.f ?_ | with_reducible refine Gd.dec (fun _ => ?_) (fun _ => ?_) | with_reducible refine Gd.beq (fun _ => ?_) (fun _ => ?_) | with_reducible refine Gd.bne (fun _ => ?_) (fun _ => ?_) | with_reducible refine Gd.not ?_ | refine Gd.t ?_ | refine Gd.f ?_ | with_reducible refine Gd.var (fun _ => ?_) (fun _ => ?_)) <;> first | (exfalso; omega) | skip) | (first | (show Gd _ _ _; first | with_reducible refine Gd.t ?_ | with_reducible refine Gd.f ?_ | with_reducible refine Gd.dec (fun _ => ?_) (fun _ => ?_) | with_reducible refine Gd.beq (fun _ => ?_) (fun _ => ?_) | with_reducible refine Gd.bne (fun _ => ?_) (fun _ => ?_) | with_reducible refine Gd.not ?_ | refine Gd.t ?_ | refine Gd.f ?_ | with_reducible refine Gd.var (fun _ => ?_) (fun _ => ?_)) | (show Sq _ _ _; refine Sq.mk ?_) | (show Ld1 _ _ _; first | (apply Ld1.blk; (focus ((repeat (first | assumption | (apply Blk.from; assumption))); done)); rfl) | (apply Ld1.rsF; (focus ((repeat (first | assumption | (apply RdS.from; assumption))); done)); assumption; rfl) | (apply Ld1.rs; (focus ((repeat (first | assumption | (apply RdS.from; assumption))); done)); assumption; rfl)) | (show Ld _ _ _ _; first | (apply Ld.blk; (focus ((repeat (first | assumption | (apply Blk.from; assumption))); done)); rfl) | (apply Ld.rs; (focus ((repeat (first | assumption | (apply RdS.from; assumption))); done)); assumption)) | (show Ix _ _ _ _ _; first | (apply Ix.rs; (focus ((repeat (first | assumption | (apply RdS.from; assumption))); done)); (first | with_reducible rfl | assumption); (first | assumption | omega)) | (apply Ix.arr; (focus ((repeat (first | assumption | (apply RdS.from; assumption))); done)); (first | assumption | (simp; done)); (first | with_reducible rfl | assumption); (first | assumption | omega))) | (show Al _ _ _ _; refine Al.mk (fun _ _ _ _ _ _ => ?_)) | (show St _ _ _ _; apply St.new; assumption; assumption; assumption; rfl; rfl; intro _ _ _ _)))
    refine St.upd hbr rfl rfl (fun w5 u5 hbr5 => ?_)
    replace hbr5 : Blk w5 pr 24 (funV f C f.code.length d) := hbr5
    have hQ5 := hQ.upd u5 (hQ.ne_t hbr (by decide))
    have e05 := e4.upd u5 hprlo
    clear hQ hbg hb hbr e4 u5
    repeat' (first | ((show Gd _ _ _; first | with_reducible refine Gd.t ?_ | with_reducible refine Gd.f ?_ | with_reducible refine Gd.dec (fun _ => ?_) (fun _ => ?_) | with_reducible refine Gd.beq (fun _ => ?_) (fun _ => ?_) | with_reducible refine Gd.bne (fun _ => ?_) (fun _ => ?_) | with_reducible refine Gd.not ?_ | refine Gd.t ?_ | refine Gd.f ?_ | with_reducible refine Gd.var (fun _ => ?_) (fun _ => ?_)) <;> first | (exfalso; omega) | skip) | (first | (show Gd _ _ _; first | with_reducible refine Gd.t ?_ | with_reducible refine Gd.f ?_ | with_reducible refine Gd.dec (fun _ => ?_) (fun _ => ?_) | with_reducible refine Gd.beq (fun _ => ?_) (fun _ => ?_) | with_reducible refine Gd.bne (fun _ => ?_) (fun _ => ?_) | with_reducible refine Gd.not ?_ | refine Gd.t ?_ | refine Gd.f ?_ | with_reducible refine Gd.var (fun _ => ?_) (fun _ => ?_)) | (show Sq _ _ _; refine Sq.mk ?_) | (show Ld1 _ _ _; first | (apply Ld1.blk; (focus ((repeat (first | assumption | (apply Blk.from; assumption))); done)); rfl) | (apply Ld1.rsF; (focus ((repeat (first | assumption | (apply RdS.from; assumption))); done)); assumption; rfl) | (apply Ld1.rs; (focus ((repeat (first | assumption | (apply RdS.from; assumption))); done)); assumption; rfl)) | (show Ld _ _ _ _; first | (apply Ld.blk; (focus ((repeat (first | assumption | (apply Blk.from; assumption))); done)); rfl) | (apply Ld.rs; (focus ((repeat (first | assumption | (apply RdS.from; assumption))); done)); assumption)) | (show Ix _ _ _ _ _; first | (apply Ix.rs; (focus ((repeat (first | assumption | (apply RdS.from; assumption))); done)); (first | with_reducible rfl | assumption); (first | assumption | omega)) | (apply Ix.arr; (focus ((repeat (first | assumption | (apply RdS.from; assumption))); done)); (first | assumption | (simp; done)); (first | with_reducible rfl | assumption); (first | assumption | omega))) | (show Al _ _ _ _; refine Al.mk (fun _ _ _ _ _ _ => ?_)) | (show St _ _ _ _; apply St.new; assumption; assumption; assumption; rfl; rfl; intro _ _ _ _)))
    have hlist : (f.code.reverse.take f.code.length).map turnedI = (turnedF f).code := by
      rw [List.take_of_length_le (by simp)]; rfl
    rw [hlist] at hQ5
    refine ⟨C, d, ?_, hQ5.rd, e05, fun b hb => (hQ5.obk_lt b hb).2, hQ5.le⟩
    simp only [Fn.v, turned_len]
    rfl
end Go.Proofs.YtbbadmlekagloaaDoor
