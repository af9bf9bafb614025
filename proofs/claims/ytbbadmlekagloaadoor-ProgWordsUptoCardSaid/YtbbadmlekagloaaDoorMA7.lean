/- own work: PhP, PhQ, PhR -/
import Derived.Test.YtbbadmlekagloaaDoorMA6
namespace Go.Proofs.YtbbadmlekagloaaDoor
open Go Go.Sh
set_option linter.unusedVariables false
set_option linter.unusedSimpArgs false
attribute [local irreducible] Blk Ext RdS
/-- append(l, m...) by a literal, which is struck behind it -/
theorem apL {P : Program} {T : Tab} {S : Nat → Prop} {w0 w : World} {Γ L R : List Ck} {q c : Nat} {α : Type} {enc : α → List Value} {sz : Nat} {e : TypeId} {A : Option Addr} {l : List α} {ku : Value → World → Prop} {Y : List PanicEntry → World → Prop} (m : List α) (H : Hp S w0 w (bk q e (m.flatMap enc) :: Γ)) (hT : TabOk P T) {t ty : TypeId} {ti ei : TI} {n n2 c2 : Nat}
    (hlen : (l.length + m.length) * ei.bytes ≤ 140737488355328) (hlen2 : l.length + m.length ≤ 140737488355328)
    (hk : ∀ A' c' w', Hp S w0 w' (L ++ qu enc sz e A' c' (l ++ m) :: R) → ku (.slice A' (l ++ m).length c') w')
    (hne : m ≠ []) (hm : ∀ x ∈ m, (enc x).length = sz) (h1 : ∀ x ∈ m, ∀ v ∈ enc x, v.oneCell' = true)
    (u : Sp Γ L (qu enc sz e A c l) R := by (repeat (first | exact Sp.head | apply Sp.tail))) (hn : n = l.length := by first | rfl | assumption) (hn2 : n2 = m.length := by rfl)
    (ht : getT T.ts t = some ti := by rfl) (hd : ti.desc = .slice e := by rfl) (he : getT T.ts e = some ei := by rfl) (hsz : ei.size = sz := by rfl) (hz : ei.zero.cells.size = sz := by rfl) (hpos : 0 < sz := by decide)
    : Sm P (Builtin.append_ #[t, t] ty #[.slice A n c, .slice (some ⟨q, 0, none⟩) n2 c2]) w ku Y := by
  refine Sm.appm H hT (m := m) hn (rd_full (H.blk 0 rfl) hm) hn2 hne hm h1 hlen hlen2 (L := bk q e (m.flatMap enc) :: L) (R := R) (fun A' c' w' H' => hk A' c' w' (Hp.d0 H')) (.tail u) ht hd he hsz hz hpos
/-- a literal's block as a slice that may grow -/
theorem Hp.bq {S : Nat → Prop} {w0 w : World} {Γ : List Ck} {p sz : Nat} {t : TypeId} {α : Type} {enc : α → List Value} {l : List α} (H : Hp S w0 w (bk p t (l.flatMap enc) :: Γ)) (hm : ∀ x ∈ l, (enc x).length = sz) : Hp S w0 w (qu enc sz t (some ⟨p, 0, none⟩) l.length l :: Γ) := by
  have hs := List.pairwise_cons.1 H.sep
  have hfp : ∀ k, (qu enc sz t (some ⟨p, 0, none⟩) l.length l).fp k → (bk p t (l.flatMap enc)).fp k := fun k hk => by
    have : some p = some k := hk
    simpa using this.symm
  refine ⟨H.tch, fun b hb => ?_, List.pairwise_cons.2 ⟨fun b hb h k hk => hs.1 b hb (.inl rfl) k ⟨hfp k hk.1, hk.2⟩, hs.2⟩, fun b hb hb' k hk => ?_⟩
  · rcases List.mem_cons.1 hb with rfl | hb
    · exact qu_ok (Que.of_full (H.blk 0 rfl) (Nat.zero_le _) hm)
    · exact H.ok b (by simp [hb])
  · rcases List.mem_cons.1 hb with rfl | hb
    · exact H.dom _ (List.mem_cons_self ..) (.inl rfl) k (hfp k hk)
    · exact H.dom b (by simp [hb]) hb' k hk
def sumL (l : List Int) : Int := l.foldl (fun h x => IntKind.i64.wrap (IntKind.i64.wrap (h * 31) + x)) 0
theorem sumL_snoc (l : List Int) (x : Int) : sumL (l ++ [x]) = IntKind.i64.wrap (IntKind.i64.wrap (sumL l * 31) + x) := by simp [sumL]
theorem psum_c (A : Option Addr) (c : Nat) (l : List Int) (w : World) (hA : RdS ints 1 w A l) (hl : l.length ≤ 9223372036854775806) :
    Cl Tryd.prog 71 #[.slice A l.length c] w (fun v w' => v = .int .i64 (sumL l) ∧ Ext w w') (fun _ _ => False) := by
  refine calls_ex (args := [.slice A l.length c]) T.ok Tryd.func71 rfl rfl rfl rfl ?_
  have H := Hp.begin nw w
  repeat' ((conv => whnf); first | (((with_reducible show Gd _ _ _); first | with_reducible refine Gd.t ?_ | with_reducible refine Gd.f ?_ | with_reducible refine Gd.dec (fun _ => ?_) (fun _ => ?_) | with_reducible refine Gd.beq (fun _ => ?_) (fun _ => ?_) | with_reducible refine Gd.bne (fun _ => ?_) (fun _ => ?_) | with_reducible refine Gd.not ?_ | refine Gd.t ?_ | refine Gd.f ?_ | with_reducible refine Gd.var (fun _ => ?_) (fun _ => ?_)) <;> first | (exfalso; omega) | skip) | with_reducible refine Sq.mk ?_ | ((with_reducible show Ld1 _ _ _); first | refine Ld1.h H ?_ | refine Ld1.rF ?_ | refine Ld1.r ?_) | ((with_reducible show Ld _ _ _ _); first | refine Ld.h H ?_ | refine Ld.r ?_) | ((with_reducible show Ix _ _ _ _ _); (first | refine Ix.h ?_ | refine Ix.ha ?_)) | (refine Al.hp H ?_; clear H; intro _ _ H _) | (refine St.h H ?_; clear H; intro _ H))
  refine Lp.g0 T.ok (σ := Nat) (fun i => [(8, .int .i64 (i : Int)), (7, .int .i64 (l.length : Int)), (6, .slice A l.length c), (3, .int .i64 (sumL (l.take i)))])
    (fun i w' => i ≤ l.length ∧ Hp nw w w' []) (fun i _ => l.length - i) 0 rfl ⟨rfl, rfl, rfl, rfl, trivial⟩ ⟨Nat.zero_le _, H⟩ ?_
  clear H
  rintro i w5 ⟨hi, H⟩
  by_cases hlt : i < l.length
  · obtain ⟨x, hx⟩ : ∃ x, l[i]? = some x := ⟨_, List.getElem?_eq_getElem hlt⟩
    have hA5 := RdS.from H.e hA
    obtain ⟨h1, h2⟩ := List.getElem?_eq_some_iff.1 hx
    repeat' ((conv => whnf); first | (((with_reducible show Gd _ _ _); first | with_reducible refine Gd.t ?_ | with_reducible refine Gd.f ?_ | with_reducible refine Gd.dec (fun _ => ?_) (fun _ => ?_) | with_reducible refine Gd.beq (fun _ => ?_) (fun _ => ?_) | with_reducible refine Gd.bne (fun _ => ?_) (fun _ => ?_) | with_reducible refine Gd.not ?_ | refine Gd.t ?_ | refine Gd.f ?_ | with_reducible refine Gd.var (fun _ => ?_) (fun _ => ?_)) <;> first | (exfalso; omega) | skip) | with_reducible refine Sq.mk ?_ | ((with_reducible show Ld1 _ _ _); first | refine Ld1.h H ?_ | refine Ld1.rF ?_ | refine Ld1.r ?_) | ((with_reducible show Ld _ _ _ _); first | refine Ld.h H ?_ | refine Ld.r ?_) | ((with_reducible show Ix _ _ _ _ _); (first | refine Ix.h ?_ | refine Ix.ha ?_)) | (refine Al.hp H ?_; clear H; intro _ _ H _) | (refine St.h H ?_; clear H; intro _ H))
    refine ⟨i + 1, ⟨at_int (m := ((i + 1 : Nat) : Int)) rfl (w64 (by simp) (by omega) (by omega)), rfl, rfl, at_val rfl (i_eq ?_), trivial⟩, rfl, ⟨by omega, H⟩, by omega⟩
    rw [List.take_succ_eq_append_getElem h1, sumL_snoc, h2]
  · have hi : i = l.length := by omega
    subst hi
    repeat' ((conv => whnf); first | (((with_reducible show Gd _ _ _); first | with_reducible refine Gd.t ?_ | with_reducible refine Gd.f ?_ | with_reducible refine Gd.dec (fun _ => ?_) (fun _ => ?_) | with_reducible refine Gd.beq (fun _ => ?_) (fun _ => ?_) | with_reducible refine Gd.bne (fun _ => ?_) (fun _ => ?_) | with_reducible refine Gd.not ?_ | refine Gd.t ?_ | refine Gd.f ?_ | with_reducible refine Gd.var (fun _ => ?_) (fun _ => ?_)) <;> first | (exfalso; omega) | skip) | with_reducible refine Sq.mk ?_ | ((with_reducible show Ld1 _ _ _); first | refine Ld1.h H ?_ | refine Ld1.rF ?_ | refine Ld1.r ?_) | ((with_reducible show Ld _ _ _ _); first | refine Ld.h H ?_ | refine Ld.r ?_) | ((with_reducible show Ix _ _ _ _ _); (first | refine Ix.h ?_ | refine Ix.ha ?_)) | (refine Al.hp H ?_; clear H; intro _ _ H _) | (refine St.h H ?_; clear H; intro _ H))
    exact ⟨by rw [List.take_length]; rfl, H.e⟩
theorem rsum_c (A : Option Addr) (c : Nat) (l : List Int) (w : World) (hA : RdS ints 1 w A l) (hl : l.length ≤ 9223372036854775806) :
    Cl Tryd.prog 72 #[.slice A l.length c] w (fun v w' => v = .int .i64 (sumL l) ∧ Ext w w') (fun _ _ => False) := by
  refine calls_ex (args := [.slice A l.length c]) T.ok Tryd.func72 rfl rfl rfl rfl ?_
  have H := Hp.begin nw w
  repeat' ((conv => whnf); first | (((with_reducible show Gd _ _ _); first | with_reducible refine Gd.t ?_ | with_reducible refine Gd.f ?_ | with_reducible refine Gd.dec (fun _ => ?_) (fun _ => ?_) | with_reducible refine Gd.beq (fun _ => ?_) (fun _ => ?_) | with_reducible refine Gd.bne (fun _ => ?_) (fun _ => ?_) | with_reducible refine Gd.not ?_ | refine Gd.t ?_ | refine Gd.f ?_ | with_reducible refine Gd.var (fun _ => ?_) (fun _ => ?_)) <;> first | (exfalso; omega) | skip) | with_reducible refine Sq.mk ?_ | ((with_reducible show Ld1 _ _ _); first | refine Ld1.h H ?_ | refine Ld1.rF ?_ | refine Ld1.r ?_) | ((with_reducible show Ld _ _ _ _); first | refine Ld.h H ?_ | refine Ld.r ?_) | ((with_reducible show Ix _ _ _ _ _); (first | refine Ix.h ?_ | refine Ix.ha ?_)) | (refine Al.hp H ?_; clear H; intro _ _ H _) | (refine St.h H ?_; clear H; intro _ H))
  refine Lp.g0 T.ok (σ := Nat) (fun i => [(4, .int .i64 (i : Int)), (0, .slice A l.length c), (3, .int .i64 (sumL (l.take i)))])
    (fun i w' => i ≤ l.length ∧ Hp nw w w' []) (fun i _ => l.length - i) 0 rfl ⟨rfl, rfl, rfl, trivial⟩ ⟨Nat.zero_le _, H⟩ ?_
  clear H
  rintro i w5 ⟨hi, H⟩
  by_cases hlt : i < l.length
  · obtain ⟨x, hx⟩ : ∃ x, l[i]? = some x := ⟨_, List.getElem?_eq_getElem hlt⟩
    have hA5 := RdS.from H.e hA
    obtain ⟨h1, h2⟩ := List.getElem?_eq_some_iff.1 hx
    repeat' ((conv => whnf); first | (((with_reducible show Gd _ _ _); first | with_reducible refine Gd.t ?_ | with_reducible refine Gd.f ?_ | with_reducible refine Gd.dec (fun _ => ?_) (fun _ => ?_) | with_reducible refine Gd.beq (fun _ => ?_) (fun _ => ?_) | with_reducible refine Gd.bne (fun _ => ?_) (fun _ => ?_) | with_reducible refine Gd.not ?_ | refine Gd.t ?_ | refine Gd.f ?_ | with_reducible refine Gd.var (fun _ => ?_) (fun _ => ?_)) <;> first | (exfalso; omega) | skip) | with_reducible refine Sq.mk ?_ | ((with_reducible show Ld1 _ _ _); first | refine Ld1.h H ?_ | refine Ld1.rF ?_ | refine Ld1.r ?_) | ((with_reducible show Ld _ _ _ _); first | refine Ld.h H ?_ | refine Ld.r ?_) | ((with_reducible show Ix _ _ _ _ _); (first | refine Ix.h ?_ | refine Ix.ha ?_)) | (refine Al.hp H ?_; clear H; intro _ _ H _) | (refine St.h H ?_; clear H; intro _ H))
    refine ⟨i + 1, ⟨at_int (m := ((i + 1 : Nat) : Int)) rfl (w64 (by simp) (by omega) (by omega)), rfl, at_val rfl (i_eq ?_), trivial⟩, rfl, ⟨by omega, H⟩, by omega⟩
    rw [List.take_succ_eq_append_getElem h1, sumL_snoc, h2]
  · have hi : i = l.length := by omega
    subst hi
    repeat' ((conv => whnf); first | (((with_reducible show Gd _ _ _); first | with_reducible refine Gd.t ?_ | with_reducible refine Gd.f ?_ | with_reducible refine Gd.dec (fun _ => ?_) (fun _ => ?_) | with_reducible refine Gd.beq (fun _ => ?_) (fun _ => ?_) | with_reducible refine Gd.bne (fun _ => ?_) (fun _ => ?_) | with_reducible refine Gd.not ?_ | refine Gd.t ?_ | refine Gd.f ?_ | with_reducible refine Gd.var (fun _ => ?_) (fun _ => ?_)) <;> first | (exfalso; omega) | skip) | with_reducible refine Sq.mk ?_ | ((with_reducible show Ld1 _ _ _); first | refine Ld1.h H ?_ | refine Ld1.rF ?_ | refine Ld1.r ?_) | ((with_reducible show Ld _ _ _ _); first | refine Ld.h H ?_ | refine Ld.r ?_) | ((with_reducible show Ix _ _ _ _ _); (first | refine Ix.h ?_ | refine Ix.ha ?_)) | (refine Al.hp H ?_; clear H; intro _ _ H _) | (refine St.h H ?_; clear H; intro _ H))
    exact ⟨by rw [List.take_length]; rfl, H.e⟩
def insW (x : Ins) : List Int := [x.kd, x.a, x.b, x.c, x.k]
def funH (f : Fn) : List Int := [f.params, f.regs, f.slots, f.code.length]
def imgF (f : Fn) : List Int := funH f ++ f.code.flatMap insW
def imgP (fs : List Fn) : List Int := [1886156142, (fs.length : Int)] ++ fs.flatMap imgF
def imgS (fs : List Fn) : List Int := imgP fs ++ [sumL (imgP fs)]
theorem insW_len (l : List Ins) : (l.flatMap insW).length = l.length * 5 := flat_insW l
where flat_insW : ∀ l : List Ins, (l.flatMap insW).length = l.length * 5
  | [] => rfl
  | x :: r => by have := flat_insW r; simp [List.flatMap_cons, insW] at this ⊢; omega
theorem imgF_len {f : Fn} (h : f.code.length ≤ 512) : (imgF f).length ≤ 2564 := by
  rw [imgF, List.length_append, insW_len]; simp [funH]; omega
theorem imgFs_len : ∀ {fs : List Fn}, (∀ f ∈ fs, f.code.length ≤ 512) → (fs.flatMap imgF).length ≤ fs.length * 2564
  | [], _ => by simp
  | f :: r, h => by
    have h1 := imgF_len (h f (by simp))
    have h2 := imgFs_len (fs := r) (fun g hg => h g (by simp [hg]))
    simp only [List.flatMap_cons, List.length_append, List.length_cons]
    omega
/-- what Encode answers -/
def Encoded (fs : List Fn) (w : World) (v : Value) (w' : World) : Prop := ∃ C cc l, v = .tuple #[.slice C l.length cc, .int .i64 (checkL fs).1] ∧ (Valid fs → l = imgS fs) ∧ (¬ Valid fs → l = []) ∧ Hp nw w w' [qu ints 1 2 C cc l]
set_option maxHeartbeats 1000000 in
theorem pEncode_c (B : Option Addr) (l : List FE) (d : Nat) (w : World) (hG : RdG w) (hB : RdP w B l) :
    Cl Tryd.prog 40 #[pv B l.length d] w (Encoded (fns l) w) (fun _ _ => False) := by
  have hfl := fns_len l
  refine calls_ex (args := [pv B l.length d]) T.ok Tryd.func40 rfl rfl rfl rfl ?_
  have H := Hp.begin nw w
  refine Sq.mk ?_
  ((conv => whnf); refine Al.hp H ?_; clear H; intro pp _ H _)
  repeat' ((conv => whnf); first | (((with_reducible show Gd _ _ _); first | with_reducible refine Gd.t ?_ | with_reducible refine Gd.f ?_ | with_reducible refine Gd.dec (fun _ => ?_) (fun _ => ?_) | with_reducible refine Gd.beq (fun _ => ?_) (fun _ => ?_) | with_reducible refine Gd.bne (fun _ => ?_) (fun _ => ?_) | with_reducible refine Gd.not ?_ | refine Gd.t ?_ | refine Gd.f ?_ | with_reducible refine Gd.var (fun _ => ?_) (fun _ => ?_)) <;> first | (exfalso; omega) | skip) | with_reducible refine Sq.mk ?_ | ((with_reducible show Ld1 _ _ _); first | refine Ld1.h H ?_ | refine Ld1.rF ?_ | refine Ld1.r ?_) | ((with_reducible show Ld _ _ _ _); first | refine Ld.h H ?_ | refine Ld.r ?_) | ((with_reducible show Ix _ _ _ _ _); (first | refine Ix.h ?_ | refine Ix.ha ?_)) | (refine Al.hp H ?_; clear H; intro _ _ H _) | (refine St.h H ?_; clear H; intro _ H))
  (((conv => whnf); refine Cl.mk (Check_c B l d _ (RdS.from H.e hG) (hB.ext H.e)) ?_); rintro _ _ ⟨rfl, hx⟩; replace H := H.ext hx; clear hx)
  ((conv => whnf); refine Al.hp H ?_; clear H; intro pr _ H _)
  repeat' ((conv => whnf); first | (((with_reducible show Gd _ _ _); first | with_reducible refine Gd.t ?_ | with_reducible refine Gd.f ?_ | with_reducible refine Gd.dec (fun _ => ?_) (fun _ => ?_) | with_reducible refine Gd.beq (fun _ => ?_) (fun _ => ?_) | with_reducible refine Gd.bne (fun _ => ?_) (fun _ => ?_) | with_reducible refine Gd.not ?_ | refine Gd.t ?_ | refine Gd.f ?_ | with_reducible refine Gd.var (fun _ => ?_) (fun _ => ?_)) <;> first | (exfalso; omega) | skip) | with_reducible refine Sq.mk ?_ | ((with_reducible show Ld1 _ _ _); first | refine Ld1.h H ?_ | refine Ld1.rF ?_ | refine Ld1.r ?_) | ((with_reducible show Ld _ _ _ _); first | refine Ld.h H ?_ | refine Ld.r ?_) | ((with_reducible show Ix _ _ _ _ _); (first | refine Ix.h ?_ | refine Ix.ha ?_)) | (refine Al.hp H ?_; clear H; intro _ _ H _) | (refine St.h H ?_; clear H; intro _ H))
  · ((conv => whnf); refine Dr.quiet T.ok mixed (by kernel_rfl) (fun W hW => ?_))
    repeat' ((conv => whnf); first | (((with_reducible show Gd _ _ _); first | with_reducible refine Gd.t ?_ | with_reducible refine Gd.f ?_ | with_reducible refine Gd.dec (fun _ => ?_) (fun _ => ?_) | with_reducible refine Gd.beq (fun _ => ?_) (fun _ => ?_) | with_reducible refine Gd.bne (fun _ => ?_) (fun _ => ?_) | with_reducible refine Gd.not ?_ | refine Gd.t ?_ | refine Gd.f ?_ | with_reducible refine Gd.var (fun _ => ?_) (fun _ => ?_)) <;> first | (exfalso; omega) | skip) | ((with_reducible show QLd1 _ _ _); first | refine QLd1.h hW H ?_ | refine QLd1.rF hW ?_ | refine QLd1.r hW ?_) | ((with_reducible show QLd _ _ _ _); first | refine QLd.h hW H ?_ | refine QLd.r hW ?_) | ((with_reducible show Ix _ _ _ _ _); (first | refine Ix.h ?_ | refine Ix.ha ?_)))
    (intro _ eT; replace H := H.ext eT; clear hW eT)
    repeat' ((conv => whnf); first | (((with_reducible show Gd _ _ _); first | with_reducible refine Gd.t ?_ | with_reducible refine Gd.f ?_ | with_reducible refine Gd.dec (fun _ => ?_) (fun _ => ?_) | with_reducible refine Gd.beq (fun _ => ?_) (fun _ => ?_) | with_reducible refine Gd.bne (fun _ => ?_) (fun _ => ?_) | with_reducible refine Gd.not ?_ | refine Gd.t ?_ | refine Gd.f ?_ | with_reducible refine Gd.var (fun _ => ?_) (fun _ => ?_)) <;> first | (exfalso; omega) | skip) | with_reducible refine Sq.mk ?_ | ((with_reducible show Ld1 _ _ _); first | refine Ld1.h H ?_ | refine Ld1.rF ?_ | refine Ld1.r ?_) | ((with_reducible show Ld _ _ _ _); first | refine Ld.h H ?_ | refine Ld.r ?_) | ((with_reducible show Ix _ _ _ _ _); (first | refine Ix.h ?_ | refine Ix.ha ?_)) | (refine Al.hp H ?_; clear H; intro _ _ H _) | (refine St.h H ?_; clear H; intro _ H))
    replace H := H.nil ints 1 2
    exact ⟨none, 0, [], rfl, fun h => absurd (check_ok.2 h) (by assumption), fun _ => rfl, H.sel [0] rfl⟩
  rename_i hz
  have hz : (checkL (fns l)).1 = 0 := by first | exact hz | exact Classical.not_not.1 hz
  have hV := check_ok.1 hz
  have hlen := hV.len
  have hlc : ∀ f ∈ fns l, f.code.length ≤ 512 := fun f hf => (shaped_len (hV.shaped f hf)).2
  refine Sm.lith (cs := [.int .i64 1886156142, .int .i64 (l.length : Int)]) H T.ok (fun p1 w1 H _ => ?_)
  replace H : Hp nw w w1 [bk p1 2 ([1886156142, (l.length : Int)].flatMap ints), bk pr 48 (fvV (checkL (fns l))).cells.toList, bk pp 46 (pv B l.length d).cells.toList] := H
  replace H := Hp.bq (sz := 1) H (fun _ _ => rfl)
  repeat' ((conv => whnf); first | (((with_reducible show Gd _ _ _); first | with_reducible refine Gd.t ?_ | with_reducible refine Gd.f ?_ | with_reducible refine Gd.dec (fun _ => ?_) (fun _ => ?_) | with_reducible refine Gd.beq (fun _ => ?_) (fun _ => ?_) | with_reducible refine Gd.bne (fun _ => ?_) (fun _ => ?_) | with_reducible refine Gd.not ?_ | refine Gd.t ?_ | refine Gd.f ?_ | with_reducible refine Gd.var (fun _ => ?_) (fun _ => ?_)) <;> first | (exfalso; omega) | skip) | with_reducible refine Sq.mk ?_ | ((with_reducible show Ld1 _ _ _); first | refine Ld1.h H ?_ | refine Ld1.rF ?_ | refine Ld1.r ?_) | ((with_reducible show Ld _ _ _ _); first | refine Ld.h H ?_ | refine Ld.r ?_) | ((with_reducible show Ix _ _ _ _ _); (first | refine Ix.h ?_ | refine Ix.ha ?_)) | (refine Al.hp H ?_; clear H; intro _ _ H _) | (refine St.h H ?_; clear H; intro _ H))
  refine Lp.g0 T.ok (σ := Nat × Option Addr × Nat) (fun s => [(24, .int .i64 (s.1 : Int)), (23, .int .i64 (l.length : Int)), (22, .slice B l.length d), (5, .slice s.2.1 ([1886156142, (l.length : Int)] ++ ((fns l).take s.1).flatMap imgF).length s.2.2), (1, .pointer (some ⟨pp, 0, none⟩))])
    (fun s w' => s.1 ≤ l.length ∧ Hp nw w w' [qu ints 1 2 s.2.1 s.2.2 ([1886156142, (l.length : Int)] ++ ((fns l).take s.1).flatMap imgF)]) (fun s _ => l.length - s.1) (0, some ⟨p1, 0, none⟩, 2) rfl ⟨rfl, rfl, rfl, rfl, rfl, trivial⟩ ⟨Nat.zero_le _, H.sel [0] rfl⟩ ?_
  clear H
  rintro ⟨i, C, cc⟩ w5 ⟨hi, H⟩
  simp only at hi H ⊢
  have htk : (((fns l).take i).flatMap imgF).length ≤ i * 2564 := Nat.le_trans (imgFs_len (fs := (fns l).take i) (fun f hf => hlc f (List.mem_of_mem_take hf))) (Nat.mul_le_mul_right _ (by simp; omega))
  by_cases hlt : i < l.length
  · obtain ⟨x, hx⟩ : ∃ x, l[i]? = some x := ⟨_, List.getElem?_eq_getElem hlt⟩
    have hxm := List.mem_of_getElem? hx
    have hfx := fns_at hx
    have hx5 := hlc x.1 (List.mem_of_getElem? hfx)
    have hB5 := RdS.from H.e hB.top
    generalize hW0 : [1886156142, (l.length : Int)] ++ ((fns l).take i).flatMap imgF = W0 at H
    have hw0 : W0.length ≤ 2 + i * 2564 := by rw [← hW0]; simp only [List.length_append, List.length_cons, List.length_nil]; omega
    repeat' ((conv => whnf); first | (((with_reducible show Gd _ _ _); first | with_reducible refine Gd.t ?_ | with_reducible refine Gd.f ?_ | with_reducible refine Gd.dec (fun _ => ?_) (fun _ => ?_) | with_reducible refine Gd.beq (fun _ => ?_) (fun _ => ?_) | with_reducible refine Gd.bne (fun _ => ?_) (fun _ => ?_) | with_reducible refine Gd.not ?_ | refine Gd.t ?_ | refine Gd.f ?_ | with_reducible refine Gd.var (fun _ => ?_) (fun _ => ?_)) <;> first | (exfalso; omega) | skip) | with_reducible refine Sq.mk ?_ | ((with_reducible show Ld1 _ _ _); first | refine Ld1.h H ?_ | refine Ld1.rF ?_ | refine Ld1.r ?_) | ((with_reducible show Ld _ _ _ _); first | refine Ld.h H ?_ | refine Ld.r ?_) | ((with_reducible show Ix _ _ _ _ _); (first | refine Ix.h ?_ | refine Ix.ha ?_)) | (refine St.h H ?_; clear H; intro _ H))
    ((conv => whnf); refine Al.hp H ?_; clear H; intro pt _ H _)
    repeat' ((conv => whnf); first | (((with_reducible show Gd _ _ _); first | with_reducible refine Gd.t ?_ | with_reducible refine Gd.f ?_ | with_reducible refine Gd.dec (fun _ => ?_) (fun _ => ?_) | with_reducible refine Gd.beq (fun _ => ?_) (fun _ => ?_) | with_reducible refine Gd.bne (fun _ => ?_) (fun _ => ?_) | with_reducible refine Gd.not ?_ | refine Gd.t ?_ | refine Gd.f ?_ | with_reducible refine Gd.var (fun _ => ?_) (fun _ => ?_)) <;> first | (exfalso; omega) | skip) | with_reducible refine Sq.mk ?_ | ((with_reducible show Ld1 _ _ _); first | refine Ld1.h H ?_ | refine Ld1.rF ?_ | refine Ld1.r ?_) | ((with_reducible show Ld _ _ _ _); first | refine Ld.h H ?_ | refine Ld.r ?_) | ((with_reducible show Ix _ _ _ _ _); (first | refine Ix.h ?_ | refine Ix.ha ?_)) | (refine Al.hp H ?_; clear H; intro _ _ H _) | (refine St.h H ?_; clear H; intro _ H))
    clear hB5
    refine Sm.lith (cs := (funH x.1).flatMap ints) H T.ok (fun p2 w2 H _ => ?_)
    refine apL (enc := ints) (funH x.1) H T.ok ?_ ?_ (fun C' cc' w3 H => ?_) (by simp [funH]) (fun _ _ => rfl) (fun y _ v hv => by simp [ints] at hv; subst hv; rfl)
    · simp only [funH, List.length_cons, List.length_nil]; show (W0.length + 4) * 8 ≤ _; omega
    · simp only [funH, List.length_cons, List.length_nil]; omega
    simp only [List.cons_append, List.nil_append] at H
    have hfl4 : (W0 ++ funH x.1).length = W0.length + 4 := by simp [funH]
    repeat' ((conv => whnf); first | (((with_reducible show Gd _ _ _); first | with_reducible refine Gd.t ?_ | with_reducible refine Gd.f ?_ | with_reducible refine Gd.dec (fun _ => ?_) (fun _ => ?_) | with_reducible refine Gd.beq (fun _ => ?_) (fun _ => ?_) | with_reducible refine Gd.bne (fun _ => ?_) (fun _ => ?_) | with_reducible refine Gd.not ?_ | refine Gd.t ?_ | refine Gd.f ?_ | with_reducible refine Gd.var (fun _ => ?_) (fun _ => ?_)) <;> first | (exfalso; omega) | skip) | with_reducible refine Sq.mk ?_ | ((with_reducible show Ld1 _ _ _); first | refine Ld1.h H ?_ | refine Ld1.rF ?_ | refine Ld1.r ?_) | ((with_reducible show Ld _ _ _ _); first | refine Ld.h H ?_ | refine Ld.r ?_) | ((with_reducible show Ix _ _ _ _ _); (first | refine Ix.h ?_ | refine Ix.ha ?_)) | (refine Al.hp H ?_; clear H; intro _ _ H _) | (refine St.h H ?_; clear H; intro _ H))
    replace H := H.d0
    refine Lp.g0 T.ok (σ := Nat × Option Addr × Nat) (fun s => [(43, .int .i64 (s.1 : Int)), (42, .int .i64 (x.1.code.length : Int)), (41, .slice x.2.1 x.1.code.length x.2.2), (5, .slice s.2.1 (W0 ++ funH x.1 ++ (x.1.code.take s.1).flatMap insW).length s.2.2), (24, .int .i64 (i : Int)), (23, .int .i64 (l.length : Int)), (22, .slice B l.length d), (1, .pointer (some ⟨pp, 0, none⟩))])
      (fun s w' => s.1 ≤ x.1.code.length ∧ Hp nw w w' [qu ints 1 2 s.2.1 s.2.2 (W0 ++ funH x.1 ++ (x.1.code.take s.1).flatMap insW)]) (fun s _ => x.1.code.length - s.1) (0, C', cc') rfl ⟨rfl, rfl, rfl, at_val rfl (by simp), rfl, rfl, rfl, rfl, trivial⟩ ⟨Nat.zero_le _, by simpa using H⟩ ?_
    clear H
    rintro ⟨k, D, dc⟩ w6 ⟨hk, H⟩
    simp only at hk H ⊢
    generalize hW1 : W0 ++ funH x.1 ++ (x.1.code.take k).flatMap insW = W1 at H
    have hw1 : W1.length = W0.length + 4 + k * 5 := by rw [← hW1, List.length_append, hfl4, insW_len]; simp; omega
    by_cases hkl : k < x.1.code.length
    · obtain ⟨y, hy⟩ : ∃ y, x.1.code[k]? = some y := ⟨_, List.getElem?_eq_getElem hkl⟩
      have hA5 := RdS.from H.e (hB.code x hxm)
      repeat' ((conv => whnf); first | (((with_reducible show Gd _ _ _); first | with_reducible refine Gd.t ?_ | with_reducible refine Gd.f ?_ | with_reducible refine Gd.dec (fun _ => ?_) (fun _ => ?_) | with_reducible refine Gd.beq (fun _ => ?_) (fun _ => ?_) | with_reducible refine Gd.bne (fun _ => ?_) (fun _ => ?_) | with_reducible refine Gd.not ?_ | refine Gd.t ?_ | refine Gd.f ?_ | with_reducible refine Gd.var (fun _ => ?_) (fun _ => ?_)) <;> first | (exfalso; omega) | skip) | with_reducible refine Sq.mk ?_ | ((with_reducible show Ld1 _ _ _); first | refine Ld1.h H ?_ | refine Ld1.rF ?_ | refine Ld1.r ?_) | ((with_reducible show Ld _ _ _ _); first | refine Ld.h H ?_ | refine Ld.r ?_) | ((with_reducible show Ix _ _ _ _ _); (first | refine Ix.h ?_ | refine Ix.ha ?_)) | (refine St.h H ?_; clear H; intro _ H))
      ((conv => whnf); refine Al.hp H ?_; clear H; intro pu _ H _)
      repeat' ((conv => whnf); first | (((with_reducible show Gd _ _ _); first | with_reducible refine Gd.t ?_ | with_reducible refine Gd.f ?_ | with_reducible refine Gd.dec (fun _ => ?_) (fun _ => ?_) | with_reducible refine Gd.beq (fun _ => ?_) (fun _ => ?_) | with_reducible refine Gd.bne (fun _ => ?_) (fun _ => ?_) | with_reducible refine Gd.not ?_ | refine Gd.t ?_ | refine Gd.f ?_ | with_reducible refine Gd.var (fun _ => ?_) (fun _ => ?_)) <;> first | (exfalso; omega) | skip) | with_reducible refine Sq.mk ?_ | ((with_reducible show Ld1 _ _ _); first | refine Ld1.h H ?_ | refine Ld1.rF ?_ | refine Ld1.r ?_) | ((with_reducible show Ld _ _ _ _); first | refine Ld.h H ?_ | refine Ld.r ?_) | ((with_reducible show Ix _ _ _ _ _); (first | refine Ix.h ?_ | refine Ix.ha ?_)) | (refine Al.hp H ?_; clear H; intro _ _ H _) | (refine St.h H ?_; clear H; intro _ H))
      clear hA5
      refine Sm.lith (cs := (insW y).flatMap ints) H T.ok (fun p2 w2 H _ => ?_)
      refine apL (enc := ints) (insW y) H T.ok ?_ ?_ (fun D' dc' w3 H => ?_) (by simp [insW]) (fun _ _ => rfl) (fun y _ v hv => by simp [ints] at hv; subst hv; rfl)
      · simp only [insW, List.length_cons, List.length_nil]; show (W1.length + 5) * 8 ≤ _; omega
      · simp only [insW, List.length_cons, List.length_nil]; omega
      simp only [List.cons_append, List.nil_append] at H
      replace H := H.d0
      have hnx : W0 ++ funH x.1 ++ (x.1.code.take (k + 1)).flatMap insW = W1 ++ insW y := by
        obtain ⟨g1, g2⟩ := List.getElem?_eq_some_iff.1 hy
        rw [List.take_succ_eq_append_getElem g1, List.flatMap_append, ← List.append_assoc, hW1, g2]; simp
      repeat' ((conv => whnf); first | (((with_reducible show Gd _ _ _); first | with_reducible refine Gd.t ?_ | with_reducible refine Gd.f ?_ | with_reducible refine Gd.dec (fun _ => ?_) (fun _ => ?_) | with_reducible refine Gd.beq (fun _ => ?_) (fun _ => ?_) | with_reducible refine Gd.bne (fun _ => ?_) (fun _ => ?_) | with_reducible refine Gd.not ?_ | refine Gd.t ?_ | refine Gd.f ?_ | with_reducible refine Gd.var (fun _ => ?_) (fun _ => ?_)) <;> first | (exfalso; omega) | skip) | with_reducible refine Sq.mk ?_ | ((with_reducible show Ld1 _ _ _); first | refine Ld1.h H ?_ | refine Ld1.rF ?_ | refine Ld1.r ?_) | ((with_reducible show Ld _ _ _ _); first | refine Ld.h H ?_ | refine Ld.r ?_) | ((with_reducible show Ix _ _ _ _ _); (first | refine Ix.h ?_ | refine Ix.ha ?_)) | (refine Al.hp H ?_; clear H; intro _ _ H _) | (refine St.h H ?_; clear H; intro _ H))
      exact ⟨(k + 1, D', dc'), ⟨at_int rfl (w64 (by simp) (by omega) (by omega)), rfl, rfl, at_val rfl (by rw [hnx]), rfl, rfl, rfl, rfl, trivial⟩, rfl, ⟨by simp only; omega, by rw [hnx]; exact H⟩, by simp only; omega⟩
    · have hk : k = x.1.code.length := by omega
      subst hk
      have hnx : [1886156142, (l.length : Int)] ++ ((fns l).take (i + 1)).flatMap imgF = W1 := by
        obtain ⟨g1, g2⟩ := List.getElem?_eq_some_iff.1 hfx
        rw [List.take_succ_eq_append_getElem g1, List.flatMap_append, ← List.append_assoc, hW0, ← hW1, g2, List.take_length]
        simp [imgF]
      repeat' ((conv => whnf); first | (((with_reducible show Gd _ _ _); first | with_reducible refine Gd.t ?_ | with_reducible refine Gd.f ?_ | with_reducible refine Gd.dec (fun _ => ?_) (fun _ => ?_) | with_reducible refine Gd.beq (fun _ => ?_) (fun _ => ?_) | with_reducible refine Gd.bne (fun _ => ?_) (fun _ => ?_) | with_reducible refine Gd.not ?_ | refine Gd.t ?_ | refine Gd.f ?_ | with_reducible refine Gd.var (fun _ => ?_) (fun _ => ?_)) <;> first | (exfalso; omega) | skip) | with_reducible refine Sq.mk ?_ | ((with_reducible show Ld1 _ _ _); first | refine Ld1.h H ?_ | refine Ld1.rF ?_ | refine Ld1.r ?_) | ((with_reducible show Ld _ _ _ _); first | refine Ld.h H ?_ | refine Ld.r ?_) | ((with_reducible show Ix _ _ _ _ _); (first | refine Ix.h ?_ | refine Ix.ha ?_)) | (refine Al.hp H ?_; clear H; intro _ _ H _) | (refine St.h H ?_; clear H; intro _ H))
      exact ⟨(i + 1, D, dc), ⟨at_int (m := ((i + 1 : Nat) : Int)) rfl (w64 (by simp) (by omega) (by omega)), rfl, rfl, at_val rfl (by rw [hnx]), rfl, trivial⟩, rfl, ⟨by simp only; omega, by rw [hnx]; exact H⟩, by simp only; omega⟩
  · have hi : i = l.length := by omega
    subst hi
    have hW : [1886156142, (l.length : Int)] ++ ((fns l).take l.length).flatMap imgF = imgP (fns l) := by
      rw [imgP, hfl, List.take_of_length_le (by omega)]
    rw [hW] at H
    rw [hW]
    have hwl : (imgP (fns l)).length ≤ 82050 := by
      have := imgFs_len hlc
      rw [imgP]; simp only [List.length_append, List.length_cons, List.length_nil]; omega
    repeat' (first | ((conv => whnf); first | (((with_reducible show Gd _ _ _); first | with_reducible refine Gd.t ?_ | with_reducible refine Gd.f ?_ | with_reducible refine Gd.dec (fun _ => ?_) (fun _ => ?_) | with_reducible refine Gd.beq (fun _ => ?_) (fun _ => ?_) | with_reducible refine Gd.bne (fun _ => ?_) (fun _ => ?_) | with_reducible refine Gd.not ?_ | refine Gd.t ?_ | refine Gd.f ?_ | with_reducible refine Gd.var (fun _ => ?_) (fun _ => ?_)) <;> first | (exfalso; omega) | skip) | with_reducible refine Sq.mk ?_ | ((with_reducible show Ld1 _ _ _); first | refine Ld1.h H ?_ | refine Ld1.rF ?_ | refine Ld1.r ?_) | ((with_reducible show Ld _ _ _ _); first | refine Ld.h H ?_ | refine Ld.r ?_) | ((with_reducible show Ix _ _ _ _ _); (first | refine Ix.h ?_ | refine Ix.ha ?_)) | (refine Al.hp H ?_; clear H; intro _ _ H _) | (refine St.h H ?_; clear H; intro _ H)) | (((conv => whnf); refine Cl.mk (psum_c C cc (imgP (fns l)) _ (H.rdq 0 rfl) (by omega)) ?_); rintro _ _ ⟨rfl, hx⟩; replace H := H.ext hx; clear hx))
    refine Sm.lith (cs := [.int .i64 (sumL (imgP (fns l)))]) H T.ok (fun p2 w2 H _ => ?_)
    refine Sm.ap1 (enc := ints) (sumL (imgP (fns l))) H T.ok ?_ ?_ (fun C' cc' w3 H => ?_)
    · show ((imgP (fns l)).length + 1) * 8 ≤ _; omega
    · omega
    simp only [List.cons_append, List.nil_append] at H
    repeat' ((conv => whnf); first | (((with_reducible show Gd _ _ _); first | with_reducible refine Gd.t ?_ | with_reducible refine Gd.f ?_ | with_reducible refine Gd.dec (fun _ => ?_) (fun _ => ?_) | with_reducible refine Gd.beq (fun _ => ?_) (fun _ => ?_) | with_reducible refine Gd.bne (fun _ => ?_) (fun _ => ?_) | with_reducible refine Gd.not ?_ | refine Gd.t ?_ | refine Gd.f ?_ | with_reducible refine Gd.var (fun _ => ?_) (fun _ => ?_)) <;> first | (exfalso; omega) | skip) | with_reducible refine Sq.mk ?_ | ((with_reducible show Ld1 _ _ _); first | refine Ld1.h H ?_ | refine Ld1.rF ?_ | refine Ld1.r ?_) | ((with_reducible show Ld _ _ _ _); first | refine Ld.h H ?_ | refine Ld.r ?_) | ((with_reducible show Ix _ _ _ _ _); (first | refine Ix.h ?_ | refine Ix.ha ?_)) | (refine Al.hp H ?_; clear H; intro _ _ H _) | (refine St.h H ?_; clear H; intro _ H))
    exact ⟨C', cc', imgS (fns l), by rw [hz, imgS, List.length_append]; rfl, fun _ => rfl, fun h => absurd hV h, H⟩
set_option maxHeartbeats 1000000 in
theorem rImage_c (B : Option Addr) (l : List FE) (d : Nat) (w : World) (hB : RdP w B l) (hV : Valid (fns l)) :
    Cl Tryd.prog 70 #[pv B l.length d] w (fun v w' => ∃ C cc, v = .slice C (imgS (fns l)).length cc ∧ Hp nw w w' [qu ints 1 2 C cc (imgS (fns l))]) (fun _ _ => False) := by
  have hfl := fns_len l
  have hlen := hV.len
  have hlc : ∀ f ∈ fns l, f.code.length ≤ 512 := fun f hf => (shaped_len (hV.shaped f hf)).2
  refine calls_ex (args := [pv B l.length d]) T.ok Tryd.func70 rfl rfl rfl rfl ?_
  have H := Hp.begin nw w
  refine Sq.mk ?_
  ((conv => whnf); refine Al.hp H ?_; clear H; intro pp _ H _)
  repeat' ((conv => whnf); first | (((with_reducible show Gd _ _ _); first | with_reducible refine Gd.t ?_ | with_reducible refine Gd.f ?_ | with_reducible refine Gd.dec (fun _ => ?_) (fun _ => ?_) | with_reducible refine Gd.beq (fun _ => ?_) (fun _ => ?_) | with_reducible refine Gd.bne (fun _ => ?_) (fun _ => ?_) | with_reducible refine Gd.not ?_ | refine Gd.t ?_ | refine Gd.f ?_ | with_reducible refine Gd.var (fun _ => ?_) (fun _ => ?_)) <;> first | (exfalso; omega) | skip) | with_reducible refine Sq.mk ?_ | ((with_reducible show Ld1 _ _ _); first | refine Ld1.h H ?_ | refine Ld1.rF ?_ | refine Ld1.r ?_) | ((with_reducible show Ld _ _ _ _); first | refine Ld.h H ?_ | refine Ld.r ?_) | ((with_reducible show Ix _ _ _ _ _); (first | refine Ix.h ?_ | refine Ix.ha ?_)) | (refine Al.hp H ?_; clear H; intro _ _ H _) | (refine St.h H ?_; clear H; intro _ H))
  refine Sm.lith (cs := [.int .i64 1886156142, .int .i64 (l.length : Int)]) H T.ok (fun p1 w1 H _ => ?_)
  replace H : Hp nw w w1 [bk p1 2 ([1886156142, (l.length : Int)].flatMap ints), bk pp 46 (pv B l.length d).cells.toList] := H
  replace H := Hp.bq (sz := 1) H (fun _ _ => rfl)
  repeat' ((conv => whnf); first | (((with_reducible show Gd _ _ _); first | with_reducible refine Gd.t ?_ | with_reducible refine Gd.f ?_ | with_reducible refine Gd.dec (fun _ => ?_) (fun _ => ?_) | with_reducible refine Gd.beq (fun _ => ?_) (fun _ => ?_) | with_reducible refine Gd.bne (fun _ => ?_) (fun _ => ?_) | with_reducible refine Gd.not ?_ | refine Gd.t ?_ | refine Gd.f ?_ | with_reducible refine Gd.var (fun _ => ?_) (fun _ => ?_)) <;> first | (exfalso; omega) | skip) | with_reducible refine Sq.mk ?_ | ((with_reducible show Ld1 _ _ _); first | refine Ld1.h H ?_ | refine Ld1.rF ?_ | refine Ld1.r ?_) | ((with_reducible show Ld _ _ _ _); first | refine Ld.h H ?_ | refine Ld.r ?_) | ((with_reducible show Ix _ _ _ _ _); (first | refine Ix.h ?_ | refine Ix.ha ?_)) | (refine Al.hp H ?_; clear H; intro _ _ H _) | (refine St.h H ?_; clear H; intro _ H))
  refine Lp.g0 T.ok (σ := Nat × Option Addr × Nat) (fun s => [(4, .int .i64 (s.1 : Int)), (3, .slice s.2.1 ([1886156142, (l.length : Int)] ++ ((fns l).take s.1).flatMap imgF).length s.2.2), (1, .pointer (some ⟨pp, 0, none⟩))])
    (fun s w' => s.1 ≤ l.length ∧ Hp nw w w' [qu ints 1 2 s.2.1 s.2.2 ([1886156142, (l.length : Int)] ++ ((fns l).take s.1).flatMap imgF), bk pp 46 (pv B l.length d).cells.toList]) (fun s _ => l.length - s.1) (0, some ⟨p1, 0, none⟩, 2) rfl ⟨rfl, rfl, rfl, trivial⟩ ⟨Nat.zero_le _, H⟩ ?_
  clear H
  rintro ⟨i, C, cc⟩ w5 ⟨hi, H⟩
  simp only at hi H ⊢
  have htk : (((fns l).take i).flatMap imgF).length ≤ i * 2564 := Nat.le_trans (imgFs_len (fs := (fns l).take i) (fun f hf => hlc f (List.mem_of_mem_take hf))) (Nat.mul_le_mul_right _ (by simp; omega))
  by_cases hlt : i < l.length
  · obtain ⟨x, hx⟩ : ∃ x, l[i]? = some x := ⟨_, List.getElem?_eq_getElem hlt⟩
    have hxm := List.mem_of_getElem? hx
    have hfx := fns_at hx
    have hx5 := hlc x.1 (List.mem_of_getElem? hfx)
    have hB5 := RdS.from H.e hB.top
    generalize hW0 : [1886156142, (l.length : Int)] ++ ((fns l).take i).flatMap imgF = W0 at H
    have hw0 : W0.length ≤ 2 + i * 2564 := by rw [← hW0]; simp only [List.length_append, List.length_cons, List.length_nil]; omega
    repeat' ((conv => whnf); first | (((with_reducible show Gd _ _ _); first | with_reducible refine Gd.t ?_ | with_reducible refine Gd.f ?_ | with_reducible refine Gd.dec (fun _ => ?_) (fun _ => ?_) | with_reducible refine Gd.beq (fun _ => ?_) (fun _ => ?_) | with_reducible refine Gd.bne (fun _ => ?_) (fun _ => ?_) | with_reducible refine Gd.not ?_ | refine Gd.t ?_ | refine Gd.f ?_ | with_reducible refine Gd.var (fun _ => ?_) (fun _ => ?_)) <;> first | (exfalso; omega) | skip) | with_reducible refine Sq.mk ?_ | ((with_reducible show Ld1 _ _ _); first | refine Ld1.h H ?_ | refine Ld1.rF ?_ | refine Ld1.r ?_) | ((with_reducible show Ld _ _ _ _); first | refine Ld.h H ?_ | refine Ld.r ?_) | ((with_reducible show Ix _ _ _ _ _); (first | refine Ix.h ?_ | refine Ix.ha ?_)) | (refine St.h H ?_; clear H; intro _ H))
    ((conv => whnf); refine Al.hp H ?_; clear H; intro pt _ H _)
    repeat' ((conv => whnf); first | (((with_reducible show Gd _ _ _); first | with_reducible refine Gd.t ?_ | with_reducible refine Gd.f ?_ | with_reducible refine Gd.dec (fun _ => ?_) (fun _ => ?_) | with_reducible refine Gd.beq (fun _ => ?_) (fun _ => ?_) | with_reducible refine Gd.bne (fun _ => ?_) (fun _ => ?_) | with_reducible refine Gd.not ?_ | refine Gd.t ?_ | refine Gd.f ?_ | with_reducible refine Gd.var (fun _ => ?_) (fun _ => ?_)) <;> first | (exfalso; omega) | skip) | with_reducible refine Sq.mk ?_ | ((with_reducible show Ld1 _ _ _); first | refine Ld1.h H ?_ | refine Ld1.rF ?_ | refine Ld1.r ?_) | ((with_reducible show Ld _ _ _ _); first | refine Ld.h H ?_ | refine Ld.r ?_) | ((with_reducible show Ix _ _ _ _ _); (first | refine Ix.h ?_ | refine Ix.ha ?_)) | (refine Al.hp H ?_; clear H; intro _ _ H _) | (refine St.h H ?_; clear H; intro _ H))
    clear hB5
    refine Sm.lith (cs := (funH x.1).flatMap ints) H T.ok (fun p2 w2 H _ => ?_)
    refine apL (enc := ints) (funH x.1) H T.ok ?_ ?_ (fun C' cc' w3 H => ?_) (by simp [funH]) (fun _ _ => rfl) (fun y _ v hv => by simp [ints] at hv; subst hv; rfl)
    · simp only [funH, List.length_cons, List.length_nil]; show (W0.length + 4) * 8 ≤ _; omega
    · simp only [funH, List.length_cons, List.length_nil]; omega
    simp only [List.cons_append, List.nil_append] at H
    have hfl4 : (W0 ++ funH x.1).length = W0.length + 4 := by simp [funH]
    repeat' ((conv => whnf); first | (((with_reducible show Gd _ _ _); first | with_reducible refine Gd.t ?_ | with_reducible refine Gd.f ?_ | with_reducible refine Gd.dec (fun _ => ?_) (fun _ => ?_) | with_reducible refine Gd.beq (fun _ => ?_) (fun _ => ?_) | with_reducible refine Gd.bne (fun _ => ?_) (fun _ => ?_) | with_reducible refine Gd.not ?_ | refine Gd.t ?_ | refine Gd.f ?_ | with_reducible refine Gd.var (fun _ => ?_) (fun _ => ?_)) <;> first | (exfalso; omega) | skip) | with_reducible refine Sq.mk ?_ | ((with_reducible show Ld1 _ _ _); first | refine Ld1.h H ?_ | refine Ld1.rF ?_ | refine Ld1.r ?_) | ((with_reducible show Ld _ _ _ _); first | refine Ld.h H ?_ | refine Ld.r ?_) | ((with_reducible show Ix _ _ _ _ _); (first | refine Ix.h ?_ | refine Ix.ha ?_)) | (refine Al.hp H ?_; clear H; intro _ _ H _) | (refine St.h H ?_; clear H; intro _ H))
    refine Lp.g0 T.ok (σ := Nat × Option Addr × Nat) (fun s => [(6, .int .i64 (s.1 : Int)), (5, .pointer (some ⟨pt, 0, none⟩)), (3, .slice s.2.1 (W0 ++ funH x.1 ++ (x.1.code.take s.1).flatMap insW).length s.2.2), (4, .int .i64 (i : Int)), (1, .pointer (some ⟨pp, 0, none⟩))])
      (fun s w' => s.1 ≤ x.1.code.length ∧ Hp nw w w' [bk pt 24 x.enc, qu ints 1 2 s.2.1 s.2.2 (W0 ++ funH x.1 ++ (x.1.code.take s.1).flatMap insW), bk pp 46 (pv B l.length d).cells.toList]) (fun s _ => x.1.code.length - s.1) (0, C', cc') rfl ⟨rfl, rfl, at_val rfl (by simp), rfl, rfl, trivial⟩ ⟨Nat.zero_le _, by simp only [List.take_zero, List.flatMap_nil, List.append_nil]; exact H⟩ ?_
    clear H
    rintro ⟨k, D, dc⟩ w6 ⟨hk, H⟩
    simp only at hk H ⊢
    generalize hW1 : W0 ++ funH x.1 ++ (x.1.code.take k).flatMap insW = W1 at H
    have hw1 : W1.length = W0.length + 4 + k * 5 := by rw [← hW1, List.length_append, hfl4, insW_len]; simp; omega
    by_cases hkl : k < x.1.code.length
    · obtain ⟨y, hy⟩ : ∃ y, x.1.code[k]? = some y := ⟨_, List.getElem?_eq_getElem hkl⟩
      have hA5 := RdS.from H.e (hB.code x hxm)
      repeat' ((conv => whnf); first | (((with_reducible show Gd _ _ _); first | with_reducible refine Gd.t ?_ | with_reducible refine Gd.f ?_ | with_reducible refine Gd.dec (fun _ => ?_) (fun _ => ?_) | with_reducible refine Gd.beq (fun _ => ?_) (fun _ => ?_) | with_reducible refine Gd.bne (fun _ => ?_) (fun _ => ?_) | with_reducible refine Gd.not ?_ | refine Gd.t ?_ | refine Gd.f ?_ | with_reducible refine Gd.var (fun _ => ?_) (fun _ => ?_)) <;> first | (exfalso; omega) | skip) | with_reducible refine Sq.mk ?_ | ((with_reducible show Ld1 _ _ _); first | refine Ld1.h H ?_ | refine Ld1.rF ?_ | refine Ld1.r ?_) | ((with_reducible show Ld _ _ _ _); first | refine Ld.h H ?_ | refine Ld.r ?_) | ((with_reducible show Ix _ _ _ _ _); (first | refine Ix.h ?_ | refine Ix.ha ?_)) | (refine St.h H ?_; clear H; intro _ H))
      ((conv => whnf); refine Al.hp H ?_; clear H; intro pu _ H _)
      repeat' ((conv => whnf); first | (((with_reducible show Gd _ _ _); first | with_reducible refine Gd.t ?_ | with_reducible refine Gd.f ?_ | with_reducible refine Gd.dec (fun _ => ?_) (fun _ => ?_) | with_reducible refine Gd.beq (fun _ => ?_) (fun _ => ?_) | with_reducible refine Gd.bne (fun _ => ?_) (fun _ => ?_) | with_reducible refine Gd.not ?_ | refine Gd.t ?_ | refine Gd.f ?_ | with_reducible refine Gd.var (fun _ => ?_) (fun _ => ?_)) <;> first | (exfalso; omega) | skip) | with_reducible refine Sq.mk ?_ | ((with_reducible show Ld1 _ _ _); first | refine Ld1.h H ?_ | refine Ld1.rF ?_ | refine Ld1.r ?_) | ((with_reducible show Ld _ _ _ _); first | refine Ld.h H ?_ | refine Ld.r ?_) | ((with_reducible show Ix _ _ _ _ _); (first | refine Ix.h ?_ | refine Ix.ha ?_)) | (refine Al.hp H ?_; clear H; intro _ _ H _) | (refine St.h H ?_; clear H; intro _ H))
      clear hA5
      refine Sm.lith (cs := (insW y).flatMap ints) H T.ok (fun p2 w2 H _ => ?_)
      refine apL (enc := ints) (insW y) H T.ok ?_ ?_ (fun D' dc' w3 H => ?_) (by simp [insW]) (fun _ _ => rfl) (fun y _ v hv => by simp [ints] at hv; subst hv; rfl)
      · simp only [insW, List.length_cons, List.length_nil]; show (W1.length + 5) * 8 ≤ _; omega
      · simp only [insW, List.length_cons, List.length_nil]; omega
      simp only [List.cons_append, List.nil_append] at H
      replace H := H.d0
      have hnx : W0 ++ funH x.1 ++ (x.1.code.take (k + 1)).flatMap insW = W1 ++ insW y := by
        obtain ⟨g1, g2⟩ := List.getElem?_eq_some_iff.1 hy
        rw [List.take_succ_eq_append_getElem g1, List.flatMap_append, ← List.append_assoc, hW1, g2]; simp
      repeat' ((conv => whnf); first | (((with_reducible show Gd _ _ _); first | with_reducible refine Gd.t ?_ | with_reducible refine Gd.f ?_ | with_reducible refine Gd.dec (fun _ => ?_) (fun _ => ?_) | with_reducible refine Gd.beq (fun _ => ?_) (fun _ => ?_) | with_reducible refine Gd.bne (fun _ => ?_) (fun _ => ?_) | with_reducible refine Gd.not ?_ | refine Gd.t ?_ | refine Gd.f ?_ | with_reducible refine Gd.var (fun _ => ?_) (fun _ => ?_)) <;> first | (exfalso; omega) | skip) | with_reducible refine Sq.mk ?_ | ((with_reducible show Ld1 _ _ _); first | refine Ld1.h H ?_ | refine Ld1.rF ?_ | refine Ld1.r ?_) | ((with_reducible show Ld _ _ _ _); first | refine Ld.h H ?_ | refine Ld.r ?_) | ((with_reducible show Ix _ _ _ _ _); (first | refine Ix.h ?_ | refine Ix.ha ?_)) | (refine Al.hp H ?_; clear H; intro _ _ H _) | (refine St.h H ?_; clear H; intro _ H))
      exact ⟨(k + 1, D', dc'), ⟨at_int rfl (w64 (by simp) (by omega) (by omega)), rfl, at_val rfl (by rw [hnx]), rfl, rfl, trivial⟩, rfl, ⟨by simp only; omega, by rw [hnx]; exact H⟩, by simp only; omega⟩
    · have hk : k = x.1.code.length := by omega
      subst hk
      have hnx : [1886156142, (l.length : Int)] ++ ((fns l).take (i + 1)).flatMap imgF = W1 := by
        obtain ⟨g1, g2⟩ := List.getElem?_eq_some_iff.1 hfx
        rw [List.take_succ_eq_append_getElem g1, List.flatMap_append, ← List.append_assoc, hW0, ← hW1, g2, List.take_length]
        simp [imgF]
      repeat' ((conv => whnf); first | (((with_reducible show Gd _ _ _); first | with_reducible refine Gd.t ?_ | with_reducible refine Gd.f ?_ | with_reducible refine Gd.dec (fun _ => ?_) (fun _ => ?_) | with_reducible refine Gd.beq (fun _ => ?_) (fun _ => ?_) | with_reducible refine Gd.bne (fun _ => ?_) (fun _ => ?_) | with_reducible refine Gd.not ?_ | refine Gd.t ?_ | refine Gd.f ?_ | with_reducible refine Gd.var (fun _ => ?_) (fun _ => ?_)) <;> first | (exfalso; omega) | skip) | with_reducible refine Sq.mk ?_ | ((with_reducible show Ld1 _ _ _); first | refine Ld1.h H ?_ | refine Ld1.rF ?_ | refine Ld1.r ?_) | ((with_reducible show Ld _ _ _ _); first | refine Ld.h H ?_ | refine Ld.r ?_) | ((with_reducible show Ix _ _ _ _ _); (first | refine Ix.h ?_ | refine Ix.ha ?_)) | (refine Al.hp H ?_; clear H; intro _ _ H _) | (refine St.h H ?_; clear H; intro _ H))
      replace H := H.d0
      exact ⟨(i + 1, D, dc), ⟨at_int (m := ((i + 1 : Nat) : Int)) rfl (w64 (by simp) (by omega) (by omega)), at_val rfl (by rw [hnx]), rfl, trivial⟩, rfl, ⟨by simp only; omega, by rw [hnx]; exact H⟩, by simp only; omega⟩
  · have hi : i = l.length := by omega
    subst hi
    have hW : [1886156142, (l.length : Int)] ++ ((fns l).take l.length).flatMap imgF = imgP (fns l) := by
      rw [imgP, hfl, List.take_of_length_le (by omega)]
    rw [hW] at H
    rw [hW]
    have hwl : (imgP (fns l)).length ≤ 82050 := by
      have := imgFs_len hlc
      rw [imgP]; simp only [List.length_append, List.length_cons, List.length_nil]; omega
    repeat' (first | ((conv => whnf); first | (((with_reducible show Gd _ _ _); first | with_reducible refine Gd.t ?_ | with_reducible refine Gd.f ?_ | with_reducible refine Gd.dec (fun _ => ?_) (fun _ => ?_) | with_reducible refine Gd.beq (fun _ => ?_) (fun _ => ?_) | with_reducible refine Gd.bne (fun _ => ?_) (fun _ => ?_) | with_reducible refine Gd.not ?_ | refine Gd.t ?_ | refine Gd.f ?_ | with_reducible refine Gd.var (fun _ => ?_) (fun _ => ?_)) <;> first | (exfalso; omega) | skip) | with_reducible refine Sq.mk ?_ | ((with_reducible show Ld1 _ _ _); first | refine Ld1.h H ?_ | refine Ld1.rF ?_ | refine Ld1.r ?_) | ((with_reducible show Ld _ _ _ _); first | refine Ld.h H ?_ | refine Ld.r ?_) | ((with_reducible show Ix _ _ _ _ _); (first | refine Ix.h ?_ | refine Ix.ha ?_)) | (refine Al.hp H ?_; clear H; intro _ _ H _) | (refine St.h H ?_; clear H; intro _ H)) | (((conv => whnf); refine Cl.mk (rsum_c C cc (imgP (fns l)) _ (H.rdq 0 rfl) (by omega)) ?_); rintro _ _ ⟨rfl, hx⟩; replace H := H.ext hx; clear hx))
    refine Sm.lith (cs := [.int .i64 (sumL (imgP (fns l)))]) H T.ok (fun p2 w2 H _ => ?_)
    refine Sm.ap1 (enc := ints) (sumL (imgP (fns l))) H T.ok ?_ ?_ (fun C' cc' w3 H => ?_)
    · show ((imgP (fns l)).length + 1) * 8 ≤ _; omega
    · omega
    simp only [List.cons_append, List.nil_append] at H
    repeat' ((conv => whnf); first | (((with_reducible show Gd _ _ _); first | with_reducible refine Gd.t ?_ | with_reducible refine Gd.f ?_ | with_reducible refine Gd.dec (fun _ => ?_) (fun _ => ?_) | with_reducible refine Gd.beq (fun _ => ?_) (fun _ => ?_) | with_reducible refine Gd.bne (fun _ => ?_) (fun _ => ?_) | with_reducible refine Gd.not ?_ | refine Gd.t ?_ | refine Gd.f ?_ | with_reducible refine Gd.var (fun _ => ?_) (fun _ => ?_)) <;> first | (exfalso; omega) | skip) | with_reducible refine Sq.mk ?_ | ((with_reducible show Ld1 _ _ _); first | refine Ld1.h H ?_ | refine Ld1.rF ?_ | refine Ld1.r ?_) | ((with_reducible show Ld _ _ _ _); first | refine Ld.h H ?_ | refine Ld.r ?_) | ((with_reducible show Ix _ _ _ _ _); (first | refine Ix.h ?_ | refine Ix.ha ?_)) | (refine Al.hp H ?_; clear H; intro _ _ H _) | (refine St.h H ?_; clear H; intro _ H))
    exact ⟨C', cc', by rw [imgS, List.length_append]; rfl, H.sel [0] rfl⟩
theorem rEncode_c (B : Option Addr) (l : List FE) (d : Nat) (w : World) (hB : RdP w B l) :
    Cl Tryd.prog 39 #[pv B l.length d] w (Encoded (fns l) w) (fun _ _ => False) := by
  refine calls_ex (args := [pv B l.length d]) T.ok Tryd.func39 rfl rfl rfl rfl ?_
  have H := Hp.begin nw w
  refine Sq.mk ?_
  ((conv => whnf); refine Al.hp H ?_; clear H; intro pp _ H _)
  repeat' ((conv => whnf); first | (((with_reducible show Gd _ _ _); first | with_reducible refine Gd.t ?_ | with_reducible refine Gd.f ?_ | with_reducible refine Gd.dec (fun _ => ?_) (fun _ => ?_) | with_reducible refine Gd.beq (fun _ => ?_) (fun _ => ?_) | with_reducible refine Gd.bne (fun _ => ?_) (fun _ => ?_) | with_reducible refine Gd.not ?_ | refine Gd.t ?_ | refine Gd.f ?_ | with_reducible refine Gd.var (fun _ => ?_) (fun _ => ?_)) <;> first | (exfalso; omega) | skip) | with_reducible refine Sq.mk ?_ | ((with_reducible show Ld1 _ _ _); first | refine Ld1.h H ?_ | refine Ld1.rF ?_ | refine Ld1.r ?_) | ((with_reducible show Ld _ _ _ _); first | refine Ld.h H ?_ | refine Ld.r ?_) | ((with_reducible show Ix _ _ _ _ _); (first | refine Ix.h ?_ | refine Ix.ha ?_)) | (refine Al.hp H ?_; clear H; intro _ _ H _) | (refine St.h H ?_; clear H; intro _ H))
  (((conv => whnf); refine Cl.mk (rCheck_c B l d _ (hB.ext H.e)) ?_); rintro _ _ ⟨rfl, hx⟩; replace H := H.ext hx; clear hx)
  ((conv => whnf); refine Al.hp H ?_; clear H; intro pr _ H _)
  repeat' ((conv => whnf); first | (((with_reducible show Gd _ _ _); first | with_reducible refine Gd.t ?_ | with_reducible refine Gd.f ?_ | with_reducible refine Gd.dec (fun _ => ?_) (fun _ => ?_) | with_reducible refine Gd.beq (fun _ => ?_) (fun _ => ?_) | with_reducible refine Gd.bne (fun _ => ?_) (fun _ => ?_) | with_reducible refine Gd.not ?_ | refine Gd.t ?_ | refine Gd.f ?_ | with_reducible refine Gd.var (fun _ => ?_) (fun _ => ?_)) <;> first | (exfalso; omega) | skip) | with_reducible refine Sq.mk ?_ | ((with_reducible show Ld1 _ _ _); first | refine Ld1.h H ?_ | refine Ld1.rF ?_ | refine Ld1.r ?_) | ((with_reducible show Ld _ _ _ _); first | refine Ld.h H ?_ | refine Ld.r ?_) | ((with_reducible show Ix _ _ _ _ _); (first | refine Ix.h ?_ | refine Ix.ha ?_)) | (refine Al.hp H ?_; clear H; intro _ _ H _) | (refine St.h H ?_; clear H; intro _ H))
  · ((conv => whnf); refine Dr.quiet T.ok mixed (by kernel_rfl) (fun W hW => ?_))
    repeat' ((conv => whnf); first | (((with_reducible show Gd _ _ _); first | with_reducible refine Gd.t ?_ | with_reducible refine Gd.f ?_ | with_reducible refine Gd.dec (fun _ => ?_) (fun _ => ?_) | with_reducible refine Gd.beq (fun _ => ?_) (fun _ => ?_) | with_reducible refine Gd.bne (fun _ => ?_) (fun _ => ?_) | with_reducible refine Gd.not ?_ | refine Gd.t ?_ | refine Gd.f ?_ | with_reducible refine Gd.var (fun _ => ?_) (fun _ => ?_)) <;> first | (exfalso; omega) | skip) | ((with_reducible show QLd1 _ _ _); first | refine QLd1.h hW H ?_ | refine QLd1.rF hW ?_ | refine QLd1.r hW ?_) | ((with_reducible show QLd _ _ _ _); first | refine QLd.h hW H ?_ | refine QLd.r hW ?_) | ((with_reducible show Ix _ _ _ _ _); (first | refine Ix.h ?_ | refine Ix.ha ?_)))
    (intro _ eT; replace H := H.ext eT; clear hW eT)
    repeat' ((conv => whnf); first | (((with_reducible show Gd _ _ _); first | with_reducible refine Gd.t ?_ | with_reducible refine Gd.f ?_ | with_reducible refine Gd.dec (fun _ => ?_) (fun _ => ?_) | with_reducible refine Gd.beq (fun _ => ?_) (fun _ => ?_) | with_reducible refine Gd.bne (fun _ => ?_) (fun _ => ?_) | with_reducible refine Gd.not ?_ | refine Gd.t ?_ | refine Gd.f ?_ | with_reducible refine Gd.var (fun _ => ?_) (fun _ => ?_)) <;> first | (exfalso; omega) | skip) | with_reducible refine Sq.mk ?_ | ((with_reducible show Ld1 _ _ _); first | refine Ld1.h H ?_ | refine Ld1.rF ?_ | refine Ld1.r ?_) | ((with_reducible show Ld _ _ _ _); first | refine Ld.h H ?_ | refine Ld.r ?_) | ((with_reducible show Ix _ _ _ _ _); (first | refine Ix.h ?_ | refine Ix.ha ?_)) | (refine Al.hp H ?_; clear H; intro _ _ H _) | (refine St.h H ?_; clear H; intro _ H))
    replace H := H.nil ints 1 2
    exact ⟨none, 0, [], rfl, fun h => absurd (check_ok.2 h) (by assumption), fun _ => rfl, H.sel [0] rfl⟩
  rename_i hz
  have hz : (checkL (fns l)).1 = 0 := by first | exact hz | exact Classical.not_not.1 hz
  have hV := check_ok.1 hz
  ((conv => whnf); refine Cl.mk (rImage_c B l d _ (hB.ext H.e) hV) ?_)
  rintro _ w3 ⟨C, cc, rfl, H'⟩
  replace H := H.fr0 H' (.inl rfl)
  repeat' ((conv => whnf); first | (((with_reducible show Gd _ _ _); first | with_reducible refine Gd.t ?_ | with_reducible refine Gd.f ?_ | with_reducible refine Gd.dec (fun _ => ?_) (fun _ => ?_) | with_reducible refine Gd.beq (fun _ => ?_) (fun _ => ?_) | with_reducible refine Gd.bne (fun _ => ?_) (fun _ => ?_) | with_reducible refine Gd.not ?_ | refine Gd.t ?_ | refine Gd.f ?_ | with_reducible refine Gd.var (fun _ => ?_) (fun _ => ?_)) <;> first | (exfalso; omega) | skip) | with_reducible refine Sq.mk ?_ | ((with_reducible show Ld1 _ _ _); first | refine Ld1.h H ?_ | refine Ld1.rF ?_ | refine Ld1.r ?_) | ((with_reducible show Ld _ _ _ _); first | refine Ld.h H ?_ | refine Ld.r ?_) | ((with_reducible show Ix _ _ _ _ _); (first | refine Ix.h ?_ | refine Ix.ha ?_)) | (refine Al.hp H ?_; clear H; intro _ _ H _) | (refine St.h H ?_; clear H; intro _ H))
  exact ⟨C, cc, imgS (fns l), by rw [hz]; rfl, fun _ => rfl, fun h => absurd hV h, H.sel [0] rfl⟩
end Go.Proofs.YtbbadmlekagloaaDoor
namespace Go.Proofs.YtbbadmlekagloaaDoor
open Go Go.Sh
set_option linter.unusedVariables false
set_option linter.unusedSimpArgs false
attribute [local irreducible] Blk Ext RdS
theorem img_small {fs : List Fn} (h : Valid fs) : (imgS fs).length ≤ 82051 := by
  have := imgFs_len (fs := fs) (fun f hf => (shaped_len (h.shaped f hf)).2)
  have := h.len
  rw [imgS, imgP]; simp only [List.length_append, List.length_cons, List.length_nil]; omega
theorem enc_eq {fs : List Fn} {a b : List Int} (h1 : Valid fs → a = imgS fs) (h2 : ¬ Valid fs → a = []) (h3 : Valid fs → b = imgS fs) (h4 : ¬ Valid fs → b = []) : a = b ∧ a.length ≤ 82051 := by
  by_cases h : Valid fs
  · rw [h1 h, h3 h]; exact ⟨rfl, img_small h⟩
  · rw [h2 h, h4 h]; exact ⟨rfl, by simp⟩
theorem encodePlaced_c (A : Option Addr) (l : List FE) (c : Nat) (w : World) (hA : RdP w A l) (hG : RdG w) (hl : l.length ≤ 1048576) (hc : ∀ x ∈ l, x.1.code.length ≤ 1048576) :
    Cl Tryd.prog 42 #[pv A l.length c] w (fun v w' => v = .bool true ∧ Ext w w') (fun _ _ => False) := by
  have hfl := fns_len l
  refine calls_ex (args := [pv A l.length c]) T.ok Tryd.func42 rfl rfl rfl rfl ?_
  have H := Hp.begin nw w
  refine Sq.mk ?_
  ((conv => whnf); refine Al.hp H ?_; clear H; intro pp _ H _)
  repeat' ((conv => whnf); first | (((with_reducible show Gd _ _ _); first | with_reducible refine Gd.t ?_ | with_reducible refine Gd.f ?_ | with_reducible refine Gd.dec (fun _ => ?_) (fun _ => ?_) | with_reducible refine Gd.beq (fun _ => ?_) (fun _ => ?_) | with_reducible refine Gd.bne (fun _ => ?_) (fun _ => ?_) | with_reducible refine Gd.not ?_ | refine Gd.t ?_ | refine Gd.f ?_ | with_reducible refine Gd.var (fun _ => ?_) (fun _ => ?_)) <;> first | (exfalso; omega) | skip) | with_reducible refine Sq.mk ?_ | ((with_reducible show Ld1 _ _ _); first | refine Ld1.h H ?_ | refine Ld1.rF ?_ | refine Ld1.r ?_) | ((with_reducible show Ld _ _ _ _); first | refine Ld.h H ?_ | refine Ld.r ?_) | ((with_reducible show Ix _ _ _ _ _); (first | refine Ix.h ?_ | refine Ix.ha ?_)) | (refine Al.hp H ?_; clear H; intro _ _ H _) | (refine St.h H ?_; clear H; intro _ H))
  ((conv => whnf); refine Cl.mk (turnedAll_c A l c _ (hA.ext H.e) hl hc) ?_)
  rintro _ w2 ⟨C, d, l', rfl, hts, H'⟩
  replace H := H.fr0L H' (by simp [Ck.new])
  simp only [List.cons_append, List.nil_append] at H
  clear H'
  have hl' : l'.length = l.length := by have := congrArg List.length hts; simp [fns_len] at this; exact this
  have hc' : ∀ x ∈ l', x.1.code.length ≤ 1048576 := fun x hx => by
    have h1 : x.1 ∈ (fns l).map turnedF := by rw [← hts]; exact List.mem_map.2 ⟨x, hx, rfl⟩
    obtain ⟨f, hf, e⟩ := List.mem_map.1 h1
    obtain ⟨y, hy, e2⟩ := List.mem_map.1 hf
    rw [← e, turned_len, ← e2]
    exact hc y hy
  ((conv => whnf); refine Al.hp H ?_; clear H; intro pt _ H _)
  repeat' ((conv => whnf); first | (((with_reducible show Gd _ _ _); first | with_reducible refine Gd.t ?_ | with_reducible refine Gd.f ?_ | with_reducible refine Gd.dec (fun _ => ?_) (fun _ => ?_) | with_reducible refine Gd.beq (fun _ => ?_) (fun _ => ?_) | with_reducible refine Gd.bne (fun _ => ?_) (fun _ => ?_) | with_reducible refine Gd.not ?_ | refine Gd.t ?_ | refine Gd.f ?_ | with_reducible refine Gd.var (fun _ => ?_) (fun _ => ?_)) <;> first | (exfalso; omega) | skip) | with_reducible refine Sq.mk ?_ | ((with_reducible show Ld1 _ _ _); first | refine Ld1.h H ?_ | refine Ld1.rF ?_ | refine Ld1.r ?_) | ((with_reducible show Ld _ _ _ _); first | refine Ld.h H ?_ | refine Ld.r ?_) | ((with_reducible show Ix _ _ _ _ _); (first | refine Ix.h ?_ | refine Ix.ha ?_)) | (refine Al.hp H ?_; clear H; intro _ _ H _) | (refine St.h H ?_; clear H; intro _ H))
  ((conv => whnf); refine Cl.mk (wrap_c C l' d _ ⟨H.rdq 2 rfl, H.atC 1 rfl⟩ (by omega) hc') ?_)
  rintro _ w3 ⟨pf, qs, C2, cc, rfl, hqs, H'⟩
  replace H := H.fr0L H' (by simp [Ck.new])
  simp only [List.cons_append, List.nil_append] at H
  clear H'
  rw [fns_len] at hqs
  have hfe : (fns l').length = l.length := by rw [fns_len]; exact hl'
  rw [hfe]
  ((conv => whnf); refine Al.hp H ?_; clear H; intro pg _ H _)
  repeat' ((conv => whnf); first | (((with_reducible show Gd _ _ _); first | with_reducible refine Gd.t ?_ | with_reducible refine Gd.f ?_ | with_reducible refine Gd.dec (fun _ => ?_) (fun _ => ?_) | with_reducible refine Gd.beq (fun _ => ?_) (fun _ => ?_) | with_reducible refine Gd.bne (fun _ => ?_) (fun _ => ?_) | with_reducible refine Gd.not ?_ | refine Gd.t ?_ | refine Gd.f ?_ | with_reducible refine Gd.var (fun _ => ?_) (fun _ => ?_)) <;> first | (exfalso; omega) | skip) | with_reducible refine Sq.mk ?_ | ((with_reducible show Ld1 _ _ _); first | refine Ld1.h H ?_ | refine Ld1.rF ?_ | refine Ld1.r ?_) | ((with_reducible show Ld _ _ _ _); first | refine Ld.h H ?_ | refine Ld.r ?_) | ((with_reducible show Ix _ _ _ _ _); (first | refine Ix.h ?_ | refine Ix.ha ?_)) | (refine Al.hp H ?_; clear H; intro _ _ H _) | (refine St.h H ?_; clear H; intro _ H))
  have hql : qs.length = (fns l').length := by rw [fns_len]; exact hqs
  have hzl : (zipE (fns l') qs).length = l.length := by rw [zipE, zip_len lai (by omega)]; omega
  have hck1 := pEncode_c (some ⟨pf, 0, none⟩) (zipE (fns l') qs) (l.length + 1) _ (RdS.from H.e hG) (rdp_zip hql (H.rdb (enc := FE.enc) 3 rfl (fun _ _ => rfl)) (H.atC 1 rfl))
  rw [hzl, fns_zip hql] at hck1
  ((conv => whnf); refine Cl.mk (hck1) ?_)
  rintro _ w4 ⟨D1, dc1, e1, rfl, hv1, hn1, H'⟩
  replace H := H.fr0 H' (.inl rfl)
  clear H' hck1
  repeat' ((conv => whnf); first | (((with_reducible show Gd _ _ _); first | with_reducible refine Gd.t ?_ | with_reducible refine Gd.f ?_ | with_reducible refine Gd.dec (fun _ => ?_) (fun _ => ?_) | with_reducible refine Gd.beq (fun _ => ?_) (fun _ => ?_) | with_reducible refine Gd.bne (fun _ => ?_) (fun _ => ?_) | with_reducible refine Gd.not ?_ | refine Gd.t ?_ | refine Gd.f ?_ | with_reducible refine Gd.var (fun _ => ?_) (fun _ => ?_)) <;> first | (exfalso; omega) | skip) | with_reducible refine Sq.mk ?_ | ((with_reducible show Ld1 _ _ _); first | refine Ld1.h H ?_ | refine Ld1.rF ?_ | refine Ld1.r ?_) | ((with_reducible show Ld _ _ _ _); first | refine Ld.h H ?_ | refine Ld.r ?_) | ((with_reducible show Ix _ _ _ _ _); (first | refine Ix.h ?_ | refine Ix.ha ?_)) | (refine Al.hp H ?_; clear H; intro _ _ H _) | (refine St.h H ?_; clear H; intro _ H))
  have hpq : pf ∉ qs := fun h => (Hp.dis H 2 4 rfl rfl (by decide) (.inl rfl)) pf ⟨h, rfl⟩
  have hqlo : ∀ q ∈ qs, w.heap.size ≤ q := fun q hq => by
    rcases H.dom (cdk qs ((fns l').map spC)) (List.mem_of_getElem? (i := 2) rfl) (.inl rfl) q hq with h | h
    · exact h.elim
    · exact h
  have htc : ∀ (i : Nat) (f t : Fn), (fns l)[i]? = some f → (fns l')[i]? = some t → t.code.length = f.code.length := fun i f t hf ht => by
    rw [hts, List.getElem?_map, hf] at ht
    simp at ht; subst ht
    exact turned_len f
  have hzr : RdS FE.enc 4 _ (some ⟨pf, 0, none⟩) (zipE (fns l') qs) := (rdp_zip hql (H.rdb (enc := FE.enc) 4 rfl (fun _ _ => rfl)) (H.atC 2 rfl)).top
  have hly := lay_c (fns l) (fns l') pf (l.length + 1) qs A l c w _ H.e hA rfl (by omega) htc hl hc (by omega) hqlo (H.atC 2 rfl) hzr hpq
  clear hzr
  ((conv => whnf); refine Cl.mk (hly) ?_)
  rintro _ w6 H'
  replace H := H.upd (c := cdk qs ((fns l').map spC)) H' rfl (.inl rfl)
  clear H' hly
  have hz : (zipE (fns l') qs ++ [markF]).flatMap FE.enc = (zipE (fns l) qs ++ [markF]).flatMap FE.enc := by rw [List.flatMap_append, List.flatMap_append, hts, turnZip]
  rw [hz] at H
  have hzl2 : (zipE (fns l) qs).length = l.length := by rw [zipE, zip_len lai (by omega)]; omega
  repeat' ((conv => whnf); first | (((with_reducible show Gd _ _ _); first | with_reducible refine Gd.t ?_ | with_reducible refine Gd.f ?_ | with_reducible refine Gd.dec (fun _ => ?_) (fun _ => ?_) | with_reducible refine Gd.beq (fun _ => ?_) (fun _ => ?_) | with_reducible refine Gd.bne (fun _ => ?_) (fun _ => ?_) | with_reducible refine Gd.not ?_ | refine Gd.t ?_ | refine Gd.f ?_ | with_reducible refine Gd.var (fun _ => ?_) (fun _ => ?_)) <;> first | (exfalso; omega) | skip) | with_reducible refine Sq.mk ?_ | ((with_reducible show Ld1 _ _ _); first | refine Ld1.h H ?_ | refine Ld1.rF ?_ | refine Ld1.r ?_) | ((with_reducible show Ld _ _ _ _); first | refine Ld.h H ?_ | refine Ld.r ?_) | ((with_reducible show Ix _ _ _ _ _); (first | refine Ix.h ?_ | refine Ix.ha ?_)) | (refine Al.hp H ?_; clear H; intro _ _ H _) | (refine St.h H ?_; clear H; intro _ H))
  have hck2 := pEncode_c (some ⟨pf, 0, none⟩) (zipE (fns l) qs) (l.length + 1) _ (RdS.from H.e hG) (rdp_zip (by omega) (H.rdb (enc := FE.enc) 4 rfl (fun _ _ => rfl)) (H.atC 2 rfl))
  rw [hzl2, fns_zip (by omega)] at hck2
  ((conv => whnf); refine Cl.mk (hck2) ?_)
  rintro _ w7 ⟨D2, dc2, e2, rfl, hv2, hn2, H'⟩
  replace H := H.fr0 H' (.inl rfl)
  clear H' hck2
  repeat' ((conv => whnf); first | (((with_reducible show Gd _ _ _); first | with_reducible refine Gd.t ?_ | with_reducible refine Gd.f ?_ | with_reducible refine Gd.dec (fun _ => ?_) (fun _ => ?_) | with_reducible refine Gd.beq (fun _ => ?_) (fun _ => ?_) | with_reducible refine Gd.bne (fun _ => ?_) (fun _ => ?_) | with_reducible refine Gd.not ?_ | refine Gd.t ?_ | refine Gd.f ?_ | with_reducible refine Gd.var (fun _ => ?_) (fun _ => ?_)) <;> first | (exfalso; omega) | skip) | with_reducible refine Sq.mk ?_ | ((with_reducible show Ld1 _ _ _); first | refine Ld1.h H ?_ | refine Ld1.rF ?_ | refine Ld1.r ?_) | ((with_reducible show Ld _ _ _ _); first | refine Ld.h H ?_ | refine Ld.r ?_) | ((with_reducible show Ix _ _ _ _ _); (first | refine Ix.h ?_ | refine Ix.ha ?_)) | (refine Al.hp H ?_; clear H; intro _ _ H _) | (refine St.h H ?_; clear H; intro _ H))
  ((conv => whnf); refine Cl.mk (rEncode_c C l' d _ ⟨H.rdq 8 rfl, H.atC 7 rfl⟩) ?_)
  rintro _ w8 ⟨D3, dc3, e3, rfl, hv3, hn3, H'⟩
  replace H := H.fr0 H' (.inl rfl)
  clear H'
  repeat' ((conv => whnf); first | (((with_reducible show Gd _ _ _); first | with_reducible refine Gd.t ?_ | with_reducible refine Gd.f ?_ | with_reducible refine Gd.dec (fun _ => ?_) (fun _ => ?_) | with_reducible refine Gd.beq (fun _ => ?_) (fun _ => ?_) | with_reducible refine Gd.bne (fun _ => ?_) (fun _ => ?_) | with_reducible refine Gd.not ?_ | refine Gd.t ?_ | refine Gd.f ?_ | with_reducible refine Gd.var (fun _ => ?_) (fun _ => ?_)) <;> first | (exfalso; omega) | skip) | with_reducible refine Sq.mk ?_ | ((with_reducible show Ld1 _ _ _); first | refine Ld1.h H ?_ | refine Ld1.rF ?_ | refine Ld1.r ?_) | ((with_reducible show Ld _ _ _ _); first | refine Ld.h H ?_ | refine Ld.r ?_) | ((with_reducible show Ix _ _ _ _ _); (first | refine Ix.h ?_ | refine Ix.ha ?_)) | (refine Al.hp H ?_; clear H; intro _ _ H _) | (refine St.h H ?_; clear H; intro _ H))
  ((conv => whnf); refine Cl.mk (rEncode_c A l c _ (hA.ext H.e)) ?_)
  rintro _ w9 ⟨D4, dc4, e4, rfl, hv4, hn4, H'⟩
  replace H := H.fr0 H' (.inl rfl)
  clear H'
  obtain ⟨he13, hs1⟩ := enc_eq hv1 hn1 hv3 hn3
  obtain ⟨he24, hs2⟩ := enc_eq hv2 hn2 hv4 hn4
  repeat' (first | ((conv => whnf); first | (((with_reducible show Gd _ _ _); first | with_reducible refine Gd.t ?_ | with_reducible refine Gd.f ?_ | with_reducible refine Gd.dec (fun _ => ?_) (fun _ => ?_) | with_reducible refine Gd.beq (fun _ => ?_) (fun _ => ?_) | with_reducible refine Gd.bne (fun _ => ?_) (fun _ => ?_) | with_reducible refine Gd.not ?_ | refine Gd.t ?_ | refine Gd.f ?_ | with_reducible refine Gd.var (fun _ => ?_) (fun _ => ?_)) <;> first | (exfalso; omega) | skip) | with_reducible refine Sq.mk ?_ | ((with_reducible show Ld1 _ _ _); first | refine Ld1.h H ?_ | refine Ld1.rF ?_ | refine Ld1.r ?_) | ((with_reducible show Ld _ _ _ _); first | refine Ld.h H ?_ | refine Ld.r ?_) | ((with_reducible show Ix _ _ _ _ _); (first | refine Ix.h ?_ | refine Ix.ha ?_)) | (refine Al.hp H ?_; clear H; intro _ _ H _) | (refine St.h H ?_; clear H; intro _ H)) | (((conv => whnf); refine Cl.mk (sameWords_c D1 D3 dc1 dc3 e1 e3 _ (H.rdq 3 rfl) (H.rdq 1 rfl) (by omega)) ?_); rintro _ _ ⟨rfl, hx⟩; replace H := H.ext hx; clear hx) | (((conv => whnf); refine Cl.mk (sameWords_c D2 D4 dc2 dc4 e2 e4 _ (H.rdq 2 rfl) (H.rdq 0 rfl) (by omega)) ?_); rintro _ _ ⟨rfl, hx⟩; replace H := H.ext hx; clear hx))
  all_goals first | (exfalso; exact absurd he13 (by assumption)) | skip
  exact ⟨b_eq (by rw [decide_eq_true he24]), H.e⟩
end Go.Proofs.YtbbadmlekagloaaDoor
namespace Go.Sh
open Go.RowKit
section
variable {S : Nat → Prop} {w0 w w' : World} {Γ L R : List Ck} {α : Type} {enc : α → List Value} {sz c : Nat} {e : TypeId} {A : Option Addr} {l : List α} {x : α} {k : World → Prop} {a b : Ck}
theorem Hp.swap (H : Hp S w0 w (a :: b :: Γ)) : Hp S w0 w (b :: a :: Γ) := H.perm (List.Perm.swap b a Γ)
/-- the pieces behind the first under a name -/
theorem Hp.hide (H : Hp S w0 w (a :: Γ)) : ∃ Γ', Γ' = Γ ∧ Hp S w0 w (a :: Γ') := ⟨Γ, rfl, H⟩
theorem putL_get {cs vs : List Value} {o j : Nat} (h : o + vs.length ≤ cs.length) : (putL cs o vs)[j]? = if j < o then cs[j]? else if j < o + vs.length then vs[j - o]? else cs[j]? := by
  unfold putL
  rw [List.append_assoc]
  split
  · rw [List.getElem?_append_left (by simp; omega), List.getElem?_take_of_lt (by omega)]
  · rw [List.getElem?_append_right (by simp; omega), List.length_take, Nat.min_eq_left (by omega)]
    split
    · rw [List.getElem?_append_left (by omega)]
    · rw [List.getElem?_append_right (by omega), List.getElem?_drop]
      congr 1; omega
/-- an element of a growing slice is written -/
theorem St.elq {i : Nat} (H : Hp S w0 w Γ) (hx : (enc x).length = sz) (hi : i < l.length) (h1 : (enc x).all Value.oneCell' = true)
    (hk : ∀ w', Hp S w0 w' (L ++ qu enc sz e A c (l.set i x) :: R) → k w') (u : Sp Γ L (qu enc sz e A c l) R := by (repeat (first | exact Sp.head | apply Sp.tail))) : St w ((gA A).add (i * sz)) (enc x) k := by
  have hq : Que enc sz e w 0 A c l := H.mem (c := qu enc sz e A c l) (by rw [u.eq]; simp)
  rcases hq.place with ⟨_, hc⟩ | ⟨b, off, cs, rfl, hB, hb, hfit, hat⟩
  · have := hq.le; omega
  have hlen := flat_len hq.sizes
  have h5 : i * sz + sz ≤ l.length * sz := by
    have : (i + 1) * sz ≤ l.length * sz := Nat.mul_le_mul_right sz hi
    rw [Nat.add_mul, Nat.one_mul] at this; exact this
  have h6 : l.length * sz ≤ c * sz := Nat.mul_le_mul_right sz hq.le
  have e1 : (gA (some ⟨b, off, none⟩)).add (i * sz) = ⟨b, off + i * sz, none⟩ := by simp only [gA]; rw [add_lit]
  rw [e1]
  refine St.upd hb (Nat.ble_eq_true_of_le (by rw [hx]; omega)) h1 fun w' up hb' => hk w' (H.putS u (Hp.one ((Tch.refl _ _).upd up (.inl rfl)) (qu_ok (Que.of_blk hb' hB ?_ ?_ ?_ ?_)) fun k hk => .inl hk) rfl (.inl rfl))
  · intro y hy
    rcases List.mem_or_eq_of_mem_set hy with h | h
    · exact hq.sizes y h
    · rw [h]; exact hx
  · rw [List.length_set]; exact hq.le
  · unfold putL; simp only [List.length_append, List.length_take, List.length_drop, hx]; omega
  · intro j v hv
    rw [← putL_el hq.sizes hx hi, putL_get (by rw [hlen, hx]; exact h5)] at hv
    rw [putL_get (by rw [hx]; omega)]
    split at hv
    · rw [if_pos (by omega)]; exact hat j v hv
    · split at hv
      · rw [if_neg (by omega), if_pos (by omega), show off + j - (off + i * sz) = j - i * sz by omega]; exact hv
      · rw [if_neg (by omega), if_neg (by omega)]; exact hat j v hv
end
end Go.Sh
namespace Go.Proofs.YtbbadmlekagloaaDoor
open Go Go.Sh
set_option linter.unusedVariables false
set_option linter.unusedSimpArgs false
attribute [local irreducible] Blk Ext RdS
theorem progEncode_c (A : Option Addr) (l : List FE) (c : Nat) (w : World) (hA : RdP w A l) (hG : RdG w) (hl : l.length ≤ 1048576) (hc : ∀ x ∈ l, x.1.code.length ≤ 1048576) :
    Cl Tryd.prog 8 #[pv A l.length c] w (fun v w' => v = .bool true ∧ Ext w w') (fun _ _ => False) := by
  have hfl := fns_len l
  refine calls_ex (args := [pv A l.length c]) T.ok Tryd.func8 rfl rfl rfl rfl ?_
  have H := Hp.begin nw w
  refine Sq.mk ?_
  ((conv => whnf); refine Al.hp H ?_; clear H; intro pp _ H _)
  repeat' ((conv => whnf); first | (((with_reducible show Gd _ _ _); first | with_reducible refine Gd.t ?_ | with_reducible refine Gd.f ?_ | with_reducible refine Gd.dec (fun _ => ?_) (fun _ => ?_) | with_reducible refine Gd.beq (fun _ => ?_) (fun _ => ?_) | with_reducible refine Gd.bne (fun _ => ?_) (fun _ => ?_) | with_reducible refine Gd.not ?_ | refine Gd.t ?_ | refine Gd.f ?_ | with_reducible refine Gd.var (fun _ => ?_) (fun _ => ?_)) <;> first | (exfalso; omega) | skip) | with_reducible refine Sq.mk ?_ | ((with_reducible show Ld1 _ _ _); first | refine Ld1.h H ?_ | refine Ld1.rF ?_ | refine Ld1.r ?_) | ((with_reducible show Ld _ _ _ _); first | refine Ld.h H ?_ | refine Ld.r ?_) | ((with_reducible show Ix _ _ _ _ _); (first | refine Ix.h ?_ | refine Ix.ha ?_)) | (refine Al.hp H ?_; clear H; intro _ _ H _) | (refine St.h H ?_; clear H; intro _ H))
  ((conv => whnf); refine Cl.mk (rEncode_c A l c _ (hA.ext H.e)) ?_)
  rintro _ w2 ⟨D0, dc0, e0, rfl, hv0, hn0, H'⟩
  replace H := H.fr0 H' (.inl rfl)
  clear H'
  repeat' ((conv => whnf); first | (((with_reducible show Gd _ _ _); first | with_reducible refine Gd.t ?_ | with_reducible refine Gd.f ?_ | with_reducible refine Gd.dec (fun _ => ?_) (fun _ => ?_) | with_reducible refine Gd.beq (fun _ => ?_) (fun _ => ?_) | with_reducible refine Gd.bne (fun _ => ?_) (fun _ => ?_) | with_reducible refine Gd.not ?_ | refine Gd.t ?_ | refine Gd.f ?_ | with_reducible refine Gd.var (fun _ => ?_) (fun _ => ?_)) <;> first | (exfalso; omega) | skip) | with_reducible refine Sq.mk ?_ | ((with_reducible show Ld1 _ _ _); first | refine Ld1.h H ?_ | refine Ld1.rF ?_ | refine Ld1.r ?_) | ((with_reducible show Ld _ _ _ _); first | refine Ld.h H ?_ | refine Ld.r ?_) | ((with_reducible show Ix _ _ _ _ _); (first | refine Ix.h ?_ | refine Ix.ha ?_)) | (refine Al.hp H ?_; clear H; intro _ _ H _) | (refine St.h H ?_; clear H; intro _ H))
  ((conv => whnf); refine Cl.mk (wrap_c A l c _ (hA.ext H.e) hl hc) ?_)
  rintro _ w3 ⟨pf, qs, C2, cc, rfl, hqs, H'⟩
  replace H := H.fr0L H' (by simp [Ck.new])
  simp only [List.cons_append, List.nil_append] at H
  clear H'
  rw [hfl]
  ((conv => whnf); refine Al.hp H ?_; clear H; intro pg _ H _)
  have hzl : (zipE (fns l) qs).length = l.length := by rw [zipE, zip_len lai (by omega)]; omega
  repeat' ((conv => whnf); first | (((with_reducible show Gd _ _ _); first | with_reducible refine Gd.t ?_ | with_reducible refine Gd.f ?_ | with_reducible refine Gd.dec (fun _ => ?_) (fun _ => ?_) | with_reducible refine Gd.beq (fun _ => ?_) (fun _ => ?_) | with_reducible refine Gd.bne (fun _ => ?_) (fun _ => ?_) | with_reducible refine Gd.not ?_ | refine Gd.t ?_ | refine Gd.f ?_ | with_reducible refine Gd.var (fun _ => ?_) (fun _ => ?_)) <;> first | (exfalso; omega) | skip) | with_reducible refine Sq.mk ?_ | ((with_reducible show Ld1 _ _ _); first | refine Ld1.h H ?_ | refine Ld1.rF ?_ | refine Ld1.r ?_) | ((with_reducible show Ld _ _ _ _); first | refine Ld.h H ?_ | refine Ld.r ?_) | ((with_reducible show Ix _ _ _ _ _); (first | refine Ix.h ?_ | refine Ix.ha ?_)) | (refine Al.hp H ?_; clear H; intro _ _ H _) | (refine St.h H ?_; clear H; intro _ H))
  have hck1 := pEncode_c (some ⟨pf, 0, none⟩) (zipE (fns l) qs) (l.length + 1) _ (RdS.from H.e hG) (rdp_zip hqs (H.rdb (enc := FE.enc) 3 rfl (fun _ _ => rfl)) (H.atC 1 rfl))
  rw [hzl, fns_zip hqs] at hck1
  ((conv => whnf); refine Cl.mk (hck1) ?_)
  rintro _ w4 ⟨D1, dc1, e1, rfl, hv1, hn1, H'⟩
  replace H := H.fr0 H' (.inl rfl)
  clear H' hck1
  repeat' ((conv => whnf); first | (((with_reducible show Gd _ _ _); first | with_reducible refine Gd.t ?_ | with_reducible refine Gd.f ?_ | with_reducible refine Gd.dec (fun _ => ?_) (fun _ => ?_) | with_reducible refine Gd.beq (fun _ => ?_) (fun _ => ?_) | with_reducible refine Gd.bne (fun _ => ?_) (fun _ => ?_) | with_reducible refine Gd.not ?_ | refine Gd.t ?_ | refine Gd.f ?_ | with_reducible refine Gd.var (fun _ => ?_) (fun _ => ?_)) <;> first | (exfalso; omega) | skip) | with_reducible refine Sq.mk ?_ | ((with_reducible show Ld1 _ _ _); first | refine Ld1.h H ?_ | refine Ld1.rF ?_ | refine Ld1.r ?_) | ((with_reducible show Ld _ _ _ _); first | refine Ld.h H ?_ | refine Ld.r ?_) | ((with_reducible show Ix _ _ _ _ _); (first | refine Ix.h ?_ | refine Ix.ha ?_)) | (refine Al.hp H ?_; clear H; intro _ _ H _) | (refine St.h H ?_; clear H; intro _ H))
  have hck2 := pEncode_c (some ⟨pf, 0, none⟩) (zipE (fns l) qs) (l.length + 1) _ (RdS.from H.e hG) (rdp_zip hqs (H.rdb (enc := FE.enc) 4 rfl (fun _ _ => rfl)) (H.atC 2 rfl))
  rw [hzl, fns_zip hqs] at hck2
  ((conv => whnf); refine Cl.mk (hck2) ?_)
  rintro _ w5 ⟨D2, dc2, e2, rfl, hv2, hn2, H'⟩
  replace H := H.fr0 H' (.inl rfl)
  clear H' hck2
  obtain ⟨he10, hs1⟩ := enc_eq hv1 hn1 hv0 hn0
  obtain ⟨he20, hs2⟩ := enc_eq hv2 hn2 hv0 hn0
  repeat' (first | ((conv => whnf); first | (((with_reducible show Gd _ _ _); first | with_reducible refine Gd.t ?_ | with_reducible refine Gd.f ?_ | with_reducible refine Gd.dec (fun _ => ?_) (fun _ => ?_) | with_reducible refine Gd.beq (fun _ => ?_) (fun _ => ?_) | with_reducible refine Gd.bne (fun _ => ?_) (fun _ => ?_) | with_reducible refine Gd.not ?_ | refine Gd.t ?_ | refine Gd.f ?_ | with_reducible refine Gd.var (fun _ => ?_) (fun _ => ?_)) <;> first | (exfalso; omega) | skip) | with_reducible refine Sq.mk ?_ | ((with_reducible show Ld1 _ _ _); first | refine Ld1.h H ?_ | refine Ld1.rF ?_ | refine Ld1.r ?_) | ((with_reducible show Ld _ _ _ _); first | refine Ld.h H ?_ | refine Ld.r ?_) | ((with_reducible show Ix _ _ _ _ _); (first | refine Ix.h ?_ | refine Ix.ha ?_)) | (refine Al.hp H ?_; clear H; intro _ _ H _) | (refine St.h H ?_; clear H; intro _ H)) | (((conv => whnf); refine Cl.mk (sameWords_c D1 D0 dc1 dc0 e1 e0 _ (H.rdq 1 rfl) (H.rdq 6 rfl) (by omega)) ?_); rintro _ _ ⟨rfl, hx⟩; replace H := H.ext hx; clear hx))
  all_goals first | (exfalso; exact absurd he10 (by assumption)) | skip
  obtain ⟨Γ, hΓ, H⟩ := Hp.hide H.swap
  refine Lp.g0 T.ok (σ := Nat × List Int) (fun s => [(10, .int .i64 (s.1 : Int)), (6, .slice D1 e1.length dc1), (8, .slice D2 e2.length dc2), (3, .slice D0 e0.length dc0), (5, .pointer (some ⟨pg, 0, none⟩)), (1, .pointer (some ⟨pp, 0, none⟩))])
    (fun s w' => s.1 ≤ e1.length ∧ s.2.length = e1.length ∧ Hp nw w w' (qu ints 1 2 D1 dc1 s.2 :: Γ)) (fun s _ => e1.length - s.1) (0, e1) rfl ⟨rfl, rfl, rfl, rfl, rfl, rfl, trivial⟩ ⟨Nat.zero_le _, rfl, H⟩ ?_
  clear H
  rintro ⟨i, f1⟩ w6 ⟨hi, hf1, H⟩
  simp only at hi hf1 H ⊢
  by_cases hlt : i < e1.length
  · repeat' ((conv => whnf); first | (((with_reducible show Gd _ _ _); first | with_reducible refine Gd.t ?_ | with_reducible refine Gd.f ?_ | with_reducible refine Gd.dec (fun _ => ?_) (fun _ => ?_) | with_reducible refine Gd.beq (fun _ => ?_) (fun _ => ?_) | with_reducible refine Gd.bne (fun _ => ?_) (fun _ => ?_) | with_reducible refine Gd.not ?_ | refine Gd.t ?_ | refine Gd.f ?_ | with_reducible refine Gd.var (fun _ => ?_) (fun _ => ?_)) <;> first | (exfalso; omega) | skip) | with_reducible refine Sq.mk ?_ | ((with_reducible show Ld1 _ _ _); first | refine Ld1.h H ?_ | refine Ld1.rF ?_ | refine Ld1.r ?_) | ((with_reducible show Ld _ _ _ _); first | refine Ld.h H ?_ | refine Ld.r ?_) | ((with_reducible show Ix _ _ _ _ _); (first | refine Ix.h ?_ | refine Ix.ha ?_)) | (refine Al.hp H ?_; clear H; intro _ _ H _) | (refine St.h H ?_; clear H; intro _ H))
    refine St.elq (enc := ints) (l := f1) (c := dc1) (x := -7) H rfl (by omega) rfl (fun w' H => ?_)
    simp only [List.nil_append] at H
    repeat' ((conv => whnf); first | (((with_reducible show Gd _ _ _); first | with_reducible refine Gd.t ?_ | with_reducible refine Gd.f ?_ | with_reducible refine Gd.dec (fun _ => ?_) (fun _ => ?_) | with_reducible refine Gd.beq (fun _ => ?_) (fun _ => ?_) | with_reducible refine Gd.bne (fun _ => ?_) (fun _ => ?_) | with_reducible refine Gd.not ?_ | refine Gd.t ?_ | refine Gd.f ?_ | with_reducible refine Gd.var (fun _ => ?_) (fun _ => ?_)) <;> first | (exfalso; omega) | skip) | with_reducible refine Sq.mk ?_ | ((with_reducible show Ld1 _ _ _); first | refine Ld1.h H ?_ | refine Ld1.rF ?_ | refine Ld1.r ?_) | ((with_reducible show Ld _ _ _ _); first | refine Ld.h H ?_ | refine Ld.r ?_) | ((with_reducible show Ix _ _ _ _ _); (first | refine Ix.h ?_ | refine Ix.ha ?_)) | (refine Al.hp H ?_; clear H; intro _ _ H _) | (refine St.h H ?_; clear H; intro _ H))
    exact ⟨(i + 1, f1.set i (-7)), ⟨at_int (m := ((i + 1 : Nat) : Int)) rfl (w64 (by simp) (by omega) (by omega)), rfl, rfl, rfl, rfl, rfl, trivial⟩, rfl, ⟨by simp only; omega, by simpa using hf1, H⟩, by simp only; omega⟩
  have hi : i = e1.length := by omega
  clear hlt
  repeat' ((conv => whnf); first | (((with_reducible show Gd _ _ _); first | with_reducible refine Gd.t ?_ | with_reducible refine Gd.f ?_ | with_reducible refine Gd.dec (fun _ => ?_) (fun _ => ?_) | with_reducible refine Gd.beq (fun _ => ?_) (fun _ => ?_) | with_reducible refine Gd.bne (fun _ => ?_) (fun _ => ?_) | with_reducible refine Gd.not ?_ | refine Gd.t ?_ | refine Gd.f ?_ | with_reducible refine Gd.var (fun _ => ?_) (fun _ => ?_)) <;> first | (exfalso; omega) | skip) | with_reducible refine Sq.mk ?_ | ((with_reducible show Ld1 _ _ _); first | refine Ld1.h H ?_ | refine Ld1.rF ?_ | refine Ld1.r ?_) | ((with_reducible show Ld _ _ _ _); first | refine Ld.h H ?_ | refine Ld.r ?_) | ((with_reducible show Ix _ _ _ _ _); (first | refine Ix.h ?_ | refine Ix.ha ?_)) | (refine Al.hp H ?_; clear H; intro _ _ H _) | (refine St.h H ?_; clear H; intro _ H))
  refine Lp.g0 T.ok (σ := Nat × Option Addr × Nat × List Int) (fun s => [(11, .int .i64 (s.1 : Int)), (6, .slice s.2.1 s.2.2.2.length s.2.2.1), (8, .slice D2 e2.length dc2), (3, .slice D0 e0.length dc0), (5, .pointer (some ⟨pg, 0, none⟩)), (1, .pointer (some ⟨pp, 0, none⟩))])
    (fun s w' => s.1 ≤ 64 ∧ s.2.2.2.length = e1.length + s.1 ∧ Hp nw w w' (qu ints 1 2 s.2.1 s.2.2.1 s.2.2.2 :: Γ)) (fun s _ => 64 - s.1) (0, D1, dc1, f1) rfl ⟨rfl, at_val rfl (by rw [hf1]), rfl, rfl, rfl, rfl, trivial⟩ ⟨Nat.zero_le _, hf1, H⟩ ?_
  clear H hi hf1
  rintro ⟨j, C3, c3, f2⟩ w7 ⟨hj, hf2, H⟩
  simp only at hj hf2 H ⊢
  by_cases hlt : j < 64
  · repeat' ((conv => whnf); first | (((with_reducible show Gd _ _ _); first | with_reducible refine Gd.t ?_ | with_reducible refine Gd.f ?_ | with_reducible refine Gd.dec (fun _ => ?_) (fun _ => ?_) | with_reducible refine Gd.beq (fun _ => ?_) (fun _ => ?_) | with_reducible refine Gd.bne (fun _ => ?_) (fun _ => ?_) | with_reducible refine Gd.not ?_ | refine Gd.t ?_ | refine Gd.f ?_ | with_reducible refine Gd.var (fun _ => ?_) (fun _ => ?_)) <;> first | (exfalso; omega) | skip) | with_reducible refine Sq.mk ?_ | ((with_reducible show Ld1 _ _ _); first | refine Ld1.h H ?_ | refine Ld1.rF ?_ | refine Ld1.r ?_) | ((with_reducible show Ld _ _ _ _); first | refine Ld.h H ?_ | refine Ld.r ?_) | ((with_reducible show Ix _ _ _ _ _); (first | refine Ix.h ?_ | refine Ix.ha ?_)) | (refine St.h H ?_; clear H; intro _ H))
    refine Sm.lith (cs := [.int .i64 (-8)]) H T.ok (fun p2 w2 H _ => ?_)
    refine Sm.ap1 (enc := ints) (-8) H T.ok ?_ ?_ (fun C' cc' w3 H => ?_)
    · show (f2.length + 1) * 8 ≤ _; omega
    · omega
    simp only [List.cons_append, List.nil_append] at H
    repeat' ((conv => whnf); first | (((with_reducible show Gd _ _ _); first | with_reducible refine Gd.t ?_ | with_reducible refine Gd.f ?_ | with_reducible refine Gd.dec (fun _ => ?_) (fun _ => ?_) | with_reducible refine Gd.beq (fun _ => ?_) (fun _ => ?_) | with_reducible refine Gd.bne (fun _ => ?_) (fun _ => ?_) | with_reducible refine Gd.not ?_ | refine Gd.t ?_ | refine Gd.f ?_ | with_reducible refine Gd.var (fun _ => ?_) (fun _ => ?_)) <;> first | (exfalso; omega) | skip) | with_reducible refine Sq.mk ?_ | ((with_reducible show Ld1 _ _ _); first | refine Ld1.h H ?_ | refine Ld1.rF ?_ | refine Ld1.r ?_) | ((with_reducible show Ld _ _ _ _); first | refine Ld.h H ?_ | refine Ld.r ?_) | ((with_reducible show Ix _ _ _ _ _); (first | refine Ix.h ?_ | refine Ix.ha ?_)) | (refine Al.hp H ?_; clear H; intro _ _ H _) | (refine St.h H ?_; clear H; intro _ H))
    exact ⟨(j + 1, C', cc', f2 ++ [-8]), ⟨at_int (m := ((j + 1 : Nat) : Int)) rfl (w64 (by simp) (by omega) (by omega)), at_val rfl (by simp), rfl, rfl, rfl, rfl, trivial⟩, rfl, ⟨by simp only; omega, by simp only [List.length_append, List.length_cons, List.length_nil]; omega, H⟩, by simp only; omega⟩
  subst hΓ
  repeat' (first | ((conv => whnf); first | (((with_reducible show Gd _ _ _); first | with_reducible refine Gd.t ?_ | with_reducible refine Gd.f ?_ | with_reducible refine Gd.dec (fun _ => ?_) (fun _ => ?_) | with_reducible refine Gd.beq (fun _ => ?_) (fun _ => ?_) | with_reducible refine Gd.bne (fun _ => ?_) (fun _ => ?_) | with_reducible refine Gd.not ?_ | refine Gd.t ?_ | refine Gd.f ?_ | with_reducible refine Gd.var (fun _ => ?_) (fun _ => ?_)) <;> first | (exfalso; omega) | skip) | with_reducible refine Sq.mk ?_ | ((with_reducible show Ld1 _ _ _); first | refine Ld1.h H ?_ | refine Ld1.rF ?_ | refine Ld1.r ?_) | ((with_reducible show Ld _ _ _ _); first | refine Ld.h H ?_ | refine Ld.r ?_) | ((with_reducible show Ix _ _ _ _ _); (first | refine Ix.h ?_ | refine Ix.ha ?_)) | (refine Al.hp H ?_; clear H; intro _ _ H _) | (refine St.h H ?_; clear H; intro _ H)) | (((conv => whnf); refine Cl.mk (sameWords_c D2 D0 dc2 dc0 e2 e0 _ (H.rdq 1 rfl) (H.rdq 6 rfl) (by omega)) ?_); rintro _ _ ⟨rfl, hx⟩; replace H := H.ext hx; clear hx))
  all_goals first | (exfalso; exact absurd he20 (by assumption)) | skip
  have hut := untouched_c (fns l) pf qs C2 cc A l c _ (hA.ext H.e) rfl hl hc hqs (H.atC 3 rfl) (H.rdq 4 rfl) (H.rdb (enc := FE.enc) 5 rfl (fun _ _ => rfl))
  repeat' (first | ((conv => whnf); first | (((with_reducible show Gd _ _ _); first | with_reducible refine Gd.t ?_ | with_reducible refine Gd.f ?_ | with_reducible refine Gd.dec (fun _ => ?_) (fun _ => ?_) | with_reducible refine Gd.beq (fun _ => ?_) (fun _ => ?_) | with_reducible refine Gd.bne (fun _ => ?_) (fun _ => ?_) | with_reducible refine Gd.not ?_ | refine Gd.t ?_ | refine Gd.f ?_ | with_reducible refine Gd.var (fun _ => ?_) (fun _ => ?_)) <;> first | (exfalso; omega) | skip) | with_reducible refine Sq.mk ?_ | ((with_reducible show Ld1 _ _ _); first | refine Ld1.h H ?_ | refine Ld1.rF ?_ | refine Ld1.r ?_) | ((with_reducible show Ld _ _ _ _); first | refine Ld.h H ?_ | refine Ld.r ?_) | ((with_reducible show Ix _ _ _ _ _); (first | refine Ix.h ?_ | refine Ix.ha ?_)) | (refine Al.hp H ?_; clear H; intro _ _ H _) | (refine St.h H ?_; clear H; intro _ H)) | (((conv => whnf); refine Cl.mk (hut) ?_); rintro _ _ ⟨rfl, hx⟩; replace H := H.ext hx; clear hx) | (((conv => whnf); refine Cl.mk (encodePlaced_c A l c _ (hA.ext H.e) (RdS.from H.e hG) hl hc) ?_); rintro _ _ ⟨rfl, hx⟩; replace H := H.ext hx; clear hx))
  all_goals exact ⟨rfl, H.e⟩
end Go.Proofs.YtbbadmlekagloaaDoor
