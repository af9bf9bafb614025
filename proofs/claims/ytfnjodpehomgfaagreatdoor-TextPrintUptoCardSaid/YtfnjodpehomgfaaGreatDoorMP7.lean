/- own work: TkG, TkH, TkI, TkJ -/
import Derived.Test.YtfnjodpehomgfaaGreatDoorMP4
import Derived.Test.YtfnjodpehomgfaaGreatDoorMP6
set_option linter.unusedVariables false
set_option linter.unusedSimpArgs false
set_option linter.unusedSectionVars false
namespace Go.Proofs.YtfnjodpehomgfaaGreatDoor
open Go Go.Sh Go.Tx
attribute [local irreducible] Blk Ext RdS
set_option maxHeartbeats 4000000 in
theorem Whole_r (m : List FM) (A : Option Addr) (c : Nat) (w : World) (hG : Rp w) (hr : RdS FM.enc 3 w A m) (hrs : ∀ f ∈ m, FM.Rd w f) (hml : m.length ≤ 9000000) (hb : (m.map FM.e).all fnB = true) (hwl : (whole (m.map FM.e)).length ≤ 140737488355328) (hfs : ∀ f ∈ m, FM.Fits f) :
    Cl Tryz.prog 39 #[.agg #[.slice A m.length c]] w (fun v w' => v = .string (bs (whole (m.map FM.e))) ∧ Ext w w') (fun _ _ => False) := by
  refine calls_ex (args := [.agg #[.slice A m.length c]]) T.ok Tryz.func39 rfl rfl rfl rfl ?_
  have H := Hp.begin nw w
  refine Sq.mk ?_
  ((conv => whnf); refine Al.hp H ?_; clear H; intro p1 _ H _)
  repeat' ((conv => whnf); first | refine ztT ?_ | (refine ztB ?_ ?_ <;> intro _ <;> try (exfalso; omega)) | (refine ztW ?_; clear H; intro _ _ H _) | fail)
  refine Lp.g0 T.ok (σ := Nat) (fun i => [(4, .int .i64 (i : Int)), (3, .string (bs (whole ((m.take i).map FM.e)))), (1, .pointer (some ⟨p1, 0, none⟩))])
    (fun i w' => i ≤ m.length ∧ Hp nw w w' [bk p1 24 [.slice A m.length c]]) (fun i _ => m.length - i) 0 rfl ⟨rfl, rfl, rfl, trivial⟩ ⟨Nat.zero_le _, H⟩ ?_
  clear H
  rintro i w5 ⟨hi, H⟩
  by_cases hlt : i < m.length
  · obtain ⟨f, hf⟩ : ∃ x, m[i]? = some x := ⟨_, List.getElem?_eq_getElem hlt⟩
    have hfm := List.mem_of_getElem? hf
    have hr1 := RdS.from H.e hr
    obtain ⟨q1, q2, q3, q4, q5, q6, q7, q8⟩ := hrs f hfm
    obtain ⟨z1, z2⟩ := hfs f hfm
    have hfbb : fnB f.e = true := List.all_eq_true.1 hb _ (List.mem_map_of_mem hfm)
    have hfbs : isNameB f.name = true ∧ f.params.all isNameB = true ∧ stBs (SM.es f.body) = true := by simpa [fnB, FM.e, and_assoc] using hfbb
    have hwt := whole_take hf
    have hle := whole_le m (i + 1)
    rw [hwt] at hle
    have htx : txF (FM.e f) = k_fn ++ 32 :: (f.name ++ 40 :: (joinC f.params ++ 41 :: 32 :: 123 :: 10 :: (txB 1 (SM.es f.body) ++ [125, 10]))) := rfl
    rw [htx] at hle hwt
    simp only [List.length_append, List.length_cons, List.length_nil] at hle
    generalize whole ((m.take i).map FM.e) = W0 at *
    repeat' ((conv => whnf); first | refine ztT ?_ | (refine ztB ?_ ?_ <;> intro _ <;> try (exfalso; omega)) | (refine ztW ?_; clear H; intro _ _ H _) | fail)
    all_goals first | (exfalso; omega) | skip
    ((conv => whnf); refine Al.hp H ?_; clear H; intro p5 _ H _)
    repeat' ((conv => whnf); first | refine ztT ?_ | (refine ztB ?_ ?_ <;> intro _ <;> try (exfalso; omega)) | (refine ztW ?_; clear H; intro _ _ H _) | fail)
    refine Sm.cat (l := W0) (m := [102, 110, 32]) (by simp only [List.length_append, List.length_cons, List.length_nil]; omega) ?_
    repeat' ((conv => whnf); first | refine ztT ?_ | (refine ztB ?_ ?_ <;> intro _ <;> try (exfalso; omega)) | (refine ztW ?_; clear H; intro _ _ H _) | fail)
    refine Sm.cat (m := f.name) (by simp only [List.length_append, List.length_cons, List.length_nil]; omega) ?_
    repeat' ((conv => whnf); first | refine ztT ?_ | (refine ztB ?_ ?_ <;> intro _ <;> try (exfalso; omega)) | (refine ztW ?_; clear H; intro _ _ H _) | fail)
    refine Sm.cat (m := [40]) (by simp only [List.length_append, List.length_cons, List.length_nil]; omega) ?_
    repeat' ((conv => whnf); first | refine ztT ?_ | (refine ztB ?_ ?_ <;> intro _ <;> try (exfalso; omega)) | (refine ztW ?_; clear H; intro _ _ H _) | fail)
    clear hr1
    have hjt := join_take f.params
    refine Lp.g0 T.ok (σ := Nat) (fun j => [(6, .int .i64 (j : Int)), (5, .pointer (some ⟨p5, 0, none⟩)), (4, .int .i64 (i : Int)), (3, .string (bs (W0 ++ [102, 110, 32] ++ f.name ++ [40] ++ joinC (f.params.take j)))), (1, .pointer (some ⟨p1, 0, none⟩))])
      (fun j w' => j ≤ f.params.length ∧ Hp nw w w' [bk p5 34 (FM.enc f), bk p1 24 [.slice A m.length c]]) (fun j _ => f.params.length - j) 0 rfl ⟨rfl, rfl, rfl, at_val rfl (by simp [joinC]), rfl, trivial⟩ ⟨Nat.zero_le _, H⟩ ?_
    clear H
    rintro j w6 ⟨hj, H⟩
    by_cases hlt2 : j < f.params.length
    · obtain ⟨x, hx⟩ : ∃ x, f.params[j]? = some x := ⟨_, List.getElem?_eq_getElem hlt2⟩
      have hr2 := RdS.from H.e q1
      have hpt : f.params.take (j + 1) = f.params.take j ++ [x] := by
        obtain ⟨g1, g2⟩ := List.getElem?_eq_some_iff.1 hx
        rw [List.take_succ_eq_append_getElem g1, g2]
      have hxl := q8 x (List.mem_of_getElem? hx)
      have hj1 := hjt j
      by_cases hj0 : j = 0
      · subst hj0
        repeat' ((conv => whnf); first | refine ztT ?_ | (refine ztB ?_ ?_ <;> intro _ <;> try (exfalso; omega)) | (refine ztW ?_; clear H; intro _ _ H _) | fail)
        all_goals first | (exfalso; omega) | skip
        refine Sm.cat (m := x) (by simp only [List.length_append, List.length_cons, List.length_nil]; omega) ?_
        repeat' ((conv => whnf); first | refine ztT ?_ | (refine ztB ?_ ?_ <;> intro _ <;> try (exfalso; omega)) | (refine ztW ?_; clear H; intro _ _ H _) | fail)
        refine ⟨0 + 1, ⟨at_int (m := ((0 + 1 : Nat) : Int)) rfl (w64 (by simp) (by omega) (by omega)), rfl, rfl, ?_, rfl, trivial⟩, rfl, ⟨hlt2, H⟩, (show f.params.length - (0 + 1) < f.params.length - 0 by omega)⟩
        rw [hpt]
        simp [joinC]
        rfl
      · have hne : f.params.take j ≠ [] := fun h => by
          have hl2 : (f.params.take j).length = j := by rw [List.length_take]; omega
          rw [h] at hl2
          exact hj0 hl2.symm
        repeat' ((conv => whnf); first | refine ztT ?_ | (refine ztB ?_ ?_ <;> intro _ <;> try (exfalso; omega)) | (refine ztW ?_; clear H; intro _ _ H _) | fail)
        all_goals first | (exfalso; omega) | skip
        refine Sm.cat (m := [44, 32]) (by simp only [List.length_append, List.length_cons, List.length_nil]; omega) ?_
        repeat' ((conv => whnf); first | refine ztT ?_ | (refine ztB ?_ ?_ <;> intro _ <;> try (exfalso; omega)) | (refine ztW ?_; clear H; intro _ _ H _) | fail)
        refine Sm.cat (m := x) (by simp only [List.length_append, List.length_cons, List.length_nil]; omega) ?_
        repeat' ((conv => whnf); first | refine ztT ?_ | (refine ztB ?_ ?_ <;> intro _ <;> try (exfalso; omega)) | (refine ztW ?_; clear H; intro _ _ H _) | fail)
        refine ⟨j + 1, ⟨at_int (m := ((j + 1 : Nat) : Int)) rfl (w64 (by simp) (by omega) (by omega)), rfl, rfl, ?_, rfl, trivial⟩, rfl, ⟨hlt2, H⟩, (show f.params.length - (j + 1) < f.params.length - j by omega)⟩
        rw [hpt, join_snoc hne]
        simp only [List.append_assoc, List.cons_append, List.nil_append]
        rfl
    · obtain rfl : j = f.params.length := by omega
      rw [List.take_of_length_le (Nat.le_refl _)]
      have hli := fun w' (e : Ext w w') => lines_of (line_r _) f.body f.B f.cb 1 w' (Nat.le_refl _) (hG.ext e) (RdS.from e q2) (q3.ext e) q6 hfbs.2.2 z1 (by omega) (by omega)
      generalize txB 1 (SM.es f.body) = tb at *
      repeat' ((conv => whnf); first | refine ztT ?_ | (refine ztB ?_ ?_ <;> intro _ <;> try (exfalso; omega)) | (refine ztW ?_; clear H; intro _ _ H _) | fail)
      all_goals first | (exfalso; omega) | skip
      (((conv => whnf); refine Cl.mk (hli _ H.e) ?_); rintro _ _ ⟨rfl, hx⟩; replace H := H.ext hx; clear hx)
      repeat' ((conv => whnf); first | refine ztT ?_ | (refine ztB ?_ ?_ <;> intro _ <;> try (exfalso; omega)) | (refine ztW ?_; clear H; intro _ _ H _) | fail)
      refine Sm.cat (m := [41, 32, 123, 10]) (by simp only [List.length_append, List.length_cons, List.length_nil]; omega) ?_
      repeat' ((conv => whnf); first | refine ztT ?_ | (refine ztB ?_ ?_ <;> intro _ <;> try (exfalso; omega)) | (refine ztW ?_; clear H; intro _ _ H _) | fail)
      refine Sm.cat (m := tb) (by simp only [List.length_append, List.length_cons, List.length_nil]; omega) ?_
      repeat' ((conv => whnf); first | refine ztT ?_ | (refine ztB ?_ ?_ <;> intro _ <;> try (exfalso; omega)) | (refine ztW ?_; clear H; intro _ _ H _) | fail)
      refine Sm.cat (m := [125, 10]) (by simp only [List.length_append, List.length_cons, List.length_nil]; omega) ?_
      repeat' ((conv => whnf); first | refine ztT ?_ | (refine ztB ?_ ?_ <;> intro _ <;> try (exfalso; omega)) | (refine ztW ?_; clear H; intro _ _ H _) | fail)
      refine ⟨i + 1, ⟨at_int (m := ((i + 1 : Nat) : Int)) rfl (w64 (by simp) (by omega) (by omega)), ?_, rfl, trivial⟩, rfl, ⟨hlt, H.sel [1] rfl⟩, (show m.length - (i + 1) < m.length - i by omega)⟩
      rw [hwt]
      simp only [List.append_assoc, List.cons_append, List.nil_append]
      rfl
  · repeat' ((conv => whnf); first | refine ztT ?_ | (refine ztB ?_ ?_ <;> intro _ <;> try (exfalso; omega)) | (refine ztW ?_; clear H; intro _ _ H _) | fail)
    all_goals first | (exfalso; omega) | skip
    refine ⟨?_, H.e⟩
    rw [List.take_of_length_le (by omega)]
    rfl
set_option maxHeartbeats 2000000 in
theorem PrintR_r (m : List FM) (A : Option Addr) (c : Nat) (w : World) (hG : Rp w) (hR : Rdy w A m) :
    Cl Tryz.prog 17 #[.agg #[.slice A m.length c]] w (fun v w' => v = .tuple #[.string (bs (printP (m.map FM.e)).1), .int .i64 (printP (m.map FM.e)).2] ∧ Ext w w') (fun _ _ => False) := by
  refine calls_ex (args := [.agg #[.slice A m.length c]]) T.ok Tryz.func17 rfl rfl rfl rfl ?_
  have H := Hp.begin nw w
  have hg := fun w' (e : Ext w w') => Good_r m A c w' (RdS.from e hR.rd) (fun f hf => (hR.all f hf).ext e) hR.len
  refine Sq.mk ?_
  ((conv => whnf); refine Al.hp H ?_; clear H; intro p1 _ H _)
  cases hb : treeB (m.map FM.e) with
  | false =>
    rw [hb] at hg
    have hp : printP (m.map FM.e) = ([], 145) := by unfold printP; rw [hb]; rfl
    rw [hp]
    repeat' (first | ((conv => whnf); first | refine ztT ?_ | (refine ztB ?_ ?_ <;> intro _ <;> try (exfalso; omega)) | (refine ztW ?_; clear H; intro _ _ H _) | fail) | (((conv => whnf); refine Cl.mk (hg _ H.e) ?_); rintro _ _ ⟨rfl, hx⟩; replace H := H.ext hx; clear hx))
    exact ⟨rfl, H.e⟩
  | true =>
    rw [hb] at hg
    have hfit := hR.fit hb
    have hp : printP (m.map FM.e) = if errOf (PR (whole (m.map FM.e))) = 0 then (whole (m.map FM.e), 0) else ([], errOf (PR (whole (m.map FM.e)))) := by unfold printP; rw [if_pos hb]
    have hw := fun w' (e : Ext w w') => Whole_r m A c w' (hG.ext e) (RdS.from e hR.rd) (fun f hf => (hR.all f hf).ext e) hR.len (by simp only [treeB, Bool.and_eq_true] at hb; exact hb.2) hfit.1 hfit.2
    rw [hp]
    repeat' (first | ((conv => whnf); first | refine ztT ?_ | (refine ztB ?_ ?_ <;> intro _ <;> try (exfalso; omega)) | (refine ztW ?_; clear H; intro _ _ H _) | fail) | (((conv => whnf); refine Cl.mk (hg _ H.e) ?_); rintro _ _ ⟨rfl, hx⟩; replace H := H.ext hx; clear hx) | (((conv => whnf); refine Cl.mk (hw _ H.e) ?_); rintro _ _ ⟨rfl, hx⟩; replace H := H.ext hx; clear hx))
    generalize whole (m.map FM.e) = P at *
    ((conv => whnf); refine Cl.mk (ParseR_r P _) ?_)
    intro v2 w2 q2
    obtain ⟨m2, A2, c2, e2, rfl, l2, H'⟩ := okq q2
    clear q2
    replace H := H.fr0L H' (fun c hc => by simp only [List.mem_cons, List.not_mem_nil, or_false] at hc; rcases hc with rfl | rfl <;> exact .inl rfl)
    clear H'
    obtain ⟨E, hE⟩ : ∃ E, E = errOf (PR P) := ⟨_, rfl⟩
    rw [← hE]
    repeat' ((conv => whnf); first | refine ztT ?_ | (refine ztB ?_ ?_ <;> intro _ <;> try (exfalso; omega)) | (refine ztW ?_; clear H; intro _ _ H _) | fail)
    ((conv => whnf); refine Al.hp H ?_; clear H; intro p6 _ H _)
    ((conv => whnf); refine Al.hp H ?_; clear H; intro p7 _ H _)
    by_cases h0 : E = 0
    · rw [if_pos h0]
      repeat' ((conv => whnf); first | refine ztT ?_ | (refine ztB ?_ ?_ <;> intro _ <;> try (exfalso; omega)) | (refine ztW ?_; clear H; intro _ _ H _) | fail)
      all_goals first | (exfalso; omega) | skip
      exact ⟨rfl, H.e⟩
    · rw [if_neg h0]
      repeat' ((conv => whnf); first | refine ztT ?_ | (refine ztB ?_ ?_ <;> intro _ <;> try (exfalso; omega)) | (refine ztW ?_; clear H; intro _ _ H _) | fail)
      all_goals first | (exfalso; omega) | skip
      ((conv => whnf); refine Dr.quiet T.ok mixed (by kernel_rfl) (fun W hW => ?_))
      repeat' ((conv => whnf); first | refine ztQ ?_ | (refine ztB ?_ ?_ <;> intro _ <;> try (exfalso; omega)) | fail)
      (intro _ eT; replace H := H.ext eT; clear hW eT)
      repeat' ((conv => whnf); first | refine ztT ?_ | (refine ztB ?_ ?_ <;> intro _ <;> try (exfalso; omega)) | (refine ztW ?_; clear H; intro _ _ H _) | fail)
      exact ⟨rfl, H.e⟩
end Go.Proofs.YtfnjodpehomgfaaGreatDoor
namespace Go.Proofs.YtfnjodpehomgfaaGreatDoor
open Go Go.Sh Go.Tx
attribute [local irreducible] Blk Ext RdS
def spareN : Bs := [115, 112, 97, 114, 101]
def spareS : SM := .mk (-77) spareN emptyE none 0 [] none 0 []
def emptyS : SM := .mk 0 [] emptyE none 0 [] none 0 []
def spareF : FM := ⟨spareN, none, 0, [], none, 0, []⟩
def emptyF : FM := ⟨[], none, 0, [], none, 0, []⟩
mutual
theorem ET.Mk.ext {w w' : World} (e : Ext w w') : ∀ {t : ET}, ET.Mk w t → ET.Mk w' t
  | .mk _ _ _ _ _ _ _ _, h => ⟨fun hk => ⟨RdS.from e (h.1 hk).1, (h.1 hk).2⟩, ET.Mks.ext e h.2.1, h.2.2⟩
theorem ET.Mks.ext {w w' : World} (e : Ext w w') : ∀ {l : List ET}, ET.Mks w l → ET.Mks w' l
  | [], _ => trivial
  | _ :: _, h => ⟨ET.Mk.ext e h.1, ET.Mks.ext e h.2⟩
end
mutual
def SM.Mk (w : World) : SM → Prop
  | .mk _ nm e B cb b E ce f => ET.Mk w e ∧ RdS SM.enc 10 w B (b ++ [spareS]) ∧ b.length < cb ∧ SM.Mks w b ∧ RdS SM.enc 10 w E (f ++ [spareS]) ∧ f.length < ce ∧ SM.Mks w f ∧ b.length ≤ 9000000 ∧ f.length ≤ 9000000 ∧ nm.length ≤ 9000000
def SM.Mks (w : World) : List SM → Prop
  | [] => True
  | x :: r => SM.Mk w x ∧ SM.Mks w r
end
mutual
theorem SM.Mk.ext {w w' : World} (e : Ext w w') : ∀ {t : SM}, SM.Mk w t → SM.Mk w' t
  | .mk _ _ _ _ _ _ _ _ _, h => ⟨h.1.ext e, RdS.from e h.2.1, h.2.2.1, SM.Mks.ext e h.2.2.2.1, RdS.from e h.2.2.2.2.1, h.2.2.2.2.2.1, SM.Mks.ext e h.2.2.2.2.2.2.1, h.2.2.2.2.2.2.2⟩
theorem SM.Mks.ext {w w' : World} (e : Ext w w') : ∀ {l : List SM}, SM.Mks w l → SM.Mks w' l
  | [], _ => trivial
  | _ :: _, h => ⟨SM.Mk.ext e h.1, SM.Mks.ext e h.2⟩
end
mutual
theorem SM.Mk.rd {w : World} : ∀ {t : SM}, SM.Mk w t → SM.Rd w t
  | .mk _ _ _ _ _ _ _ _ _, h => ⟨h.1.rd, rds_front h.2.1, SM.Mks.rd h.2.2.2.1, rds_front h.2.2.2.2.1, SM.Mks.rd h.2.2.2.2.2.2.1, h.2.2.2.2.2.2.2.1, h.2.2.2.2.2.2.2.2.1, h.2.2.2.2.2.2.2.2.2⟩
theorem SM.Mks.rd {w : World} : ∀ {l : List SM}, SM.Mks w l → SM.Rds w l
  | [], _ => trivial
  | _ :: _, h => ⟨SM.Mk.rd h.1, SM.Mks.rd h.2⟩
end
theorem SM.mks_app (w : World) : ∀ l m : List SM, SM.Mks w (l ++ m) ↔ SM.Mks w l ∧ SM.Mks w m
  | [], m => by simp [SM.Mks]
  | x :: r, m => by simp [SM.Mks, SM.mks_app w r m, and_assoc]
def SRoom (B : Option Addr) (c : Nat) (l : List SM) (w : World) : Prop := RdS SM.enc 10 w B (l ++ [spareS]) ∧ l.length < c ∧ SM.Mks w l
set_option maxHeartbeats 8000000 in
theorem roomyStmts_c : ∀ (N : Nat) (B : Option Addr) (c : Nat) (l : List SM) (w : World), SM.hts l < N → RdS SM.enc 10 w B l → SM.Rds w l → l.length ≤ 9000000 →
    Cl Tryz.prog 40 #[.slice B l.length c] w (fun v w' => ∃ (B' : Option Addr) (c' : Nat) (l' : List SM) (S : Nat → Prop), v = .slice B' l'.length c' ∧ SM.es l' = SM.es l ∧ Hp nw w w' [ch S (SRoom B' c' l')]) (fun _ _ => False)
  | 0, _, _, _, _, hN, _, _, _ => by omega
  | N + 1, B, c, l, w, hN, hr, hrs, hlen => by
    refine calls_ex (args := [.slice B l.length c]) T.ok Tryz.func40 rfl rfl rfl rfl ?_
    have H := Hp.begin nw w
    have hn1' : IntKind.i64.wrap ((l.length : Int) + 1) = ((l.length + 1 : Nat) : Int) := w64 rfl (by omega) (by omega)
    repeat' ((conv => whnf); first | refine ztS ?_ | (refine ztB ?_ ?_ <;> intro _ <;> try (exfalso; omega)) | (refine ztW ?_; clear H; intro _ _ H _) | fail)
    refine Sm.makeh (z := emptyS) (enc := SM.enc) (n := l.length + 1) H T.ok ?_ ?_ (fun p3 w3 H hp3 => ?_) rfl rfl rfl hn1' hn1'
    · show 152 * (l.length + 1) ≤ _; omega
    · omega
    replace H := Hp.bq H (fun x hx => SM.enc_len x)
    rw [List.length_replicate] at H
    repeat' ((conv => whnf); first | refine ztS ?_ | (refine ztB ?_ ?_ <;> intro _ <;> try (exfalso; omega)) | (refine ztW ?_; clear H; intro _ _ H _) | fail)
    refine Lp.g0 T.ok (σ := Nat × List SM × (Nat → Prop)) (fun s => [(5, .int .i64 (s.1 : Int)), (4, .slice (some ⟨p3, 0, none⟩) (l.length + 1) (l.length + 1)), (3, .int .i64 (l.length : Int)), (0, .slice B l.length c)])
      (fun s w' => s.1 ≤ l.length ∧ s.2.1.length = s.1 ∧ SM.es s.2.1 = SM.es (l.take s.1) ∧ Hp nw w w' [qu SM.enc 10 76 (some ⟨p3, 0, none⟩) (l.length + 1) (s.2.1 ++ List.replicate (l.length - s.1 + 1) emptyS), ch s.2.2 (fun w => SM.Mks w s.2.1)])
      (fun s _ => l.length - s.1) (0, [], fun _ => False) rfl ⟨rfl, rfl, rfl, rfl, trivial⟩ ⟨Nat.zero_le _, rfl, rfl, ?_⟩ ?_
    · exact (Hp.cm (Hp.c0 H) (P' := fun w => SM.Mks w []) (fun w _ => trivial)).sel [1, 0] rfl
    clear H
    rintro ⟨i, l1, S1⟩ w5 ⟨hi, hl, hes, H⟩
    dsimp only at hi hl hes H ⊢
    have hlenl : (l1 ++ List.replicate (l.length - i + 1) emptyS).length = l.length + 1 := by simp only [List.length_append, List.length_replicate]; omega
    by_cases hlt : i < l.length
    · obtain ⟨x, hx⟩ : ∃ x, l[i]? = some x := ⟨_, List.getElem?_eq_getElem hlt⟩
      have hxm := List.mem_of_getElem? hx
      have hxr := SM.rds_mem hxm hrs
      have hxh := SM.ht_mem hxm
      have hti := SM.es_take hx
      have hr1 := RdS.from H.e hr
      obtain ⟨kd, nm, ⟨k1, o1, n1, a1, b1, A1, c2, l2⟩, Bb, cb, bd, E, ce, el⟩ := x
      simp only [SM.ht] at hxh
      obtain ⟨x1, x2, x3, x4, x5, x6, x7, x8⟩ := hxr
      repeat' ((conv => whnf); first | refine ztS ?_ | (refine ztB ?_ ?_ <;> intro _ <;> try (exfalso; omega)) | (refine ztW ?_; clear H; intro _ _ H _) | fail)
      all_goals first | (exfalso; omega) | skip
      ((conv => whnf); refine Al.hp H ?_; clear H; intro p5 _ H _)
      repeat' ((conv => whnf); first | refine ztS ?_ | (refine ztB ?_ ?_ <;> intro _ <;> try (exfalso; omega)) | (refine ztW ?_; clear H; intro _ _ H _) | fail)
      (conv => whnf)
      refine Ld.rsG (o := 2) (n := 6) (RdS.from H.e hr) hx rfl ?_
      ((conv => whnf); refine Cl.mk (twin_c _ (.mk k1 o1 n1 a1 b1 A1 c2 l2) _ (Nat.le_refl _) (x1.ext H.e)) ?_)
      rintro _ w6 ⟨⟨ky, oy, ny, my, cy, Ay, cpy, ly⟩, S2, rfl, he, H'⟩
      replace H := H.fr0 H' (.inl rfl)
      clear H' hr1
      have hr1 := RdS.from H.e hr
      repeat' ((conv => whnf); first | refine ztS ?_ | (refine ztB ?_ ?_ <;> intro _ <;> try (exfalso; omega)) | (refine ztW ?_; clear H; intro _ _ H _) | fail)
      ((conv => whnf); refine Cl.mk (roomyStmts_c N Bb cb bd _ (by omega) (RdS.from H.e x2) (SM.Rds.ext H.e x3) x6) ?_)
      rintro _ w7 ⟨B3, c3, l3, S3, rfl, he3, H'⟩
      replace H := H.fr0 H' (.inl rfl)
      clear H' hr1
      have hr1 := RdS.from H.e hr
      repeat' ((conv => whnf); first | refine ztS ?_ | (refine ztB ?_ ?_ <;> intro _ <;> try (exfalso; omega)) | (refine ztW ?_; clear H; intro _ _ H _) | fail)
      ((conv => whnf); refine Cl.mk (roomyStmts_c N E ce el _ (by omega) (RdS.from H.e x4) (SM.Rds.ext H.e x5) x7) ?_)
      rintro _ w8 ⟨B4, c4, l4, S4, rfl, he4, H'⟩
      replace H := H.fr0 H' (.inl rfl)
      clear H' hr1
      have h3l : l3.length = bd.length := by have := congrArg List.length he3; rwa [SM.es_len, SM.es_len] at this
      have h4l : l4.length = el.length := by have := congrArg List.length he4; rwa [SM.es_len, SM.es_len] at this
      have hset := set_rep (z := emptyS) (x := SM.mk kd nm (.mk ky oy ny my cy Ay cpy ly) B3 c3 l3 B4 c4 l4) (k := l.length - i) hl
      rw [← hlenl]
      repeat' ((conv => whnf); first | refine ztS ?_ | (refine ztB ?_ ?_ <;> intro _ <;> try (exfalso; omega)) | (refine ztW ?_; clear H; intro _ _ H _) | fail)
      refine St.elq (enc := SM.enc) (x := .mk kd nm (.mk ky oy ny my cy Ay cpy ly) B3 c3 l3 B4 c4 l4) H rfl (by rw [hlenl]; omega) rfl (fun w9 H => ?_)
      simp only [List.cons_append, List.nil_append] at H
      rw [hset] at H
      repeat' ((conv => whnf); first | refine ztS ?_ | (refine ztB ?_ ?_ <;> intro _ <;> try (exfalso; omega)) | (refine ztW ?_; clear H; intro _ _ H _) | fail)
      have H2 := Hp.cj (Hp.cj (Hp.cj (H.sel [0, 0, 0, 2, 1] rfl)))
      have H3 := Hp.swap (Hp.cm H2 (P' := fun w => SM.Mks w (l1 ++ [.mk kd nm (.mk ky oy ny my cy Ay cpy ly) B3 c3 l3 B4 c4 l4])) (fun w h => (SM.mks_app w l1 [.mk kd nm (.mk ky oy ny my cy Ay cpy ly) B3 c3 l3 B4 c4 l4]).2 ⟨h.2, ⟨h.1.2, h.1.1.2.1, h.1.1.2.2.1, h.1.1.2.2.2, h.1.1.1.1, h.1.1.1.2.1, h.1.1.1.2.2, by omega, by omega, x8⟩, trivial⟩))
      rw [show l.length - i = l.length - (i + 1) + 1 by omega] at H3
      rw [hlenl]
      refine ⟨(i + 1, l1 ++ [SM.mk kd nm (ET.mk ky oy ny my cy Ay cpy ly) B3 c3 l3 B4 c4 l4], fun k => ((S4 k ∨ S3 k) ∨ S2 k) ∨ S1 k), ⟨at_int (m := ((i + 1 : Nat) : Int)) rfl (w64 (by simp) (by omega) (by omega)), rfl, rfl, rfl, trivial⟩, rfl, ⟨hlt, by simp [hl], ?_, H3⟩, (show l.length - (i + 1) < l.length - i by omega)⟩
      show SM.es (l1 ++ [_]) = SM.es (l.take (i + 1))
      rw [SM.es_app, hes, hti]
      simp only [SM.es, SM.e, he, he3, he4]
    · obtain rfl : i = l.length := by omega
      rw [List.take_of_length_le (Nat.le_refl _)] at hes
      have hset := set_rep (z := emptyS) (x := spareS) (k := l.length - l.length) hl
      rw [← hlenl]
      have hrr := H.rdq 0 rfl
      repeat' ((conv => whnf); first | refine ztS ?_ | (refine ztB ?_ ?_ <;> intro _ <;> try (exfalso; omega)) | (refine ztW ?_; clear H; intro _ _ H _) | fail)
      all_goals first | (exfalso; omega) | skip
      refine St.elq (enc := SM.enc) (x := spareS) H rfl (by rw [hlenl]; omega) rfl (fun w7 H => ?_)
      rw [hset] at H
      simp only [Nat.sub_self, List.replicate_zero, List.append_nil, List.nil_append] at H
      repeat' ((conv => whnf); first | refine ztS ?_ | (refine ztB ?_ ?_ <;> intro _ <;> try (exfalso; omega)) | (refine ztW ?_; clear H; intro _ _ H _) | fail)
      refine Sm.cutHi (i := l.length) T.ok rfl rfl rfl rfl rfl (by rw [hlenl]; omega) ?_
      repeat' ((conv => whnf); first | refine ztS ?_ | (refine ztB ?_ ?_ <;> intro _ <;> try (exfalso; omega)) | (refine ztW ?_; clear H; intro _ _ H _) | fail)
      have H2 := Hp.cj (Hp.cm H (P' := fun w => RdS SM.enc 10 w (some ⟨p3, 0, none⟩) (l1 ++ [spareS])) (fun w h => Que.rd h))
      refine ⟨some ⟨p3, 0, none⟩, l.length + 1, l1, _, ?_, hes, (Hp.cm H2 (P' := SRoom (some ⟨p3, 0, none⟩) (l.length + 1) l1) (fun w h => ⟨h.1, by omega, h.2⟩)).sel [0] rfl⟩
      rw [hlenl, hl]; rfl
def FM.Mk (w : World) (f : FM) : Prop := RdS strE 1 w f.P (f.params ++ [spareN]) ∧ f.params.length < f.cp ∧ SRoom f.B f.cb f.body w ∧ f.params.length ≤ 9000000 ∧ f.body.length ≤ 9000000 ∧ f.name.length ≤ 9000000 ∧ ∀ s ∈ f.params, s.length ≤ 9000000
theorem FM.Mk.rd {w : World} {f : FM} (h : FM.Mk w f) : FM.Rd w f := ⟨rds_front h.1, rds_front h.2.2.1.1, SM.Mks.rd h.2.2.1.2.2, h.2.2.2.1, Nat.le_of_lt h.2.1, h.2.2.2.2.1, h.2.2.2.2.2.1, h.2.2.2.2.2.2⟩
theorem FM.Mk.ext {w w' : World} {f : FM} (h : FM.Mk w f) (e : Ext w w') : FM.Mk w' f := ⟨RdS.from e h.1, h.2.1, ⟨RdS.from e h.2.2.1.1, h.2.2.1.2.1, SM.Mks.ext e h.2.2.1.2.2⟩, h.2.2.2⟩
def Room (A : Option Addr) (c : Nat) (m : List FM) (w : World) : Prop := RdS FM.enc 3 w A (m ++ [spareF]) ∧ m.length < c ∧ ∀ f ∈ m, FM.Mk w f
set_option maxHeartbeats 8000000 in
theorem roomy_c (m : List FM) (A : Option Addr) (c : Nat) (w : World) (hr : RdS FM.enc 3 w A m) (hrs : ∀ f ∈ m, FM.Rd w f) (hml : m.length ≤ 9000000) :
    Cl Tryz.prog 18 #[.agg #[.slice A m.length c]] w (fun v w' => ∃ (A' : Option Addr) (c' : Nat) (m' : List FM) (S : Nat → Prop), v = .agg #[.slice A' m'.length c'] ∧ m'.map FM.e = m.map FM.e ∧ Hp nw w w' [ch S (Room A' c' m')]) (fun _ _ => False) := by
  refine calls_ex (args := [.agg #[.slice A m.length c]]) T.ok Tryz.func18 rfl rfl rfl rfl ?_
  have H := Hp.begin nw w
  have hn1' : IntKind.i64.wrap ((m.length : Int) + 1) = ((m.length + 1 : Nat) : Int) := w64 rfl (by omega) (by omega)
  refine Sq.mk ?_
  ((conv => whnf); refine Al.hp H ?_; clear H; intro p1 _ H _)
  ((conv => whnf); refine Al.hp H ?_; clear H; intro p2 _ H _)
  repeat' ((conv => whnf); first | refine ztS ?_ | (refine ztB ?_ ?_ <;> intro _ <;> try (exfalso; omega)) | (refine ztW ?_; clear H; intro _ _ H _) | fail)
  refine Sm.makeh (z := emptyF) (enc := FM.enc) (n := m.length + 1) H T.ok ?_ ?_ (fun p3 w3 H hp3 => ?_) rfl rfl rfl hn1' hn1'
  · show 64 * (m.length + 1) ≤ _; omega
  · omega
  replace H := Hp.bq (enc := FM.enc) (sz := 3) H (fun x hx => rfl)
  rw [List.length_replicate] at H
  repeat' ((conv => whnf); first | refine ztS ?_ | (refine ztB ?_ ?_ <;> intro _ <;> try (exfalso; omega)) | (refine ztW ?_; clear H; intro _ _ H _) | fail)
  refine Lp.g0 T.ok (σ := Nat × List FM × (Nat → Prop)) (fun s => [(5, .int .i64 (s.1 : Int)), (4, .slice (some ⟨p3, 0, none⟩) (m.length + 1) (m.length + 1)), (3, .int .i64 (m.length : Int)), (2, .pointer (some ⟨p2, 0, none⟩)), (1, .pointer (some ⟨p1, 0, none⟩))])
    (fun s w' => s.1 ≤ m.length ∧ s.2.1.length = s.1 ∧ s.2.1.map FM.e = (m.take s.1).map FM.e ∧ Hp nw w w' [qu FM.enc 3 34 (some ⟨p3, 0, none⟩) (m.length + 1) (s.2.1 ++ List.replicate (m.length - s.1 + 1) emptyF), ch s.2.2 (fun w => ∀ f ∈ s.2.1, FM.Mk w f), bk p2 24 [.slice none 0 0], bk p1 24 [.slice A m.length c]])
    (fun s _ => m.length - s.1) (0, [], fun _ => False) rfl ⟨rfl, rfl, rfl, rfl, rfl, trivial⟩ ⟨Nat.zero_le _, rfl, rfl, ?_⟩ ?_
  · exact (Hp.cm (Hp.c0 H) (P' := fun w => ∀ f ∈ ([] : List FM), FM.Mk w f) (fun w _ f hf => by cases hf)).sel [1, 0, 0, 0] rfl
  clear H
  rintro ⟨i, l1, S1⟩ w5 ⟨hi, hl, hes, H⟩
  dsimp only at hi hl hes H ⊢
  have hlenl : (l1 ++ List.replicate (m.length - i + 1) emptyF).length = m.length + 1 := by simp only [List.length_append, List.length_replicate]; omega
  by_cases hlt : i < m.length
  · obtain ⟨f, hx⟩ : ∃ x, m[i]? = some x := ⟨_, List.getElem?_eq_getElem hlt⟩
    have hti := FM.es_take hx
    have hr1 := RdS.from H.e hr
    obtain ⟨x1, x2, x3, x4, x5, x6, x7, x8⟩ := hrs f (List.mem_of_getElem? hx)
    have hn2' : IntKind.i64.wrap ((f.params.length : Int) + 1) = ((f.params.length + 1 : Nat) : Int) := w64 rfl (by omega) (by omega)
    repeat' ((conv => whnf); first | refine ztS ?_ | (refine ztB ?_ ?_ <;> intro _ <;> try (exfalso; omega)) | (refine ztW ?_; clear H; intro _ _ H _) | fail)
    all_goals first | (exfalso; omega) | skip
    refine Sm.makeh (z := ([] : Bs)) (enc := strE) (n := f.params.length + 1) H T.ok ?_ ?_ (fun p6 w6 H hp6 => ?_) rfl rfl rfl hn2' hn2'
    · show 16 * (f.params.length + 1) ≤ _; omega
    · omega
    replace H := Hp.bq (enc := strE) (sz := 1) H (fun x hx => rfl)
    rw [List.length_replicate] at H
    repeat' ((conv => whnf); first | refine ztS ?_ | (refine ztB ?_ ?_ <;> intro _ <;> try (exfalso; omega)) | (refine ztW ?_; clear H; intro _ _ H _) | fail)
    clear hr1
    refine Lp.g0 T.ok (σ := Nat) (fun j => [(8, .int .i64 (j : Int)), (7, .slice (some ⟨p6, 0, none⟩) (f.params.length + 1) (f.params.length + 1)), (6, .int .i64 (f.params.length : Int)), (5, .int .i64 (i : Int)), (4, .slice (some ⟨p3, 0, none⟩) (m.length + 1) (m.length + 1)), (3, .int .i64 (m.length : Int)), (2, .pointer (some ⟨p2, 0, none⟩)), (1, .pointer (some ⟨p1, 0, none⟩))])
      (fun j w' => j ≤ f.params.length ∧ Hp nw w w' [qu strE 1 9 (some ⟨p6, 0, none⟩) (f.params.length + 1) (f.params.take j ++ List.replicate (f.params.length - j + 1) []), qu FM.enc 3 34 (some ⟨p3, 0, none⟩) (m.length + 1) (l1 ++ List.replicate (m.length - i + 1) emptyF), ch S1 (fun w => ∀ f ∈ l1, FM.Mk w f), bk p2 24 [.slice none 0 0], bk p1 24 [.slice A m.length c]])
      (fun j _ => f.params.length - j) 0 rfl ⟨rfl, rfl, rfl, rfl, rfl, rfl, rfl, rfl, trivial⟩ ⟨Nat.zero_le _, H⟩ ?_
    clear H
    rintro j w6 ⟨hj, H⟩
    have hpl : (f.params.take j).length = j := by rw [List.length_take]; omega
    have hlenp : (f.params.take j ++ List.replicate (f.params.length - j + 1) ([] : Bs)).length = f.params.length + 1 := by simp only [List.length_append, List.length_replicate]; omega
    have hr1 := RdS.from H.e hr
    by_cases hlt2 : j < f.params.length
    · obtain ⟨q, hq⟩ : ∃ x, f.params[j]? = some x := ⟨_, List.getElem?_eq_getElem hlt2⟩
      have hpt : f.params.take (j + 1) = f.params.take j ++ [q] := by
        obtain ⟨h1, h2⟩ := List.getElem?_eq_some_iff.1 hq
        rw [List.take_succ_eq_append_getElem h1, h2]
      have hr2 := RdS.from H.e x1
      have hset := set_rep (z := ([] : Bs)) (x := q) (k := f.params.length - j) hpl
      rw [← hlenp]
      repeat' ((conv => whnf); first | refine ztS ?_ | (refine ztB ?_ ?_ <;> intro _ <;> try (exfalso; omega)) | (refine ztW ?_; clear H; intro _ _ H _) | fail)
      all_goals first | (exfalso; omega) | skip
      refine St.elq (enc := strE) (x := q) H rfl (by rw [hlenp]; omega) rfl (fun w7 H => ?_)
      rw [hset] at H
      repeat' ((conv => whnf); first | refine ztS ?_ | (refine ztB ?_ ?_ <;> intro _ <;> try (exfalso; omega)) | (refine ztW ?_; clear H; intro _ _ H _) | fail)
      rw [hlenp]
      simp only [List.nil_append] at H
      rw [show f.params.length - j = f.params.length - (j + 1) + 1 by omega, ← hpt] at H
      exact ⟨j + 1, ⟨at_int (m := ((j + 1 : Nat) : Int)) rfl (w64 (by simp) (by omega) (by omega)), rfl, rfl, rfl, rfl, rfl, rfl, rfl, trivial⟩, rfl, ⟨hlt2, H⟩, (show f.params.length - (j + 1) < f.params.length - j by omega)⟩
    · obtain rfl : j = f.params.length := by omega
      have hset := set_rep (z := ([] : Bs)) (x := spareN) (k := f.params.length - f.params.length) hpl
      rw [← hlenp]
      repeat' ((conv => whnf); first | refine ztS ?_ | (refine ztB ?_ ?_ <;> intro _ <;> try (exfalso; omega)) | (refine ztW ?_; clear H; intro _ _ H _) | fail)
      all_goals first | (exfalso; omega) | skip
      refine St.elq (enc := strE) (x := spareN) H rfl (by rw [hlenp]; omega) rfl (fun w7 H => ?_)
      rw [hset] at H
      simp only [Nat.sub_self, List.replicate_zero, List.append_nil, List.nil_append, List.take_length] at H
      rw [hlenp]
      repeat' ((conv => whnf); first | refine ztS ?_ | (refine ztB ?_ ?_ <;> intro _ <;> try (exfalso; omega)) | (refine ztW ?_; clear H; intro _ _ H _) | fail)
      rw [← hlenl]
      (conv => whnf)
      refine Dr.ch T.ok mixed [0, 1, 2, 3, 4, 5, 6, 7, 8, 9, 10, 11, 12, 13, 14, 15, 16, 19] [17, 18, 20] (by kernel_rfl) rfl rfl (fun w' => Blk w' p1 24 [.slice A m.length c] ∧ RdS FM.enc 3 w' A m) (fun w1 eT _ => ?_)
      replace H := H.ext eT
      have hrq := H.rdq 1 rfl
      repeat' ((conv => whnf); first | refine ztS ?_ | refine QLd1.own (fun _ hw => hw.1) ?_ | refine QLd1.rswF (fun _ hw => hw.2) ?_ hx rfl | refine ⟨.slice (some ⟨p6, 0, none⟩) f.params.length (f.params.length + 1), fun w' _ => Sm.run_of (Sm.cutHi T.ok rfl rfl rfl rfl rfl (by omega) ⟨rfl, rfl⟩), ?_⟩ | (refine Ix.rs hrq rfl (by rw [hlenl]; omega) ?_))
      (conv => whnf)
      refine ⟨⟨H.blk 4 rfl, RdS.from H.e hr⟩, ?_⟩
      ((conv => whnf); refine Cl.mk (roomyStmts_c _ f.B f.cb f.body _ (Nat.lt_succ_self _) (RdS.from H.e x2) (SM.Rds.ext H.e x3) x6) ?_)
      rintro _ w7 ⟨B3, c3, l3, S3, rfl, he3, H'⟩
      replace H := H.fr0 H' (.inl rfl)
      clear H'
      have h3l : l3.length = f.body.length := by have := congrArg List.length he3; rwa [SM.es_len, SM.es_len] at this
      (conv => whnf)
      refine ⟨⟨H.blk 5 rfl, RdS.from H.e hr⟩, ?_⟩
      repeat' ((conv => whnf); first | refine ztS ?_ | (refine ztB ?_ ?_ <;> intro _ <;> try (exfalso; omega)) | (refine ztW ?_; clear H; intro _ _ H _) | fail)
      refine ⟨⟨H.blk 5 rfl, RdS.from H.e hr⟩, ?_⟩
      have hset2 := set_rep (z := emptyF) (x := (⟨f.name, some ⟨p6, 0, none⟩, f.params.length + 1, f.params, B3, c3, l3⟩ : FM)) (k := m.length - i) hl
      refine St.elq (enc := FM.enc) (x := ⟨f.name, some ⟨p6, 0, none⟩, f.params.length + 1, f.params, B3, c3, l3⟩) H rfl (by rw [hlenl]; omega) rfl (fun w7 H => ?_)
      simp only [List.cons_append, List.nil_append] at H
      rw [hset2] at H
      rw [hlenl]
      have H2 := Hp.cj (Hp.cj (Hp.cm (H.sel [1, 0, 1, 0, 0, 0] rfl) (P' := fun w => RdS strE 1 w (some ⟨p6, 0, none⟩) (f.params ++ [spareN])) (fun w h => Que.rd h)))
      have H3 := Hp.swap (Hp.cm H2 (P' := fun w => ∀ g ∈ l1 ++ [(⟨f.name, some ⟨p6, 0, none⟩, f.params.length + 1, f.params, B3, c3, l3⟩ : FM)], FM.Mk w g) (fun w h g hg => by
        rcases List.mem_append.1 hg with hg | hg
        · exact h.2 g hg
        · rw [List.mem_singleton.1 hg]
          exact ⟨h.1.1, Nat.lt_succ_self _, h.1.2, x4, (show l3.length ≤ 9000000 by omega), x7, x8⟩))
      rw [show m.length - i = m.length - (i + 1) + 1 by omega] at H3
      refine ⟨(i + 1, l1 ++ [(⟨f.name, some ⟨p6, 0, none⟩, f.params.length + 1, f.params, B3, c3, l3⟩ : FM)], fun k => (obk (some ⟨p6, 0, none⟩) = some k ∨ S3 k) ∨ S1 k), ⟨at_int (m := ((i + 1 : Nat) : Int)) rfl (w64 (by simp) (by omega) (by omega)), rfl, rfl, rfl, rfl, trivial⟩, rfl, ⟨hlt, by simp [hl], ?_, H3⟩, (show m.length - (i + 1) < m.length - i by omega)⟩
      show (l1 ++ [_]).map FM.e = (m.take (i + 1)).map FM.e
      rw [List.map_append, hes, hti]
      simp only [List.map_cons, List.map_nil, FM.e, he3]
  · obtain rfl : i = m.length := by omega
    rw [List.take_of_length_le (Nat.le_refl _)] at hes
    have hset := set_rep (z := emptyF) (x := spareF) (k := m.length - m.length) hl
    rw [← hlenl]
    have hrr := H.rdq 0 rfl
    repeat' ((conv => whnf); first | refine ztS ?_ | (refine ztB ?_ ?_ <;> intro _ <;> try (exfalso; omega)) | (refine ztW ?_; clear H; intro _ _ H _) | fail)
    all_goals first | (exfalso; omega) | skip
    refine St.elq (enc := FM.enc) (x := spareF) H rfl (by rw [hlenl]; omega) rfl (fun w7 H => ?_)
    rw [hset] at H
    simp only [Nat.sub_self, List.replicate_zero, List.append_nil, List.nil_append] at H
    repeat' ((conv => whnf); first | refine ztS ?_ | (refine ztB ?_ ?_ <;> intro _ <;> try (exfalso; omega)) | (refine ztW ?_; clear H; intro _ _ H _) | fail)
    refine Sm.cutHi (i := m.length) T.ok rfl rfl rfl rfl rfl (by rw [hlenl]; omega) ?_
    repeat' ((conv => whnf); first | refine ztS ?_ | (refine ztB ?_ ?_ <;> intro _ <;> try (exfalso; omega)) | (refine ztW ?_; clear H; intro _ _ H _) | fail)
    have H2 := Hp.cj (Hp.cm H (P' := fun w => RdS FM.enc 3 w (some ⟨p3, 0, none⟩) (l1 ++ [spareF])) (fun w h => Que.rd h))
    refine ⟨some ⟨p3, 0, none⟩, m.length + 1, l1, _, ?_, hes, (Hp.cm H2 (P' := Room (some ⟨p3, 0, none⟩) (m.length + 1) l1) (fun w h => ⟨h.1, by omega, h.2⟩)).sel [0] rfl⟩
    rw [hlenl, hl]; rfl
end Go.Proofs.YtfnjodpehomgfaaGreatDoor
namespace Go.Proofs.YtfnjodpehomgfaaGreatDoor
open Go Go.Sh Go.Tx
attribute [local irreducible] Blk Ext RdS
theorem ET.mks_mem {w : World} {x : ET} : ∀ {l : List ET}, x ∈ l → ET.Mks w l → ET.Mk w x
  | [], h, _ => by simp at h
  | y :: r, h, hk => by
    rcases List.mem_cons.1 h with rfl | h
    · exact hk.1
    · exact ET.mks_mem h hk.2
theorem SM.mks_mem {w : World} {x : SM} : ∀ {l : List SM}, x ∈ l → SM.Mks w l → SM.Mk w x
  | [], h, _ => by simp at h
  | y :: r, h, hk => by
    rcases List.mem_cons.1 h with rfl | h
    · exact hk.1
    · exact SM.mks_mem h hk.2
theorem snoc_last {α : Type} {l : List α} {x : α} : (l ++ [x])[l.length]? = some x := by simp
theorem snoc_lt {α : Type} {l : List α} {x : α} {i : Nat} (h : i < l.length) : (l ++ [x])[i]? = l[i]? := List.getElem?_append_left h
set_option maxHeartbeats 4000000 in
theorem behindExpr_c : ∀ (N : Nat) (t : ET) (w : World), ET.ht t ≤ N → ET.Mk w t → Cl Tryz.prog 76 #[t.v] w (fun v w' => v = .bool true ∧ Ext w w') (fun _ _ => False)
  | 0, t, w, hN, _ => by cases t; simp [ET.ht] at hN
  | N + 1, .mk kd o n nm cb A c ks, w, hN, hM => by
    obtain ⟨hm, hms, hlen, hnm, hcb, _⟩ := hM
    refine calls_ex (args := [.agg #[.int .i64 kd, .int .i64 o, .int .i64 n, .string (bs nm), .string (bs cb), .slice A ks.length c]]) T.ok Tryz.func76 rfl rfl rfl rfl ?_
    have H := Hp.begin nw w
    have hn1' : IntKind.i64.wrap ((ks.length : Int) + 1) = ((ks.length + 1 : Nat) : Int) := w64 rfl (by omega) (by omega)
    refine Sq.mk ?_
    ((conv => whnf); refine Al.hp H ?_; clear H; intro p1 _ H _)
    by_cases hk0 : ks = []
    · subst hk0
      repeat' ((conv => whnf); first | refine ztT ?_ | (refine ztB ?_ ?_ <;> intro _ <;> try (exfalso; omega)) | (refine ztW ?_; clear H; intro _ _ H _) | fail)
      all_goals first | (exfalso; omega) | skip
      exact ⟨rfl, H.e⟩
    have hpos := List.length_pos_iff.2 hk0
    obtain ⟨hr, hlc⟩ := hm hk0
    have hll : (ks ++ [spareE]).length = ks.length + 1 := by simp
    have hlast : (ks ++ [spareE])[ks.length]? = some spareE := snoc_last
    repeat' ((conv => whnf); first | refine ztT ?_ | (refine ztB ?_ ?_ <;> intro _ <;> try (exfalso; omega)) | (refine ztW ?_; clear H; intro _ _ H _) | fail)
    all_goals first | (exfalso; omega) | skip
    refine Sm.cutHi (i := ks.length + 1) T.ok rfl rfl rfl rfl hn1' (by omega) ?_
    have hr1 := RdS.from H.e hr
    rw [← hll]
    have hltl : ks.length < (ks ++ [spareE]).length := by omega
    repeat' ((conv => whnf); first | refine ztT ?_ | (refine ztB ?_ ?_ <;> intro _ <;> try (exfalso; omega)) | (refine ztW ?_; clear H; intro _ _ H _) | fail)
    clear hr1
    refine Lp.g0 T.ok (σ := Nat) (fun i => [(5, .int .i64 (i : Int)), (4, .slice A (ks ++ [spareE]).length c), (3, .int .i64 (ks.length : Int))])
      (fun i w' => i ≤ ks.length ∧ Hp nw w w' []) (fun i _ => ks.length - i) 0 rfl ⟨rfl, rfl, rfl, trivial⟩ ⟨Nat.zero_le _, H.sel [] rfl⟩ ?_
    clear H
    rintro i w5 ⟨hi, H⟩
    by_cases hlt : i < ks.length
    · obtain ⟨x, hx⟩ : ∃ x, ks[i]? = some x := ⟨_, List.getElem?_eq_getElem hlt⟩
      have hx2 : (ks ++ [spareE])[i]? = some x := (snoc_lt hlt).trans hx
      have hlt2 : i < (ks ++ [spareE]).length := by omega
      have hr1 := RdS.from H.e hr
      have hmm := List.mem_of_getElem? hx
      have hxh := ET.ht_mem hmm
      have hxr := ET.mks_mem hmm hms
      simp only [ET.ht] at hN
      obtain ⟨kx, ox, nx, mx, cx, Ax, cpx, lx⟩ := x
      repeat' ((conv => whnf); first | refine ztT ?_ | (refine ztB ?_ ?_ <;> intro _ <;> try (exfalso; omega)) | (refine ztW ?_; clear H; intro _ _ H _) | fail)
      all_goals first | (exfalso; omega) | skip
      (((conv => whnf); refine Cl.mk (behindExpr_c N (.mk kx ox nx mx cx Ax cpx lx) _ (by omega) (hxr.ext H.e)) ?_); rintro _ _ ⟨rfl, hx⟩; replace H := H.ext hx; clear hx)
      repeat' ((conv => whnf); first | refine ztT ?_ | (refine ztB ?_ ?_ <;> intro _ <;> try (exfalso; omega)) | (refine ztW ?_; clear H; intro _ _ H _) | fail)
      exact ⟨i + 1, ⟨at_int (m := ((i + 1 : Nat) : Int)) rfl (w64 (by simp) (by omega) (by omega)), rfl, rfl, trivial⟩, rfl, ⟨hlt, H⟩, (show ks.length - (i + 1) < ks.length - i by omega)⟩
    · repeat' ((conv => whnf); first | refine ztT ?_ | (refine ztB ?_ ?_ <;> intro _ <;> try (exfalso; omega)) | (refine ztW ?_; clear H; intro _ _ H _) | fail)
      all_goals first | (exfalso; omega) | skip
      exact ⟨rfl, H.e⟩
set_option maxHeartbeats 4000000 in
theorem behindStmts_c : ∀ (N : Nat) (B : Option Addr) (c : Nat) (l : List SM) (w : World), SM.hts l < N → SRoom B c l w → l.length ≤ 9000000 →
    Cl Tryz.prog 48 #[.slice B l.length c] w (fun v w' => v = .bool true ∧ Ext w w') (fun _ _ => False)
  | 0, _, _, _, _, hN, _, _ => by omega
  | N + 1, B, c, l, w, hN, hM, hlen => by
    obtain ⟨hr, hlc, hms⟩ := hM
    refine calls_ex (args := [.slice B l.length c]) T.ok Tryz.func48 rfl rfl rfl rfl ?_
    have H := Hp.begin nw w
    have hn1' : IntKind.i64.wrap ((l.length : Int) + 1) = ((l.length + 1 : Nat) : Int) := w64 rfl (by omega) (by omega)
    have hll : (l ++ [spareS]).length = l.length + 1 := by simp
    have hlast : (l ++ [spareS])[l.length]? = some spareS := snoc_last
    have hltl : l.length < (l ++ [spareS]).length := by omega
    repeat' ((conv => whnf); first | refine ztT ?_ | (refine ztB ?_ ?_ <;> intro _ <;> try (exfalso; omega)) | (refine ztW ?_; clear H; intro _ _ H _) | fail)
    refine Sm.cutHi (i := l.length + 1) T.ok rfl rfl rfl rfl hn1' (by omega) ?_
    have hr1 := RdS.from H.e hr
    rw [← hll]
    repeat' ((conv => whnf); first | refine ztT ?_ | (refine ztB ?_ ?_ <;> intro _ <;> try (exfalso; omega)) | (refine ztW ?_; clear H; intro _ _ H _) | fail)
    clear hr1
    refine Lp.g0 T.ok (σ := Nat) (fun i => [(5, .int .i64 (i : Int)), (4, .slice B (l ++ [spareS]).length c), (3, .int .i64 (l.length : Int))])
      (fun i w' => i ≤ l.length ∧ Hp nw w w' []) (fun i _ => l.length - i) 0 rfl ⟨rfl, rfl, rfl, trivial⟩ ⟨Nat.zero_le _, H.sel [] rfl⟩ ?_
    clear H
    rintro i w5 ⟨hi, H⟩
    by_cases hlt : i < l.length
    · obtain ⟨x, hx⟩ : ∃ x, l[i]? = some x := ⟨_, List.getElem?_eq_getElem hlt⟩
      have hx2 : (l ++ [spareS])[i]? = some x := (snoc_lt hlt).trans hx
      have hlt2 : i < (l ++ [spareS]).length := by omega
      have hr1 := RdS.from H.e hr
      have hmm := List.mem_of_getElem? hx
      have hxh := SM.ht_mem hmm
      have hxr := SM.mks_mem hmm hms
      obtain ⟨kd, nm, ⟨k1, o1, n1, a1, b1, A1, c2, l2⟩, Bb, cb, bd, E, ce, el⟩ := x
      simp only [SM.ht] at hxh
      obtain ⟨x1, x2, x3, x4, x5, x6, x7, x8, x9, x10⟩ := hxr
      repeat' ((conv => whnf); first | refine ztT ?_ | (refine ztB ?_ ?_ <;> intro _ <;> try (exfalso; omega)) | (refine ztW ?_; clear H; intro _ _ H _) | fail)
      all_goals first | (exfalso; omega) | skip
      (conv => whnf)
      refine Ld.rsG (o := 2) (n := 6) hr1 hx2 rfl ?_
      (((conv => whnf); refine Cl.mk (behindExpr_c _ (.mk k1 o1 n1 a1 b1 A1 c2 l2) _ (Nat.le_refl _) (x1.ext H.e)) ?_); rintro _ _ ⟨rfl, hx⟩; replace H := H.ext hx; clear hx)
      have hr2 := RdS.from H.e hr
      repeat' ((conv => whnf); first | refine ztT ?_ | (refine ztB ?_ ?_ <;> intro _ <;> try (exfalso; omega)) | (refine ztW ?_; clear H; intro _ _ H _) | fail)
      (((conv => whnf); refine Cl.mk (behindStmts_c N Bb cb bd _ (by omega) ⟨RdS.from H.e x2, x3, SM.Mks.ext H.e x4⟩ x8) ?_); rintro _ _ ⟨rfl, hx⟩; replace H := H.ext hx; clear hx)
      have hr3 := RdS.from H.e hr
      repeat' ((conv => whnf); first | refine ztT ?_ | (refine ztB ?_ ?_ <;> intro _ <;> try (exfalso; omega)) | (refine ztW ?_; clear H; intro _ _ H _) | fail)
      (((conv => whnf); refine Cl.mk (behindStmts_c N E ce el _ (by omega) ⟨RdS.from H.e x5, x6, SM.Mks.ext H.e x7⟩ x9) ?_); rintro _ _ ⟨rfl, hx⟩; replace H := H.ext hx; clear hx)
      repeat' ((conv => whnf); first | refine ztT ?_ | (refine ztB ?_ ?_ <;> intro _ <;> try (exfalso; omega)) | (refine ztW ?_; clear H; intro _ _ H _) | fail)
      exact ⟨i + 1, ⟨at_int (m := ((i + 1 : Nat) : Int)) rfl (w64 (by simp) (by omega) (by omega)), rfl, rfl, trivial⟩, rfl, ⟨hlt, H⟩, (show l.length - (i + 1) < l.length - i by omega)⟩
    · repeat' ((conv => whnf); first | refine ztT ?_ | (refine ztB ?_ ?_ <;> intro _ <;> try (exfalso; omega)) | (refine ztW ?_; clear H; intro _ _ H _) | fail)
      all_goals first | (exfalso; omega) | skip
      exact ⟨rfl, H.e⟩
set_option maxHeartbeats 4000000 in
theorem behind_c (m : List FM) (A : Option Addr) (c : Nat) (w : World) (hM : Room A c m w) (hml : m.length ≤ 9000000) :
    Cl Tryz.prog 20 #[.agg #[.slice A m.length c]] w (fun v w' => v = .bool true ∧ Ext w w') (fun _ _ => False) := by
  obtain ⟨hr, hlc, hms⟩ := hM
  refine calls_ex (args := [.agg #[.slice A m.length c]]) T.ok Tryz.func20 rfl rfl rfl rfl ?_
  have H := Hp.begin nw w
  have hn1' : IntKind.i64.wrap ((m.length : Int) + 1) = ((m.length + 1 : Nat) : Int) := w64 rfl (by omega) (by omega)
  have hll : (m ++ [spareF]).length = m.length + 1 := by simp
  have hlast : (m ++ [spareF])[m.length]? = some spareF := snoc_last
  have hltl : m.length < (m ++ [spareF]).length := by omega
  refine Sq.mk ?_
  ((conv => whnf); refine Al.hp H ?_; clear H; intro p1 _ H _)
  repeat' ((conv => whnf); first | refine ztT ?_ | (refine ztB ?_ ?_ <;> intro _ <;> try (exfalso; omega)) | (refine ztW ?_; clear H; intro _ _ H _) | fail)
  refine Sm.cutHi (i := m.length + 1) T.ok rfl rfl rfl rfl hn1' (by omega) ?_
  have hr1 := RdS.from H.e hr
  rw [← hll]
  repeat' ((conv => whnf); first | refine ztT ?_ | (refine ztB ?_ ?_ <;> intro _ <;> try (exfalso; omega)) | (refine ztW ?_; clear H; intro _ _ H _) | fail)
  clear hr1
  refine Lp.g0 T.ok (σ := Nat) (fun i => [(5, .int .i64 (i : Int)), (4, .slice A (m ++ [spareF]).length c), (3, .int .i64 (m.length : Int))])
    (fun i w' => i ≤ m.length ∧ Hp nw w w' []) (fun i _ => m.length - i) 0 rfl ⟨rfl, rfl, rfl, trivial⟩ ⟨Nat.zero_le _, H.sel [] rfl⟩ ?_
  clear H
  rintro i w5 ⟨hi, H⟩
  by_cases hlt : i < m.length
  · obtain ⟨f, hx⟩ : ∃ x, m[i]? = some x := ⟨_, List.getElem?_eq_getElem hlt⟩
    have hx2 : (m ++ [spareF])[i]? = some f := (snoc_lt hlt).trans hx
    have hlt2 : i < (m ++ [spareF]).length := by omega
    have hr1 := RdS.from H.e hr
    obtain ⟨x1, x2, x3, x4, x5, x6, x7⟩ := hms f (List.mem_of_getElem? hx)
    have hn2' : IntKind.i64.wrap ((f.params.length : Int) + 1) = ((f.params.length + 1 : Nat) : Int) := w64 rfl (by omega) (by omega)
    have hpl : (f.params ++ [spareN]).length = f.params.length + 1 := by simp
    have hpa : (f.params ++ [spareN])[f.params.length]? = some spareN := snoc_last
    have hplt : f.params.length < (f.params ++ [spareN]).length := by omega
    have hr2 := RdS.from H.e x1
    repeat' ((conv => whnf); first | refine ztT ?_ | (refine ztB ?_ ?_ <;> intro _ <;> try (exfalso; omega)) | (refine ztW ?_; clear H; intro _ _ H _) | fail)
    all_goals first | (exfalso; omega) | skip
    refine Sm.cutHi (i := f.params.length + 1) T.ok rfl rfl rfl rfl hn2' (by omega) ?_
    rw [← hpl]
    repeat' ((conv => whnf); first | refine ztT ?_ | (refine ztB ?_ ?_ <;> intro _ <;> try (exfalso; omega)) | (refine ztW ?_; clear H; intro _ _ H _) | fail)
    (((conv => whnf); refine Cl.mk (behindStmts_c _ f.B f.cb f.body _ (Nat.lt_succ_self _) ⟨RdS.from H.e x3.1, x3.2.1, SM.Mks.ext H.e x3.2.2⟩ x5) ?_); rintro _ _ ⟨rfl, hx⟩; replace H := H.ext hx; clear hx)
    repeat' ((conv => whnf); first | refine ztT ?_ | (refine ztB ?_ ?_ <;> intro _ <;> try (exfalso; omega)) | (refine ztW ?_; clear H; intro _ _ H _) | fail)
    exact ⟨i + 1, ⟨at_int (m := ((i + 1 : Nat) : Int)) rfl (w64 (by simp) (by omega) (by omega)), rfl, rfl, trivial⟩, rfl, ⟨hlt, H⟩, (show m.length - (i + 1) < m.length - i by omega)⟩
  · repeat' ((conv => whnf); first | refine ztT ?_ | (refine ztB ?_ ?_ <;> intro _ <;> try (exfalso; omega)) | (refine ztW ?_; clear H; intro _ _ H _) | fail)
    all_goals first | (exfalso; omega) | skip
    exact ⟨rfl, H.e⟩
end Go.Proofs.YtfnjodpehomgfaaGreatDoor
namespace Go.Proofs.YtfnjodpehomgfaaGreatDoor
open Go Go.Sh Go.Tx
attribute [local irreducible] Blk Ext RdS
def FM.x (f : FM) : FM := { f with name := f.name ++ [120] }
theorem nP_app : ∀ a b : List Fnc, nP (a ++ b) = nP a + nP b
  | [], b => by simp [nP]
  | f :: r, b => by simp only [List.cons_append, nP, nP_app r b]; omega
theorem nP_rev (l : List FM) : nP ((l.reverse.map FM.x).map FM.e) = nP (l.map FM.e) := by
  induction l with
  | nil => rfl
  | cons f r ih =>
    simp only [List.reverse_cons, List.map_append, List.map_cons, List.map_nil, nP_app, ih, nP]
    show nP (r.map FM.e) + (f.params.length + nSs (SM.es f.body) + 1 + 0) = f.params.length + nSs (SM.es f.body) + 1 + nP (r.map FM.e)
    omega
theorem FM.Rd.x {w : World} {f : FM} (h : FM.Rd w f) (hn : f.name.length ≤ 8999999) : FM.Rd w f.x :=
  ⟨h.1, h.2.1, h.2.2.1, h.2.2.2.1, h.2.2.2.2.1, h.2.2.2.2.2.1, by show (f.name ++ [120]).length ≤ 9000000; simp; omega, h.2.2.2.2.2.2.2⟩
theorem set_two {α : Type} {a b : List α} {i : Nat} {x : α} (hl : a.length = b.length) (hx : a[i]? = some x) : (a.take i ++ b.drop i).set i x = a.take (i + 1) ++ b.drop (i + 1) := by
  obtain ⟨h1, h2⟩ := List.getElem?_eq_some_iff.1 hx
  have hil : (a.take i).length = i := by rw [List.length_take]; omega
  rw [List.set_append_right _ _ (by omega), hil, Nat.sub_self, List.drop_eq_getElem_cons (by omega : i < b.length), List.set_cons_zero, List.take_succ_eq_append_getElem h1, h2, List.append_assoc]; rfl
theorem rev_take {m : List FM} {i : Nat} {f : FM} (hf : m[i]? = some f) : ((m.drop i).reverse.map FM.x) = ((m.drop (i + 1)).reverse.map FM.x) ++ [f.x] := by
  obtain ⟨h1, h2⟩ := List.getElem?_eq_some_iff.1 hf
  rw [List.drop_eq_getElem_cons h1, h2, List.reverse_cons, List.map_append]; rfl
set_option maxHeartbeats 8000000 in
theorem printPlaced_c (m : List FM) (A : Option Addr) (c : Nat) (w : World) (hG : Rp w) (hR : Rdy w A m) (hN : nP (m.map FM.e) ≤ 1048576) (hr : ∀ f ∈ m, rgSs (SM.es f.body)) (hnl : ∀ f ∈ m, f.name.length ≤ 8999999) :
    Cl Tryz.prog 21 #[.agg #[.slice A m.length c]] w (fun u w' => u = .bool true ∧ Ext w w') (fun _ _ => False) := by
  refine calls_ex (args := [.agg #[.slice A m.length c]]) T.ok Tryz.func21 rfl rfl rfl rfl ?_
  have H := Hp.begin nw w
  have hml := hR.len
  refine Sq.mk ?_
  ((conv => whnf); refine Al.hp H ?_; clear H; intro p1 _ H _)
  repeat' ((conv => whnf); first | refine ztT ?_ | (refine ztB ?_ ?_ <;> intro _ <;> try (exfalso; omega)) | (refine ztW ?_; clear H; intro _ _ H _) | fail)
  ((conv => whnf); refine Al.hp H ?_; clear H; intro p4 _ H _)
  repeat' ((conv => whnf); first | refine ztT ?_ | (refine ztB ?_ ?_ <;> intro _ <;> try (exfalso; omega)) | (refine ztW ?_; clear H; intro _ _ H _) | fail)
  refine Lp.g0 T.ok (σ := Nat × Option Addr × Nat) (fun s => [(5, .int .i64 ((s.1 : Int) - 1)), (4, .pointer (some ⟨p4, 0, none⟩)), (3, .int .i64 (m.length : Int)), (2, .bool false), (1, .pointer (some ⟨p1, 0, none⟩))])
    (fun s w' => s.1 ≤ m.length ∧ Hp nw w w' [qu FM.enc 3 34 s.2.1 s.2.2 ((m.drop s.1).reverse.map FM.x), bk p4 24 [.slice s.2.1 ((m.drop s.1).reverse.map FM.x).length s.2.2], bk p1 24 [.slice A m.length c]])
    (fun s _ => s.1) (m.length, none, 0) rfl ⟨at_int rfl (w64 rfl (by omega) (by omega)), rfl, rfl, rfl, rfl, trivial⟩ ⟨Nat.le_refl _, ?_⟩ ?_
  · have := Hp.nil H FM.enc 3 34
    simp only [List.drop_length, List.reverse_nil, List.map_nil, List.length_nil]
    exact this
  clear H
  rintro ⟨i, O, co⟩ w5 ⟨hi, H⟩
  dsimp only at hi H ⊢
  by_cases h0 : 0 < i
  · obtain ⟨k, rfl⟩ : ∃ k, i = k + 1 := ⟨i - 1, by omega⟩
    obtain ⟨f, hf⟩ : ∃ x, m[k]? = some x := ⟨_, List.getElem?_eq_getElem (by omega)⟩
    have hr1 := RdS.from H.e hR.rd
    have hkk : ((k + 1 : Nat) : Int) - 1 = ((k : Nat) : Int) := by omega
    have hfn := hnl f (List.mem_of_getElem? hf)
    have hrt := rev_take hf
    have hkl : k < m.length := by omega
    have hol : ((m.drop (k + 1)).reverse.map FM.x).length = m.length - (k + 1) := by simp
    rw [hkk]
    generalize (m.drop (k + 1)).reverse.map FM.x = o1 at *
    repeat' ((conv => whnf); first | refine ztT ?_ | (refine ztB ?_ ?_ <;> intro _ <;> try (exfalso; omega)) | (refine ztW ?_; clear H; intro _ _ H _) | fail)
    all_goals first | (exfalso; omega) | skip
    ((conv => whnf); refine Al.hp H ?_; clear H; intro p6 _ H _)
    repeat' ((conv => whnf); first | refine ztT ?_ | (refine ztB ?_ ?_ <;> intro _ <;> try (exfalso; omega)) | (refine ztW ?_; clear H; intro _ _ H _) | fail)
    refine Sm.cat (m := [120]) (by simp only [List.length_cons, List.length_nil]; omega) ?_
    repeat' ((conv => whnf); first | refine ztT ?_ | (refine ztB ?_ ?_ <;> intro _ <;> try (exfalso; omega)) | (refine ztW ?_; clear H; intro _ _ H _) | fail)
    refine Sm.lith (cs := FM.enc f.x) H T.ok (fun p7 w9 H _ => ?_)
    refine Sm.ap1 (enc := FM.enc) f.x H T.ok ?_ ?_ (fun A' c' w10 H => ?_)
    · show (o1.length + 1) * 64 ≤ _; omega
    · omega
    simp only [List.cons_append, List.nil_append] at H
    repeat' ((conv => whnf); first | refine ztT ?_ | (refine ztB ?_ ?_ <;> intro _ <;> try (exfalso; omega)) | (refine ztW ?_; clear H; intro _ _ H _) | fail)
    refine ⟨(k, A', c'), ⟨at_int rfl (w64 rfl (by omega) (by omega)), rfl, rfl, rfl, rfl, trivial⟩, rfl, ⟨by omega, ?_⟩, (show k < k + 1 by omega)⟩
    dsimp only
    rw [hrt, List.length_append]
    exact H.sel [1, 1, 1] rfl
  · obtain rfl : i = 0 := by omega
    obtain ⟨o, ho⟩ : ∃ o, o = (m.drop 0).reverse.map FM.x := ⟨_, rfl⟩
    rw [← ho] at H
    rw [List.drop_zero] at ho
    have hol : o.length = m.length := by rw [ho]; simp
    have hom : ∀ g ∈ o, ∃ f ∈ m, f.x = g := fun g hg => by
      rw [ho] at hg
      obtain ⟨f, hf, rfl⟩ := List.mem_map.1 hg
      exact ⟨f, List.mem_reverse.1 hf, rfl⟩
    have hoR : ∀ w', Ext w w' → ∀ g ∈ o, FM.Rd w' g := fun w' e g hg => by
      obtain ⟨f, hf, rfl⟩ := hom g hg
      exact FM.Rd.x ((hR.all f hf).ext e) (hnl f hf)
    have hoN : nP (o.map FM.e) ≤ 1048576 := by rw [ho, nP_rev]; exact hN
    have hor : ∀ g ∈ o, rgSs (SM.es g.body) := fun g hg => by
      obtain ⟨f, hf, rfl⟩ := hom g hg
      exact hr f hf
    clear ho hom
    repeat' ((conv => whnf); first | refine ztT ?_ | (refine ztB ?_ ?_ <;> intro _ <;> try (exfalso; omega)) | (refine ztW ?_; clear H; intro _ _ H _) | fail)
    all_goals first | (exfalso; omega) | skip
    ((conv => whnf); refine Cl.mk (copied_c o O co _ (H.rdq 0 rfl) (hoR _ H.e) (by omega)) ?_)
    rintro _ w2 ⟨T1, tc, t, S1, rfl, ht, H'⟩
    replace H := H.fr0L H' (fun c hc => by simp only [List.mem_cons, List.not_mem_nil, or_false] at hc; rcases hc with rfl | rfl <;> exact .inl rfl)
    have htl := len_map ht
    have hrdy := rdy_copy H' (by omega) (by rw [ht]; omega) (rg_map ht hor)
    clear H'
    ((conv => whnf); refine Al.hp H ?_; clear H; intro p7 _ H _)
    repeat' ((conv => whnf); first | refine ztT ?_ | (refine ztB ?_ ?_ <;> intro _ <;> try (exfalso; omega)) | (refine ztW ?_; clear H; intro _ _ H _) | fail)
    ((conv => whnf); refine Cl.mk (Print_c t T1 tc _ (hG.ext H.e) (H.rdq 1 rfl) (H.atC (c := ch S1 (FAll t)) 2 rfl) hrdy.len hrdy.fit) ?_)
    clear hrdy
    rw [ht]
    rintro _ w3 ⟨rfl, ex⟩
    replace H := H.ext ex
    clear ex
    repeat' ((conv => whnf); first | refine ztT ?_ | (refine ztB ?_ ?_ <;> intro _ <;> try (exfalso; omega)) | (refine ztW ?_; clear H; intro _ _ H _) | fail)
    ((conv => whnf); refine Cl.mk (copied_c m A c _ (RdS.from H.e hR.rd) (fun f hf => (hR.all f hf).ext H.e) hR.len) ?_)
    rintro _ w4 ⟨U1, uc, u, S2, rfl, hu, H'⟩
    replace H := H.fr0L H' (fun c hc => by simp only [List.mem_cons, List.not_mem_nil, or_false] at hc; rcases hc with rfl | rfl <;> exact .inl rfl)
    have hul := len_map hu
    clear H'
    ((conv => whnf); refine Al.hp H ?_; clear H; intro p10 _ H _)
    repeat' ((conv => whnf); first | refine ztT ?_ | (refine ztB ?_ ?_ <;> intro _ <;> try (exfalso; omega)) | (refine ztW ?_; clear H; intro _ _ H _) | fail)
    generalize hPo : printP (o.map FM.e) = Po
    simp only [List.cons_append, List.nil_append] at H
    refine Lp.g0 T.ok (σ := Nat) (fun i => [(11, .int .i64 (i : Int)), (10, .pointer (some ⟨p10, 0, none⟩)), (9, .int .i64 Po.2), (8, .string (bs Po.1)), (7, .pointer (some ⟨p7, 0, none⟩)), (4, .pointer (some ⟨p4, 0, none⟩)), (3, .int .i64 (m.length : Int)), (2, .bool false), (1, .pointer (some ⟨p1, 0, none⟩))])
      (fun i w' => i ≤ m.length ∧ Hp nw w w' [qu FM.enc 3 34 T1 tc (u.take i ++ t.drop i), bk p10 24 [.slice U1 u.length uc], qu FM.enc 3 34 U1 uc u, ch S2 (FAll u), bk p7 24 [.slice T1 t.length tc], qu FM.enc 3 34 O co o, bk p4 24 [.slice O o.length co], bk p1 24 [.slice A m.length c]])
      (fun i _ => m.length - i) 0 rfl ⟨rfl, rfl, rfl, rfl, rfl, rfl, rfl, rfl, rfl, trivial⟩ ⟨Nat.zero_le _, H.sel [4, 0, 0, 0, 0, 1, 1, 1] rfl⟩ ?_
    clear H
    rintro i w5 ⟨hi, H⟩
    by_cases hlt : i < m.length
    · obtain ⟨f, hf⟩ : ∃ x, u[i]? = some x := ⟨_, List.getElem?_eq_getElem (by omega)⟩
      obtain ⟨g, hg⟩ : ∃ x, (u.take i ++ t.drop i)[i]? = some x := ⟨_, List.getElem?_eq_getElem (by rw [List.length_append, List.length_take, List.length_drop]; omega)⟩
      have hst := set_two (by omega) hf (b := t)
      have hlen : (u.take i ++ t.drop i).length = t.length := by rw [List.length_append, List.length_take, List.length_drop]; omega
      generalize u.take i ++ t.drop i = q at *
      have hru := H.rdq 2 rfl
      have hrq := H.rdq 0 rfl
      repeat' ((conv => whnf); first | refine ztT ?_ | (refine ztB ?_ ?_ <;> intro _ <;> try (exfalso; omega)) | (refine ztW ?_; clear H; intro _ _ H _) | fail)
      all_goals first | (exfalso; omega) | skip
      ((conv => whnf); refine Dr.tail T.ok mixed 9 (by kernel_rfl) (fun W wT hW eT _ => ?_); (repeat' ((conv => whnf); first | refine ztQ ?_ | (refine ztB ?_ ?_ <;> intro _ <;> try (exfalso; omega)) | fail)); replace H := H.ext eT; clear hW eT)
      (conv => whnf)
      refine St.elq (enc := FM.enc) (x := f) H rfl (by rw [hlen]; omega) rfl (fun w7 H => ?_)
      simp only [List.cons_append, List.nil_append] at H
      rw [hst] at H
      repeat' ((conv => whnf); first | refine ztT ?_ | (refine ztB ?_ ?_ <;> intro _ <;> try (exfalso; omega)) | (refine ztW ?_; clear H; intro _ _ H _) | fail)
      refine ⟨i + 1, ⟨at_int (m := ((i + 1 : Nat) : Int)) rfl (w64 (by simp) (by omega) (by omega)), rfl, rfl, rfl, rfl, rfl, rfl, rfl, rfl, trivial⟩, rfl, ⟨hlt, H⟩, (show m.length - (i + 1) < m.length - i by omega)⟩
    · obtain rfl : i = m.length := by omega
      rw [List.take_of_length_le (by omega), List.drop_of_length_le (by omega), List.append_nil] at H
      have hut : t.length = u.length := by omega
      have hrU := H.rdq 0 rfl
      have hrdo : ∀ w', Ext w w' → RdS FM.enc 3 w' O o → Rdy w' O o := fun w' e hro => ⟨hro, hoR w' e, by omega, fit_of (by omega) hor⟩
      repeat' ((conv => whnf); first | refine ztT ?_ | (refine ztB ?_ ?_ <;> intro _ <;> try (exfalso; omega)) | (refine ztW ?_; clear H; intro _ _ H _) | fail)
      all_goals first | (exfalso; omega) | skip
      rw [hut]
      ((conv => whnf); refine Cl.mk (Print_c u T1 tc _ (hG.ext H.e) hrU (H.atC (c := ch S2 (FAll u)) 3 rfl) (by omega) (fit_of (by rw [hu]; omega) (rg_map hu hr))) ?_)
      clear hrU
      rw [hu]
      rintro _ w6 ⟨rfl, ex⟩
      replace H := H.ext ex
      clear ex
      repeat' ((conv => whnf); first | refine ztT ?_ | (refine ztB ?_ ?_ <;> intro _ <;> try (exfalso; omega)) | (refine ztW ?_; clear H; intro _ _ H _) | fail)
      ((conv => whnf); refine Cl.mk (PrintR_r o O co _ (hG.ext H.e) (hrdo _ H.e (H.rdq 5 rfl))) ?_)
      rw [hPo]
      rintro _ w7 ⟨rfl, ex⟩
      replace H := H.ext ex
      clear ex
      repeat' ((conv => whnf); first | refine ztT ?_ | (refine ztB ?_ ?_ <;> intro _ <;> try (exfalso; omega)) | (refine ztW ?_; clear H; intro _ _ H _) | fail)
      ((conv => whnf); refine Cl.mk (PrintR_r m A c _ (hG.ext H.e) (hR.ext H.e)) ?_)
      generalize printP (m.map FM.e) = Pm
      rintro _ w8 ⟨rfl, ex⟩
      replace H := H.ext ex
      clear ex
      repeat' ((conv => whnf); first | refine ztT ?_ | (refine ztB ?_ ?_ <;> intro _ <;> try (exfalso; omega)) | (refine ztW ?_; clear H; intro _ _ H _) | fail)
      all_goals first | (rename_i h; rw [bs_eq] at h; exact absurd rfl (of_decide_eq_false h)) | exact ⟨(show Value.bool (Pm.snd == Pm.snd) = _ by rw [beq_self_eq_true]), H.e⟩
theorem textPrint_c (m : List FM) (A : Option Addr) (c : Nat) (w : World) (hG : Rp w) (hR : Rdy w A m) (hN : nP (m.map FM.e) ≤ 1048576) (hr : ∀ f ∈ m, rgSs (SM.es f.body)) (hnl : ∀ f ∈ m, f.name.length ≤ 8999999) :
    Cl Tryz.prog 5 #[.agg #[.slice A m.length c]] w (fun u w' => u = .bool true ∧ Ext w w') (fun _ _ => False) := by
  refine calls_ex (args := [.agg #[.slice A m.length c]]) T.ok Tryz.func5 rfl rfl rfl rfl ?_
  have H := Hp.begin nw w
  have hml := hR.len
  refine Sq.mk ?_
  ((conv => whnf); refine Al.hp H ?_; clear H; intro p1 _ H _)
  repeat' ((conv => whnf); first | refine ztT ?_ | (refine ztB ?_ ?_ <;> intro _ <;> try (exfalso; omega)) | (refine ztW ?_; clear H; intro _ _ H _) | fail)
  ((conv => whnf); refine Cl.mk (beyond_c m A c _ (RdS.from H.e hR.rd) (fun f hf => (hR.all f hf).ext H.e) hR.len (by omega)) ?_)
  rintro _ w1 ⟨b, rfl, ex⟩
  replace H := H.ext ex
  clear ex
  cases b with
  | true =>
    repeat' ((conv => whnf); first | refine ztT ?_ | (refine ztB ?_ ?_ <;> intro _ <;> try (exfalso; omega)) | (refine ztW ?_; clear H; intro _ _ H _) | fail)
    exact ⟨rfl, H.e⟩
  | false =>
  repeat' ((conv => whnf); first | refine ztT ?_ | (refine ztB ?_ ?_ <;> intro _ <;> try (exfalso; omega)) | (refine ztW ?_; clear H; intro _ _ H _) | fail)
  ((conv => whnf); refine Cl.mk (PrintR_r m A c _ (hG.ext H.e) (hR.ext H.e)) ?_)
  generalize hPm : printP (m.map FM.e) = Pm
  rintro _ w2 ⟨rfl, ex⟩
  replace H := H.ext ex
  clear ex
  repeat' ((conv => whnf); first | refine ztT ?_ | (refine ztB ?_ ?_ <;> intro _ <;> try (exfalso; omega)) | (refine ztW ?_; clear H; intro _ _ H _) | fail)
  ((conv => whnf); refine Cl.mk (roomy_c m A c _ (RdS.from H.e hR.rd) (fun f hf => (hR.all f hf).ext H.e) hR.len) ?_)
  rintro _ w3 ⟨T1, tc, t, S1, rfl, ht, H'⟩
  replace H := H.fr0L H' (fun c hc => by simp only [List.mem_cons, List.not_mem_nil, or_false] at hc; rcases hc with rfl; exact .inl rfl)
  clear H'
  have htl := len_map ht
  ((conv => whnf); refine Al.hp H ?_; clear H; intro p5 _ H _)
  repeat' ((conv => whnf); first | refine ztT ?_ | (refine ztB ?_ ?_ <;> intro _ <;> try (exfalso; omega)) | (refine ztW ?_; clear H; intro _ _ H _) | fail)
  have hroom := H.atC (c := ch S1 (Room T1 tc t)) 1 rfl
  ((conv => whnf); refine Cl.mk (Print_c t T1 tc _ (hG.ext H.e) (rds_front hroom.1) (fun f hf => (hroom.2.2 f hf).rd) (by omega) (fit_of (by rw [ht]; omega) (rg_map ht hr))) ?_)
  clear hroom
  rw [ht, hPm]
  rintro _ w4 ⟨rfl, ex⟩
  replace H := H.ext ex
  clear ex
  repeat' ((conv => whnf); first | refine ztT ?_ | (refine ztB ?_ ?_ <;> intro _ <;> try (exfalso; omega)) | (refine ztW ?_; clear H; intro _ _ H _) | fail)
  rotate_left
  all_goals try (rename_i h; rw [bs_eq] at h; exact absurd rfl (of_decide_eq_false h))
  have hroom := H.atC (c := ch S1 (Room T1 tc t)) 1 rfl
  (((conv => whnf); refine Cl.mk (behind_c t T1 tc _ hroom (by omega)) ?_); rintro _ _ ⟨rfl, hx⟩; replace H := H.ext hx; clear hx)
  repeat' ((conv => whnf); first | refine ztT ?_ | (refine ztB ?_ ?_ <;> intro _ <;> try (exfalso; omega)) | (refine ztW ?_; clear H; intro _ _ H _) | fail)
  have hroom := H.atC (c := ch S1 (Room T1 tc t)) 1 rfl
  (((conv => whnf); refine Cl.mk (same_l t m T1 A tc c _ (rds_front hroom.1) (fun f hf => ((hroom.2.2 f hf).rd).lo) (RdS.from H.e hR.rd) (fun f hf => ((hR.all f hf).ext H.e).lo) (by omega)) ?_); rintro _ _ ⟨rfl, hx⟩; replace H := H.ext hx; clear hx)
  rw [ht, sameP_refl]
  repeat' ((conv => whnf); first | refine ztT ?_ | (refine ztB ?_ ?_ <;> intro _ <;> try (exfalso; omega)) | (refine ztW ?_; clear H; intro _ _ H _) | fail)
  (((conv => whnf); refine Cl.mk (printPlaced_c m A c _ (hG.ext H.e) (hR.ext H.e) hN hr hnl) ?_); rintro _ _ ⟨rfl, hx⟩; replace H := H.ext hx; clear hx)
  repeat' ((conv => whnf); first | refine ztT ?_ | (refine ztB ?_ ?_ <;> intro _ <;> try (exfalso; omega)) | (refine ztW ?_; clear H; intro _ _ H _) | fail)
  exact ⟨rfl, H.e⟩
end Go.Proofs.YtfnjodpehomgfaaGreatDoor
