/- own work: TsG -/
import Derived.Test.YtfnjodpehomgfaaGreatDoorMI5
set_option linter.unusedVariables false
set_option linter.unusedSimpArgs false
set_option linter.unusedSectionVars false
namespace Go.Proofs.YtfnjodpehomgfaaGreatDoor
open Go Go.Sh Go.Tx
attribute [local irreducible] Blk Ext RdS
mutual
theorem ET.Rd.lo {w : World} : ∀ {t : ET}, ET.Rd w t → ET.Lo w t
  | .mk _ _ _ _ _ _ _ _, h => ⟨h.1, ET.Rds.los h.2.1, h.2.2.1⟩
theorem ET.Rds.los {w : World} : ∀ {l : List ET}, ET.Rds w l → ET.Los w l
  | [], _ => trivial
  | _ :: _, h => ⟨ET.Rd.lo h.1, ET.Rds.los h.2⟩
end
mutual
theorem SM.Rd.lo {w : World} : ∀ {t : SM}, SM.Rd w t → SM.Lo w t
  | .mk _ _ _ _ _ _ _ _ _, h => ⟨h.1.lo, h.2.1, SM.Rds.los h.2.2.1, h.2.2.2.1, SM.Rds.los h.2.2.2.2.1, h.2.2.2.2.2.1, h.2.2.2.2.2.2.1⟩
theorem SM.Rds.los {w : World} : ∀ {l : List SM}, SM.Rds w l → SM.Los w l
  | [], _ => trivial
  | _ :: _, h => ⟨SM.Rd.lo h.1, SM.Rds.los h.2⟩
end
theorem FM.Rd.lo {w : World} {f : FM} (h : FM.Rd w f) : FM.Lo w f := ⟨h.1, h.2.1, SM.Rds.los h.2.2.1, h.2.2.2.1, h.2.2.2.2.2.1⟩
theorem FM.oks_lo {w : World} {l : List FM} (h : FM.Oks w l) : ∀ f ∈ l, FM.Lo w f := fun f hf => (FM.oks_mem hf h).lo
theorem pr_fin (l : Bs) : PR l ≠ .out := by
  unfold PR
  split
  · intro h; cases h
  · intro h
    have := parse_fin l
    rw [h] at this
    exact this
theorem round_law {fs : List Fnc} (h : (printP fs).2 = 0) (hr : ∀ f ∈ fs, rgSs f.body) : printP fs = (whole fs, 0) ∧ treeB fs = true ∧ ∃ ts, PR (whole fs) = .ok fs ts := by
  unfold printP at h ⊢
  by_cases hb : treeB fs = true
  · rw [if_pos hb] at h ⊢
    by_cases he : errOf (PR (whole fs)) = 0
    · rw [if_pos he]
      refine ⟨rfl, hb, ?_⟩
      cases hp : PR (whole fs) with
      | out => exact absurd hp (pr_fin _)
      | err e p => rw [hp] at he; exact absurd he (pr_ne hp)
      | ok a ts =>
        have hp2 : parseP (whole fs) (fuelOf (whole fs)) = .ok a ts := by
          unfold PR at hp
          split at hp
          · cases hp
          · exact hp
        obtain ⟨e, hz⟩ := reads_whole hb hr (fuelOf (whole fs))
        rw [hp2] at hz
        rcases hz with hz | hz | ⟨_, e2, p2, hz⟩
        · cases hz
        · simp only [Res.ok.injEq] at hz
          exact ⟨ts, by rw [hz.1]⟩
        · cases hz
    · rw [if_neg he] at h
      exact absurd h he
  · rw [if_neg hb] at h
    exact absurd h (by decide)
theorem rdy_copy {w w0 : World} {S : Nat → Prop} {Γ : List Ck} {s : Nat → Prop} {m : List FM} {A : Option Addr} {c : Nat} (H : Hp S w0 w (qu FM.enc 3 34 A c m :: ch s (FAll m) :: Γ)) (hl : m.length ≤ 9000000) (hN : nP (m.map FM.e) ≤ 2097152) (hr : ∀ f ∈ m, rgSs (SM.es f.body)) : Rdy w A m :=
  ⟨H.rdq 0 rfl, H.atC (c := ch s (FAll m)) 1 rfl, hl, fit_of hN hr⟩
theorem rg_map {m m' : List FM} (h : m'.map FM.e = m.map FM.e) (hr : ∀ f ∈ m, rgSs (SM.es f.body)) : ∀ f ∈ m', rgSs (SM.es f.body) := fun f hf => by
  have h1 : FM.e f ∈ m.map FM.e := h ▸ List.mem_map_of_mem hf
  obtain ⟨g, hg, he⟩ := List.mem_map.1 h1
  have : (FM.e g).body = (FM.e f).body := by rw [he]
  have h2 := hr g hg
  change SM.es g.body = SM.es f.body at this
  rw [← this]; exact h2
theorem len_map {m m' : List FM} (h : m'.map FM.e = m.map FM.e) : m'.length = m.length := by
  have := congrArg List.length h
  simpa using this
set_option maxHeartbeats 4000000 in
theorem textRound_c (m : List FM) (A : Option Addr) (c : Nat) (w : World) (hG : Rp w) (hR : Rdy w A m) (hN : nP (m.map FM.e) ≤ 1048576) (hr : ∀ f ∈ m, rgSs (SM.es f.body)) :
    Cl Tryz.prog 6 #[.agg #[.slice A m.length c]] w (fun u w' => u = .bool true ∧ Ext w w') (fun _ _ => False) := by
  refine calls_ex (args := [.agg #[.slice A m.length c]]) T.ok Tryz.func6 rfl rfl rfl rfl ?_
  have H := Hp.begin nw w
  refine Sq.mk ?_
  ((conv => whnf); refine Al.hp H ?_; clear H; intro p1 _ H _)
  repeat' ((conv => whnf); first | refine ztT ?_ | (refine ztB ?_ ?_ <;> intro _ <;> try (exfalso; omega)) | (refine ztW ?_; clear H; intro _ _ H _) | fail)
  ((conv => whnf); refine Cl.mk (beyond_c m A c _ (RdS.from H.e hR.rd) (fun f hf => (hR.all f hf).ext H.e) hR.len (by omega)) ?_)
  rintro _ w1 ⟨b, rfl, ex⟩
  replace H := H.ext ex
  clear ex
  cases b with
  | true =>
    repeat' ((conv => whnf); first | refine ztT ?_ | (refine ztB ?_ ?_ <;> intro _ <;> try (exfalso; omega)) | (refine ztW ?_; clear H; intro _ _ H _) | fail)
    exact ⟨rfl, H.e⟩
  | false =>
  repeat' ((conv => whnf); first | refine ztT ?_ | (refine ztB ?_ ?_ <;> intro _ <;> try (exfalso; omega)) | (refine ztW ?_; clear H; intro _ _ H _) | fail)
  ((conv => whnf); refine Cl.mk (copied_c m A c _ (RdS.from H.e hR.rd) (fun f hf => (hR.all f hf).ext H.e) hR.len) ?_)
  rintro _ w2 ⟨A2, c2, m2, S2, rfl, hm2, H'⟩
  replace H := H.fr0L H' (fun c hc => by simp only [List.mem_cons, List.not_mem_nil, or_false] at hc; rcases hc with rfl | rfl <;> exact .inl rfl)
  have hml := hR.len
  have hl2 := len_map hm2
  have hrdy := rdy_copy H' (by omega) (by rw [hm2]; omega) (rg_map hm2 hr)
  clear H'
  ((conv => whnf); refine Cl.mk (Print_c m2 A2 c2 _ (hG.ext H.e) hrdy.rd hrdy.all hrdy.len hrdy.fit) ?_)
  rw [hm2]
  by_cases h0 : (printP (m.map FM.e)).2 = 0
  rotate_left
  · have hp1 : (printP (m.map FM.e)).1 = [] := by
      unfold printP at h0 ⊢
      split
      · rename_i hb
        rw [if_pos hb] at h0
        split
        · rename_i he; rw [if_pos he] at h0; exact absurd rfl h0
        · rfl
      · rfl
    rw [hp1]
    generalize (printP (m.map FM.e)).2 = E at h0
    rintro _ w3 ⟨rfl, ex⟩
    replace H := H.ext ex
    clear ex
    repeat' (first | ((conv => whnf); first | refine ztT ?_ | (refine ztB ?_ ?_ <;> intro _ <;> try (exfalso; omega)) | (refine ztW ?_; clear H; intro _ _ H _) | fail) | (((conv => whnf); refine Cl.mk (head_c _ (hG.ext H.e)) ?_); rintro _ _ ⟨rfl, hx⟩; replace H := H.ext hx; clear hx))
    all_goals first | exact ⟨rfl, H.e⟩ | (exfalso; omega) | skip
  obtain ⟨hpr, _, ts, hok⟩ := round_law h0 (fun f hf => by
    obtain ⟨g, hg, rfl⟩ := List.mem_map.1 hf
    exact hr g hg)
  rw [hpr]
  rintro _ w3 ⟨rfl, ex⟩
  replace H := H.ext ex
  clear ex
  repeat' ((conv => whnf); first | refine ztT ?_ | (refine ztB ?_ ?_ <;> intro _ <;> try (exfalso; omega)) | (refine ztW ?_; clear H; intro _ _ H _) | fail)
  all_goals first | (exfalso; omega) | skip
  ((conv => whnf); refine Cl.mk (Parse_c (whole (m.map FM.e)) _ (hG.rg.ext H.e)) ?_)
  rintro _ w4 (⟨m3, ts3, A3, c3, hp3, rfl, hlm3, H'⟩ | ⟨e, q, hp3, rfl, ex⟩)
  rotate_left
  · rw [hok] at hp3; cases hp3
  replace H := H.fr0L H' (fun c hc => by simp only [List.mem_cons, List.not_mem_nil, or_false] at hc; rcases hc with rfl | rfl <;> exact .inl rfl)
  clear H'
  have hmm : m3.map FM.e = m.map FM.e := by rw [hok] at hp3; simp only [Res.ok.injEq] at hp3; exact hp3.1.symm
  repeat' ((conv => whnf); first | refine ztT ?_ | (refine ztB ?_ ?_ <;> intro _ <;> try (exfalso; omega)) | (refine ztW ?_; clear H; intro _ _ H _) | fail)
  ((conv => whnf); refine Al.hp H ?_; clear H; intro p3 _ H _)
  ((conv => whnf); refine Al.hp H ?_; clear H; intro p4 _ H _)
  repeat' ((conv => whnf); first | refine ztT ?_ | (refine ztB ?_ ?_ <;> intro _ <;> try (exfalso; omega)) | (refine ztW ?_; clear H; intro _ _ H _) | fail)
  (((conv => whnf); refine Cl.mk (same_l m m3 A A3 c c3 _ (RdS.from H.e hR.rd) (fun f hf => ((hR.all f hf).ext H.e).lo) (H.rdq 2 rfl) (FM.oks_lo (H.atC (c := fns m3) 3 rfl).1) hR.len) ?_); rintro _ _ ⟨rfl, hx⟩; replace H := H.ext hx; clear hx)
  rw [hmm, sameP_refl]
  repeat' ((conv => whnf); first | refine ztT ?_ | (refine ztB ?_ ?_ <;> intro _ <;> try (exfalso; omega)) | (refine ztW ?_; clear H; intro _ _ H _) | fail)
  all_goals first | exact ⟨rfl, H.e⟩ | (exfalso; omega) | skip
end Go.Proofs.YtfnjodpehomgfaaGreatDoor
