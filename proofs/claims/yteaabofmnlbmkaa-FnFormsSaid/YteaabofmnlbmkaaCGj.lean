/- Contracts: the law of forms. -/
import Derived.Test.YteaabofmnlbmkaaSyC
import Derived.Test.YteaabofmnlbmkaaCGi
import Derived.Test.YteaabofmnlbmkaaCGa
import Derived.Test.YteaabofmnlbmkaaCGe
import Derived.Test.YteaabofmnlbmkaaCRf
import Derived.Test.YteaabofmnlbmkaaCTc
import Derived.Test.YteaabofmnlbmkaaMxVp
set_option linter.all false
namespace Sx
open Go Go.Proofs
set_option maxRecDepth 100000
set_option maxHeartbeats 8000000
set_option linter.unusedSimpArgs false
set_option linter.unusedSectionVars false
variable [Glb]
theorem rCrowd_c (n m : Int) (a b : List Int) (ha : a.length ≤ 1099511627776) (hb : b.length ≤ 1099511627776) : C 41 [.agg [i64 n, ints a], .agg [i64 m, ints b]] [] (pr (n = m ∧ a = b)) [] false := by
  refine mkC false false Try.func41 rfl ?_; refine And.intro nofun ?_
  by_cases h : n = m
  · iterate 4 refine Z ?_
    refine tY oky ?_; iterate 2 refine Z ?_
    refine callW.mk [] 2 _ _ _ (rInts_c _ _ oka oka) rfl rfl trivial nofun ?_; rotate_left; refine doneV.mk [] [] rfl rfl ?_ ?_ ?_
    repeat' first | exact trivial | exact rfl | exact Iff.rfl | assumption | exact pureI | exact (show _ = _ by omega) | exact (show _ ≤ _ by omega) | exact (show _ < _ by omega) | exact (show ¬ _ by omega) | refine And.intro ?_ ?_
    all_goals exact Iff.intro (fun x => ⟨h, x⟩) (fun x => x.2)
  · iterate 4 refine Z ?_
    refine tN okn ?_; rotate_left; refine doneV.mk [] [] rfl rfl ?_ ?_ ?_
    repeat' first | exact trivial | exact rfl | exact Iff.rfl | assumption | exact pureI | exact (show _ = _ by omega) | exact (show _ ≤ _ by omega) | exact (show _ < _ by omega) | exact (show ¬ _ by omega) | refine And.intro ?_ ?_
    all_goals exact fun x => h x.1
theorem ffR_6 (n : Int) (l : List Int) : (ffR n l).length ≤ 1099511627776 := by
  by_cases h : crowd n l
  · have e : (formR n l).length = l.length := (formK_crowd h _).2
    rw [(ff_yes h).1, e]; have := h.1; omega
  · rw [(ff_no h).1]; exact Nat.zero_le _
theorem LoopW.weaken {fz : Bool} {m : Nat} {b : (Ex → List AV → List Ent → Prop) → List AV → List Ent → Prop} {K : Ex → List AV → List Ent → Prop} {ts ts' : List AV} {tab tab' : List Ent} (h : weak fz m ts tab ts' tab') (g : LoopW fz m b K ts' tab') : LoopW fz m b K ts tab := ⟨fun R hw hs => hw _ _ _ _ h (g.h R hw hs)⟩
structure HideG (G : Prop) : Prop where
  h : G
theorem cutG {goal G : Prop} (a : G) (b : HideG G → goal) : goal := b ⟨a⟩
theorem one_facts {n s : Int} {l : List Int} (h : crowd n l ∧ 0 ≤ s ∧ s ≤ n - 1) : ((crowd n l ∧ crowd (tcN n s l) (tcL n s l)) ∧ n = tcN n s l ∧ formR n l = formR (tcN n s l) (tcL n s l)) ∧ (crowd n l ∧ crowd (tcN n s l) (tcL n s l)) ∧ crowd n l ∧ crowd (tcN n s l) (tcL n s l) ∧ poR n l = poR (tcN n s l) (tcL n s l) := by
  have hc := h.1
  have ht := (trn_crowd (s := s) hc).1
  rw [(tc_yes h).1, (tc_yes h).2, po_yes hc, po_yes ht, form_trn hc, per_trn hc]
  exact ⟨⟨⟨hc, ht⟩, rfl, rfl⟩, ⟨hc, ht⟩, hc, ht, rfl⟩
theorem two_facts {n : Int} {l : List Int} (hc : crowd n l) : crowd (mcN n l) (mcL n l) ∧ crowd (ffN n l) (ffR n l) ∧ (ffN (mcN n l) (mcL n l) = ffN n l ∧ ffR (mcN n l) (mcL n l) = ffR n l) ∧ (ffN (ffN n l) (ffR n l) = ffN n l ∧ ffR (ffN n l) (ffR n l) = ffR n l) := by
  have hm := (mir_crowd hc).1
  have hf : crowd n (formR n l) := (formK_crowd hc n.toNat).1
  rw [(mc_yes hc).1, (mc_yes hc).2, (ff_yes hc).1, (ff_yes hc).2, (ff_yes hm).1, (ff_yes hm).2, (ff_yes hf).1, (ff_yes hf).2, form_mir hc, form_form hc]
  exact ⟨hm, hf, ⟨rfl, rfl⟩, ⟨rfl, rfl⟩⟩
theorem FnForms_c (L : List UInt8) (hL : L.length ≤ 9223372036854775807) : C 10 [.sl 1 (L.map i8)] [] .tt [] false := by
  have sd1 := tcL_6
  have sd2 := mcL_6
  have sd3 := ffR_6
  refine mkC false false Try.func10 rfl ?_; refine And.intro nofun ?_
  by_cases hb : 65536 < (L.length : Int)
  · refine callW.mk [] 0 _ _ _ (rBig_c _ okd) rfl rfl trivial nofun ?_
    refine tY oky ?_; rotate_left; refine doneV.mk [] [] rfl rfl ?_ ?_ ?_
    repeat' first | exact trivial | exact rfl | exact Iff.rfl | assumption | exact pureI | exact (show _ = _ by omega) | exact (show _ ≤ _ by omega) | exact (show _ < _ by omega) | exact (show ¬ _ by omega) | refine And.intro ?_ ?_
  · refine callW.mk [] 0 _ _ _ (rBig_c _ okd) rfl rfl trivial nofun ?_
    refine tN okn ?_; refine callW.mkE [] [] 0 _ _ _ _ (DrawAreSameForm_c _ okd) rfl rfl trivial nofun (fun _ _ => ?_); iterate 10 refine Z ?_
    refine callW.mk [] 4 _ _ _ (AreSameForm_c _ _ _ _ okd okd) rfl rfl trivial nofun ?_; refine callW.mk [] 4 _ _ _ (sAreSameForm_c _ _ _ _ okd okd) rfl rfl trivial nofun ?_; iterate 2 refine tN okn ?_
    refine callW.mkE [] [] 4 _ _ _ _ (DrawTurnCrowd_c _ okd) rfl rfl trivial nofun (fun _ _ => ?_); iterate 5 refine Z ?_
    refine callW.mk [] 6 _ _ _ (TurnCrowd_c _ _ _ okd okd) rfl rfl trivial nofun ?_; iterate 5 refine Z ?_
    refine callW.mk [] 8 _ _ _ (sTurnCrowd_c _ _ _ okd okd) rfl rfl trivial nofun ?_; iterate 5 refine Z ?_
    refine tN okn ?_; refine callW.mk [] 10 _ _ _ (rCrowd_c _ _ _ _ okd okd) rfl rfl trivial nofun ?_; refine tN okn ?_; refine callW.mkE [] [] 10 _ _ _ _ (DrawFirstForm_c _ okd) rfl rfl trivial nofun (fun _ _ => ?_); iterate 5 refine Z ?_
    refine callW.mk [] 12 _ _ _ (FirstForm_c _ _ okd) rfl rfl trivial nofun ?_; iterate 5 refine Z ?_
    refine callW.mk [] 14 _ _ _ (sFirstForm_c _ _ okd) rfl rfl trivial nofun ?_; iterate 5 refine Z ?_
    refine tN okn ?_; refine callW.mk [] 16 _ _ _ (rCrowd_c _ _ _ _ okd okd) rfl rfl trivial nofun ?_; refine tN okn ?_; refine callW.mk [] 16 _ _ _ (MirrorCrowd_c _ _ okd) rfl rfl trivial nofun ?_; iterate 5 refine Z ?_
    refine callW.mk [] 18 _ _ _ (sMirrorCrowd_c _ _ okd) rfl rfl trivial nofun ?_; iterate 5 refine Z ?_
    iterate 2 refine tN okn ?_
    refine callW.mk [] 20 _ _ _ (rCrowd_c _ _ _ _ okd okd) rfl rfl trivial nofun ?_; refine tN okn ?_; refine callW.mkE [] [] 20 _ _ _ _ (DrawCountForms_c _ okd) rfl rfl trivial nofun (fun _ _ => ?_); rotate_left
    rename_i e1 h1 e2 h2 e3 h3 e4 h4
    have hq := CountForms_k e4.1 e4.2
    have hq2 := sCountForms_k e4.1 e4.2
    have hback : ((crowd e1.2.1 e1.2.2 ∧ crowd e1.1.1 e1.1.2) ∧ e1.2.1 = e1.1.1 ∧ formR e1.2.1 e1.2.2 = formR e1.1.1 e1.1.2) ↔ ((crowd e1.1.1 e1.1.2 ∧ crowd e1.2.1 e1.2.2) ∧ e1.1.1 = e1.2.1 ∧ formR e1.1.1 e1.1.2 = formR e1.2.1 e1.2.2) := ⟨fun ⟨⟨a, b⟩, c, d⟩ => ⟨⟨b, a⟩, c.symm, d.symm⟩, fun ⟨⟨a, b⟩, c, d⟩ => ⟨⟨b, a⟩, c.symm, d.symm⟩⟩
    by_cases hok : crowd e1.1.1 e1.1.2 ∧ crowd e1.2.1 e1.2.2
    · have hok2 : crowd e1.2.1 e1.2.2 ∧ crowd e1.1.1 e1.1.2 := ⟨hok.2, hok.1⟩
      by_cases g49 : cfOk e4.1 e4.2 ∧ e4.1 < 9
      · obtain ⟨gc, g9⟩ := g49
        obtain ⟨m, hm⟩ : ∃ m : Nat, e4.1 = m := ⟨e4.1.toNat, by have := gc.1; omega⟩
        obtain ⟨q, hqq⟩ : ∃ q : Nat, e4.2 = q := ⟨e4.2.toNat, by have := gc.2; omega⟩
        rw [hm, hqq] at gc hq hq2 ⊢
        rw [hm] at g9
        apply cutG
        rotate_left
        · intro key
          by_cases g1 : crowd e2.1.1 e2.1.2 ∧ 0 ≤ e2.2 ∧ e2.2 ≤ e2.1.1 - 1
          · obtain ⟨f1, f2, f3, f4, f5⟩ := one_facts g1
            by_cases g2 : crowd e3.1 e3.2
            · obtain ⟨k1, k2, k3, k4⟩ := two_facts g2
              refine callW.mk [] 20 _ _ _ (hq) rfl rfl okk nofun ?_; refine callW.mk [] 20 _ _ _ (hq2) rfl rfl okk nofun ?_; iterate 2 refine tN okn ?_
              refine tY oky ?_; refine callW.mk [] 20 _ _ _ (AreSameForm_c _ _ _ _ okd okd) rfl rfl trivial nofun ?_; iterate 2 refine callW.mk [] 20 _ _ _ (PeriodOf_c _ _ okd) rfl rfl trivial nofun ?_
              iterate 5 refine tN okn ?_
              refine tY oky ?_; refine callW.mk [] 20 _ _ _ (FirstForm_c _ _ okd) rfl rfl trivial nofun ?_; iterate 5 refine Z ?_
              refine callW.mk [] 22 _ _ _ (FirstForm_c _ _ okd) rfl rfl trivial nofun ?_; iterate 5 refine Z ?_
              iterate 2 refine tN okn ?_
              refine callW.mk [] 24 _ _ _ (rCrowd_c _ _ _ _ okd okd) rfl rfl trivial nofun ?_; refine tN okn ?_; refine callW.mk [] 24 _ _ _ (rCrowd_c _ _ _ _ okd okd) rfl rfl trivial nofun ?_; refine tN okn ?_; iterate 2 refine tY oky ?_
              rotate_left; refine LoopW.weaken (ts' := [.unk, .unk, .ff, .prow 2 0 0, .prow 3 0 0, pr ((crowd e1.1.1 e1.1.2 ∧ crowd e1.2.1 e1.2.2) ∧ e1.1.1 = e1.2.1 ∧ formR e1.1.1 e1.1.2 = formR e1.2.1 e1.2.2), pr (crowd e1.1.1 e1.1.2 ∧ crowd e1.2.1 e1.2.2), .unk, .unk, .unk, .unk, .unk, .unk, .unk, .unk, .unk, .unk, .unk, .unk, .unk, .unk, .unk, .unk, .unk, i64 (m : Int), i64 (q : Int), i64 (cfR m q), pr (cfOk m q), .unk, .unk, .unk, .unk, .unk, .unk, .unk, .unk, .unk, .unk, .unk, .unk, i64 0, i64 0, .unk, .unk, .unk, .unk, .unk, .unk, .unk, .unk, .unk, .unk, .unk, .unk, .unk, .unk, .unk, .unk, .unk, .unk, .unk, .unk, .unk, .unk, .unk, .unk, .unk, .unk, .unk, .unk, .unk, .unk, .unk, .unk, .unk, .unk, .unk, .unk, .unk, .unk, .unk, .unk, .unk, .unk, .unk, .unk, .unk, .unk, .unk, .unk, .unk, .unk, .unk, .unk, .unk, .unk, .unk, .unk, .unk, .unk, .unk, .unk, .unk, .unk, .unk, .unk, .unk, .unk, .unk, .unk, .unk, .unk, .unk, .unk, .unk, .unk, .unk, .unk, .unk, .unk, .unk, .unk, .unk, .unk, .unk, .unk, .unk, .unk, .unk, .unk, .unk, .unk, .unk, .unk, .unk, .unk, .unk, .unk, .unk, .unk, .unk, .unk, .unk, .unk, .unk, .unk, .unk, .unk, .unk, .unk, .unk, .unk, .unk, .unk, .unk, .unk, .unk, .unk, .unk, .unk, .unk, .unk, .unk, .unk, .unk, .unk, .unk, .unk, .unk, .unk, .unk, .unk, .unk, .unk, .unk, .unk, .unk, .unk, .unk, .unk, .unk, .unk, .unk, .unk, .unk, .unk, .unk, .unk, .unk, .unk, .unk, .unk, .unk, .unk, .unk, .unk, .unk, .unk, .unk, .unk, .unk, .unk, .unk, .unk, .unk, .unk, .unk, .unk, .unk, .unk, .unk, .unk, .unk, .unk, .unk, .unk, .unk, .unk, .unk, .unk, .unk, .unk, .unk, .unk, .unk, .unk, .unk, .unk, .unk, .unk, .unk, .unk, .unk, .unk, .unk, .unk, .unk, .unk, .unk, .unk, .unk, .unk, .unk, .unk, .unk, .unk, .unk, .unk, .unk, .unk, .unk, .unk, .unk, .unk, .unk, .unk, .unk, .unk, .unk, .unk, .unk, .unk, .unk, .unk, .unk, .unk, .unk, .unk, .unk, .unk, .unk, .unk, .unk, .unk, .unk, .unk, .unk, .unk, .unk, .unk, .unk, .unk, .unk, .unk, .unk, .unk, .unk, .unk, .unk, .unk, .unk, .unk, .unk, .unk, .unk, .unk, .unk, .unk, .unk, .unk, .unk, .unk, .unk, .unk, .unk, .unk, .unk, .unk, .unk, .unk, .unk, .unk, .unk, .unk, .unk, .unk, .unk, .unk, .unk, .unk]) (tab' := [row e1.1.2, row e1.2.2, .row .var 2 [.agg [i64 e1.1.1, .loc 0]], .row .var 2 [.agg [i64 e1.2.1, .loc 1]]]) ?_ key.h
              refine weak.mk [] [0, 1, 2, 3] rfl rfl ?_ ?_
              repeat' first | exact trivial | exact rfl | exact Iff.rfl | assumption | refine And.intro ?_ ?_
            · refine callW.mk [] 20 _ _ _ (hq) rfl rfl okk nofun ?_
              refine callW.mk [] 20 _ _ _ (hq2) rfl rfl okk nofun ?_; iterate 2 refine tN okn ?_
              refine tY oky ?_; refine callW.mk [] 20 _ _ _ (AreSameForm_c _ _ _ _ okd okd) rfl rfl trivial nofun ?_; iterate 2 refine callW.mk [] 20 _ _ _ (PeriodOf_c _ _ okd) rfl rfl trivial nofun ?_
              iterate 6 refine tN okn ?_
              iterate 2 refine tY oky ?_
              rotate_left; refine LoopW.weaken (ts' := [.unk, .unk, .ff, .prow 2 0 0, .prow 3 0 0, pr ((crowd e1.1.1 e1.1.2 ∧ crowd e1.2.1 e1.2.2) ∧ e1.1.1 = e1.2.1 ∧ formR e1.1.1 e1.1.2 = formR e1.2.1 e1.2.2), pr (crowd e1.1.1 e1.1.2 ∧ crowd e1.2.1 e1.2.2), .unk, .unk, .unk, .unk, .unk, .unk, .unk, .unk, .unk, .unk, .unk, .unk, .unk, .unk, .unk, .unk, .unk, i64 (m : Int), i64 (q : Int), i64 (cfR m q), pr (cfOk m q), .unk, .unk, .unk, .unk, .unk, .unk, .unk, .unk, .unk, .unk, .unk, .unk, i64 0, i64 0, .unk, .unk, .unk, .unk, .unk, .unk, .unk, .unk, .unk, .unk, .unk, .unk, .unk, .unk, .unk, .unk, .unk, .unk, .unk, .unk, .unk, .unk, .unk, .unk, .unk, .unk, .unk, .unk, .unk, .unk, .unk, .unk, .unk, .unk, .unk, .unk, .unk, .unk, .unk, .unk, .unk, .unk, .unk, .unk, .unk, .unk, .unk, .unk, .unk, .unk, .unk, .unk, .unk, .unk, .unk, .unk, .unk, .unk, .unk, .unk, .unk, .unk, .unk, .unk, .unk, .unk, .unk, .unk, .unk, .unk, .unk, .unk, .unk, .unk, .unk, .unk, .unk, .unk, .unk, .unk, .unk, .unk, .unk, .unk, .unk, .unk, .unk, .unk, .unk, .unk, .unk, .unk, .unk, .unk, .unk, .unk, .unk, .unk, .unk, .unk, .unk, .unk, .unk, .unk, .unk, .unk, .unk, .unk, .unk, .unk, .unk, .unk, .unk, .unk, .unk, .unk, .unk, .unk, .unk, .unk, .unk, .unk, .unk, .unk, .unk, .unk, .unk, .unk, .unk, .unk, .unk, .unk, .unk, .unk, .unk, .unk, .unk, .unk, .unk, .unk, .unk, .unk, .unk, .unk, .unk, .unk, .unk, .unk, .unk, .unk, .unk, .unk, .unk, .unk, .unk, .unk, .unk, .unk, .unk, .unk, .unk, .unk, .unk, .unk, .unk, .unk, .unk, .unk, .unk, .unk, .unk, .unk, .unk, .unk, .unk, .unk, .unk, .unk, .unk, .unk, .unk, .unk, .unk, .unk, .unk, .unk, .unk, .unk, .unk, .unk, .unk, .unk, .unk, .unk, .unk, .unk, .unk, .unk, .unk, .unk, .unk, .unk, .unk, .unk, .unk, .unk, .unk, .unk, .unk, .unk, .unk, .unk, .unk, .unk, .unk, .unk, .unk, .unk, .unk, .unk, .unk, .unk, .unk, .unk, .unk, .unk, .unk, .unk, .unk, .unk, .unk, .unk, .unk, .unk, .unk, .unk, .unk, .unk, .unk, .unk, .unk, .unk, .unk, .unk, .unk, .unk, .unk, .unk, .unk, .unk, .unk, .unk, .unk, .unk, .unk, .unk, .unk, .unk, .unk, .unk, .unk, .unk, .unk, .unk, .unk, .unk, .unk, .unk, .unk, .unk, .unk, .unk, .unk, .unk, .unk, .unk, .unk, .unk]) (tab' := [row e1.1.2, row e1.2.2, .row .var 2 [.agg [i64 e1.1.1, .loc 0]], .row .var 2 [.agg [i64 e1.2.1, .loc 1]]]) ?_ key.h
              refine weak.mk [] [0, 1, 2, 3] rfl rfl ?_ ?_
              repeat' first | exact trivial | exact rfl | exact Iff.rfl | assumption | refine And.intro ?_ ?_
          · by_cases g2 : crowd e3.1 e3.2
            · obtain ⟨k1, k2, k3, k4⟩ := two_facts g2
              refine callW.mk [] 20 _ _ _ (hq) rfl rfl okk nofun ?_; refine callW.mk [] 20 _ _ _ (hq2) rfl rfl okk nofun ?_; iterate 3 refine tN okn ?_
              refine tY oky ?_; refine callW.mk [] 20 _ _ _ (FirstForm_c _ _ okd) rfl rfl trivial nofun ?_; iterate 5 refine Z ?_
              refine callW.mk [] 22 _ _ _ (FirstForm_c _ _ okd) rfl rfl trivial nofun ?_; iterate 5 refine Z ?_
              iterate 2 refine tN okn ?_
              refine callW.mk [] 24 _ _ _ (rCrowd_c _ _ _ _ okd okd) rfl rfl trivial nofun ?_; refine tN okn ?_; refine callW.mk [] 24 _ _ _ (rCrowd_c _ _ _ _ okd okd) rfl rfl trivial nofun ?_; refine tN okn ?_; iterate 2 refine tY oky ?_
              rotate_left; refine LoopW.weaken (ts' := [.unk, .unk, .ff, .prow 2 0 0, .prow 3 0 0, pr ((crowd e1.1.1 e1.1.2 ∧ crowd e1.2.1 e1.2.2) ∧ e1.1.1 = e1.2.1 ∧ formR e1.1.1 e1.1.2 = formR e1.2.1 e1.2.2), pr (crowd e1.1.1 e1.1.2 ∧ crowd e1.2.1 e1.2.2), .unk, .unk, .unk, .unk, .unk, .unk, .unk, .unk, .unk, .unk, .unk, .unk, .unk, .unk, .unk, .unk, .unk, i64 (m : Int), i64 (q : Int), i64 (cfR m q), pr (cfOk m q), .unk, .unk, .unk, .unk, .unk, .unk, .unk, .unk, .unk, .unk, .unk, .unk, i64 0, i64 0, .unk, .unk, .unk, .unk, .unk, .unk, .unk, .unk, .unk, .unk, .unk, .unk, .unk, .unk, .unk, .unk, .unk, .unk, .unk, .unk, .unk, .unk, .unk, .unk, .unk, .unk, .unk, .unk, .unk, .unk, .unk, .unk, .unk, .unk, .unk, .unk, .unk, .unk, .unk, .unk, .unk, .unk, .unk, .unk, .unk, .unk, .unk, .unk, .unk, .unk, .unk, .unk, .unk, .unk, .unk, .unk, .unk, .unk, .unk, .unk, .unk, .unk, .unk, .unk, .unk, .unk, .unk, .unk, .unk, .unk, .unk, .unk, .unk, .unk, .unk, .unk, .unk, .unk, .unk, .unk, .unk, .unk, .unk, .unk, .unk, .unk, .unk, .unk, .unk, .unk, .unk, .unk, .unk, .unk, .unk, .unk, .unk, .unk, .unk, .unk, .unk, .unk, .unk, .unk, .unk, .unk, .unk, .unk, .unk, .unk, .unk, .unk, .unk, .unk, .unk, .unk, .unk, .unk, .unk, .unk, .unk, .unk, .unk, .unk, .unk, .unk, .unk, .unk, .unk, .unk, .unk, .unk, .unk, .unk, .unk, .unk, .unk, .unk, .unk, .unk, .unk, .unk, .unk, .unk, .unk, .unk, .unk, .unk, .unk, .unk, .unk, .unk, .unk, .unk, .unk, .unk, .unk, .unk, .unk, .unk, .unk, .unk, .unk, .unk, .unk, .unk, .unk, .unk, .unk, .unk, .unk, .unk, .unk, .unk, .unk, .unk, .unk, .unk, .unk, .unk, .unk, .unk, .unk, .unk, .unk, .unk, .unk, .unk, .unk, .unk, .unk, .unk, .unk, .unk, .unk, .unk, .unk, .unk, .unk, .unk, .unk, .unk, .unk, .unk, .unk, .unk, .unk, .unk, .unk, .unk, .unk, .unk, .unk, .unk, .unk, .unk, .unk, .unk, .unk, .unk, .unk, .unk, .unk, .unk, .unk, .unk, .unk, .unk, .unk, .unk, .unk, .unk, .unk, .unk, .unk, .unk, .unk, .unk, .unk, .unk, .unk, .unk, .unk, .unk, .unk, .unk, .unk, .unk, .unk, .unk, .unk, .unk, .unk, .unk, .unk, .unk, .unk, .unk, .unk, .unk, .unk, .unk, .unk, .unk, .unk, .unk, .unk, .unk, .unk, .unk, .unk, .unk, .unk, .unk, .unk, .unk, .unk, .unk]) (tab' := [row e1.1.2, row e1.2.2, .row .var 2 [.agg [i64 e1.1.1, .loc 0]], .row .var 2 [.agg [i64 e1.2.1, .loc 1]]]) ?_ key.h
              refine weak.mk [] [0, 1, 2, 3] rfl rfl ?_ ?_
              repeat' first | exact trivial | exact rfl | exact Iff.rfl | assumption | refine And.intro ?_ ?_
            · refine callW.mk [] 20 _ _ _ (hq) rfl rfl okk nofun ?_
              refine callW.mk [] 20 _ _ _ (hq2) rfl rfl okk nofun ?_; iterate 4 refine tN okn ?_
              iterate 2 refine tY oky ?_
              rotate_left; refine LoopW.weaken (ts' := [.unk, .unk, .ff, .prow 2 0 0, .prow 3 0 0, pr ((crowd e1.1.1 e1.1.2 ∧ crowd e1.2.1 e1.2.2) ∧ e1.1.1 = e1.2.1 ∧ formR e1.1.1 e1.1.2 = formR e1.2.1 e1.2.2), pr (crowd e1.1.1 e1.1.2 ∧ crowd e1.2.1 e1.2.2), .unk, .unk, .unk, .unk, .unk, .unk, .unk, .unk, .unk, .unk, .unk, .unk, .unk, .unk, .unk, .unk, .unk, i64 (m : Int), i64 (q : Int), i64 (cfR m q), pr (cfOk m q), .unk, .unk, .unk, .unk, .unk, .unk, .unk, .unk, .unk, .unk, .unk, .unk, i64 0, i64 0, .unk, .unk, .unk, .unk, .unk, .unk, .unk, .unk, .unk, .unk, .unk, .unk, .unk, .unk, .unk, .unk, .unk, .unk, .unk, .unk, .unk, .unk, .unk, .unk, .unk, .unk, .unk, .unk, .unk, .unk, .unk, .unk, .unk, .unk, .unk, .unk, .unk, .unk, .unk, .unk, .unk, .unk, .unk, .unk, .unk, .unk, .unk, .unk, .unk, .unk, .unk, .unk, .unk, .unk, .unk, .unk, .unk, .unk, .unk, .unk, .unk, .unk, .unk, .unk, .unk, .unk, .unk, .unk, .unk, .unk, .unk, .unk, .unk, .unk, .unk, .unk, .unk, .unk, .unk, .unk, .unk, .unk, .unk, .unk, .unk, .unk, .unk, .unk, .unk, .unk, .unk, .unk, .unk, .unk, .unk, .unk, .unk, .unk, .unk, .unk, .unk, .unk, .unk, .unk, .unk, .unk, .unk, .unk, .unk, .unk, .unk, .unk, .unk, .unk, .unk, .unk, .unk, .unk, .unk, .unk, .unk, .unk, .unk, .unk, .unk, .unk, .unk, .unk, .unk, .unk, .unk, .unk, .unk, .unk, .unk, .unk, .unk, .unk, .unk, .unk, .unk, .unk, .unk, .unk, .unk, .unk, .unk, .unk, .unk, .unk, .unk, .unk, .unk, .unk, .unk, .unk, .unk, .unk, .unk, .unk, .unk, .unk, .unk, .unk, .unk, .unk, .unk, .unk, .unk, .unk, .unk, .unk, .unk, .unk, .unk, .unk, .unk, .unk, .unk, .unk, .unk, .unk, .unk, .unk, .unk, .unk, .unk, .unk, .unk, .unk, .unk, .unk, .unk, .unk, .unk, .unk, .unk, .unk, .unk, .unk, .unk, .unk, .unk, .unk, .unk, .unk, .unk, .unk, .unk, .unk, .unk, .unk, .unk, .unk, .unk, .unk, .unk, .unk, .unk, .unk, .unk, .unk, .unk, .unk, .unk, .unk, .unk, .unk, .unk, .unk, .unk, .unk, .unk, .unk, .unk, .unk, .unk, .unk, .unk, .unk, .unk, .unk, .unk, .unk, .unk, .unk, .unk, .unk, .unk, .unk, .unk, .unk, .unk, .unk, .unk, .unk, .unk, .unk, .unk, .unk, .unk, .unk, .unk, .unk, .unk, .unk, .unk, .unk, .unk, .unk, .unk, .unk, .unk, .unk, .unk, .unk, .unk, .unk]) (tab' := [row e1.1.2, row e1.2.2, .row .var 2 [.agg [i64 e1.1.1, .loc 0]], .row .var 2 [.agg [i64 e1.2.1, .loc 1]]]) ?_ key.h
              refine weak.mk [] [0, 1, 2, 3] rfl rfl ?_ ?_
              repeat' first | exact trivial | exact rfl | exact Iff.rfl | assumption | refine And.intro ?_ ?_
        · have hn8 : 3 ≤ m ∧ m ≤ 8 := by have := gc.1; omega
          have hq6 : 1 ≤ q ∧ q ≤ 6 := by have := gc.2; omega
          have hM := pow12 (m := m) (by omega)
          have hsh := shl_e (m := m) (by omega)
          have hcf : cfR m q = ((cfK m q (2 ^ m) : Nat) : Int) := by rw [cf_yes gc]; simp only [Int.toNat_natCast]
          have hbe := burn_eq hn8 hq6.2
          have hbl := burnK_le m q (2 ^ m)
          obtain ⟨M, hMe⟩ : ∃ M : Nat, 2 ^ m = M := ⟨_, rfl⟩
          rw [hMe] at hM hsh hcf hbe hbl
          have hcm := cfK_le m q M
          have hmul : cfR m q * 2 * (m : Int) = ((burnK m q M : Nat) : Int) := by rw [hcf, hbe]; push_cast; rfl
          have hb8 : burnK m q M ≤ 65536 := Nat.le_trans hbl (Nat.le_trans (Nat.mul_le_mul (show 2 * m ≤ 16 by omega) hM) (by decide))
          refine loop_up (β := Nat) (fun c => [(40, i64 ((burnK m q c : Nat) : Int)), (41, i64 c), (2, .unk)]) (fun c => []) [] (fun c => c ≤ M) (fun c => M - c) (0) ?_ ?_ ?_
          · exact Nat.zero_le _
          · refine weak.mk [] [0, 1, 2, 3] rfl rfl ?_ ?_
            repeat' first | exact trivial | exact rfl | exact Iff.rfl | assumption | exact pureI | exact (show _ = _ by omega) | exact (show _ ≤ _ by omega) | exact (show _ < _ by omega) | exact (show ¬ _ by omega) | refine And.intro ?_ ?_
          · rintro c hc R hR
            have hbc := burnK_le m q c
            have hbc8 : burnK m q c ≤ 65536 := Nat.le_trans hbc (Nat.le_trans (Nat.mul_le_mul (show 2 * m ≤ 16 by omega) (Nat.le_trans hc hM)) (by decide))
            by_cases hcM : c < M
            · refine And.intro (by omega) ?_
              refine nw (by omega) (by omega) ?_; refine tY oky ?_; iterate 14 refine Z ?_
              rotate_left; refine loop_up (β := Nat) (fun p => [(43, i64 p)]) (fun p => [(4, .row .var 2 [.agg [i64 m, .loc 5]]), (5, row (bitsK c p))]) [1] (fun p => p ≤ m) (fun p => m - p) (0) ?_ ?_ ?_
              · exact Nat.zero_le _
              · refine weak.mk [1] [0, 1, 2, 3, 4, 5] rfl rfl ?_ ?_
                repeat' first | exact trivial | exact rfl | exact Iff.rfl | assumption | refine And.intro ?_ ?_
              · rintro p hp R2 hR2
                have hbl2 := bitsK_len c p
                by_cases hpm : p < m
                · have hbit := bit_e (c := c) (p := p) (by omega) (by omega)
                  by_cases hb : c / 2 ^ p % 2 = 1
                  · have hb1 := bitsK_yes hb
                    rw [hb] at hbit
                    refine tY oky ?_; refine And.intro (by omega) ?_; iterate 2 refine nr ?_
                    refine tY oky ?_; iterate 11 refine Z ?_
                    refine lem1 (by omega) ?_; refine ea ?_; iterate 5 refine Z ?_
                    refine nw (by omega) (by omega) ?_; rotate_left; refine hR2 (p + 1) _ _ ?_ ?_; rotate_left; refine weak.mk [] [0, 1, 2, 3, 4, 7] rfl rfl ?_ ?_
                    repeat' first | exact trivial | exact rfl | exact Iff.rfl | assumption | exact pureI | exact (show _ = _ by omega) | exact (show _ ≤ _ by omega) | exact (show _ < _ by omega) | exact (show ¬ _ by omega) | refine And.intro ?_ ?_
                    rotate_right
                    · exact ⟨by omega, by omega⟩
                    all_goals (first | exact congrArg (List.map i64) hb1.symm | skip)
                  · have hb1 := bitsK_no hb
                    have hbit2 : ¬ bitsOp .and .i64 (((c : Nat) : Int).fdiv (2 ^ min ((p : Nat) : Int).toNat Go.IntKind.i64.bits)) 1 = 1 := by rw [hbit]; omega
                    refine tY oky ?_; refine And.intro (by omega) ?_; iterate 2 refine nr ?_
                    refine tN okn ?_; refine nw (by omega) (by omega) ?_; rotate_left; refine hR2 (p + 1) _ _ ?_ ?_; rotate_left; refine weak.mk [] [0, 1, 2, 3, 4, 5] rfl rfl ?_ ?_
                    repeat' first | exact trivial | exact rfl | exact Iff.rfl | assumption | exact pureI | exact (show _ = _ by omega) | exact (show _ ≤ _ by omega) | exact (show _ < _ by omega) | exact (show ¬ _ by omega) | refine And.intro ?_ ?_
                    rotate_right
                    · exact ⟨by omega, by omega⟩
                    all_goals (first | exact congrArg (List.map i64) hb1.symm | skip)
                · obtain rfl : p = m := by omega
                  by_cases hl : (bitsK c p).length = q
                  · have hcr : crowd p (bitsK c p) := by
                      have := bits_crowd (n := (p : Int)) (c := c) ⟨by omega, by omega⟩ (by rw [Int.toNat_natCast]; omega)
                      rwa [Int.toNat_natCast] at this
                    have hy := burnK_yes hl
                    have hpe : poR p (bitsK c p) = ((perN p (bitsK c p) : Nat) : Int) := by rw [po_yes hcr, perN_eq hcr]
                    have hpp : 0 < perN p (bitsK c p) := by unfold perN; split <;> omega
                    have hdv : ((p : Nat) : Int) / poR p (bitsK c p) = ((p / perN p (bitsK c p) : Nat) : Int) := by rw [hpe]; norm_cast
                    have hdl : p / perN p (bitsK c p) ≤ p := Nat.div_le_self _ _
                    have hal : (aoR p (bitsK c p)).length = (axK p (bitsK c p) p).length := by rw [ao_yes hcr]; unfold axL; rw [Int.toNat_natCast]
                    have hall := axK_le p (bitsK c p) p
                    refine tN okn ?_; refine Z ?_; refine lm ?_; refine tN okn ?_; refine callW.mk [] 6 _ _ _ (PeriodOf_c _ _ okd) rfl rfl trivial nofun ?_; refine callW.mk [] 6 _ _ _ (AxesOf_c _ _ okd) rfl rfl trivial nofun ?_; iterate 3 refine tN okn ?_
                    refine And.intro (by omega) ?_; refine ntd (by omega) (by omega) (by omega) ?_; refine nw (by omega) (by omega) ?_; refine lm ?_; iterate 2 refine nw (by omega) (by omega) ?_
                    rotate_left; refine hR (c + 1) _ _ ?_ (weak.mk [] [0, 1, 2, 3] rfl rfl ?_ ?_)
                    repeat' first | exact trivial | exact rfl | exact Iff.rfl | assumption | refine And.intro ?_ ?_
                    · exact ⟨by omega, by omega⟩
                    all_goals (first | omega | skip)
                  · have hy := burnK_no hl
                    refine tN okn ?_; refine Z ?_; refine lm ?_; refine tY oky ?_; refine nw (by omega) (by omega) ?_; rotate_left; refine hR (c + 1) _ _ ?_ (weak.mk [] [0, 1, 2, 3] rfl rfl ?_ ?_)
                    repeat' first | exact trivial | exact rfl | exact Iff.rfl | assumption | refine And.intro ?_ ?_
                    · exact ⟨by omega, by omega⟩
                    all_goals (first | omega | skip)
            · obtain rfl : c = M := by omega
              refine And.intro (by omega) ?_; refine nw (by omega) (by omega) ?_; refine tN okn ?_; iterate 2 refine nw (by omega) (by omega) ?_
              refine tN okn ?_; refine tY oky ?_; refine callW.mk [] 4 _ _ _ (AreSameForm_c _ _ _ _ okd okd) rfl rfl trivial nofun ?_; refine tY oky ?_; rotate_left
              all_goals exact dv0 rfl hback
      · by_cases gc : cfOk e4.1 e4.2
        · have g9 : ¬ e4.1 < 9 := fun x => g49 ⟨gc, x⟩
          by_cases g1 : crowd e2.1.1 e2.1.2 ∧ 0 ≤ e2.2 ∧ e2.2 ≤ e2.1.1 - 1
          · obtain ⟨f1, f2, f3, f4, f5⟩ := one_facts g1
            by_cases g2 : crowd e3.1 e3.2
            · obtain ⟨k1, k2, k3, k4⟩ := two_facts g2
              refine callW.mk [] 20 _ _ _ (hq) rfl rfl okk nofun ?_; refine callW.mk [] 20 _ _ _ (hq2) rfl rfl okk nofun ?_; iterate 2 refine tN okn ?_
              refine tY oky ?_; refine callW.mk [] 20 _ _ _ (AreSameForm_c _ _ _ _ okd okd) rfl rfl trivial nofun ?_; iterate 2 refine callW.mk [] 20 _ _ _ (PeriodOf_c _ _ okd) rfl rfl trivial nofun ?_
              iterate 5 refine tN okn ?_
              refine tY oky ?_; refine callW.mk [] 20 _ _ _ (FirstForm_c _ _ okd) rfl rfl trivial nofun ?_; iterate 5 refine Z ?_
              refine callW.mk [] 22 _ _ _ (FirstForm_c _ _ okd) rfl rfl trivial nofun ?_; iterate 5 refine Z ?_
              iterate 2 refine tN okn ?_
              refine callW.mk [] 24 _ _ _ (rCrowd_c _ _ _ _ okd okd) rfl rfl trivial nofun ?_; refine tN okn ?_; refine callW.mk [] 24 _ _ _ (rCrowd_c _ _ _ _ okd okd) rfl rfl trivial nofun ?_; refine tN okn ?_; refine tY oky ?_; refine tN okn ?_; refine tY oky ?_; refine callW.mk [] 24 _ _ _ (AreSameForm_c _ _ _ _ okd okd) rfl rfl trivial nofun ?_; refine tY oky ?_; rotate_left
              all_goals exact dv0 rfl hback
            · refine callW.mk [] 20 _ _ _ (hq) rfl rfl okk nofun ?_
              refine callW.mk [] 20 _ _ _ (hq2) rfl rfl okk nofun ?_; iterate 2 refine tN okn ?_
              refine tY oky ?_; refine callW.mk [] 20 _ _ _ (AreSameForm_c _ _ _ _ okd okd) rfl rfl trivial nofun ?_; iterate 2 refine callW.mk [] 20 _ _ _ (PeriodOf_c _ _ okd) rfl rfl trivial nofun ?_
              iterate 6 refine tN okn ?_
              refine tY oky ?_; refine tN okn ?_; refine tY oky ?_; refine callW.mk [] 20 _ _ _ (AreSameForm_c _ _ _ _ okd okd) rfl rfl trivial nofun ?_; refine tY oky ?_; rotate_left
              all_goals exact dv0 rfl hback
          · by_cases g2 : crowd e3.1 e3.2
            · obtain ⟨k1, k2, k3, k4⟩ := two_facts g2
              refine callW.mk [] 20 _ _ _ (hq) rfl rfl okk nofun ?_; refine callW.mk [] 20 _ _ _ (hq2) rfl rfl okk nofun ?_; iterate 3 refine tN okn ?_
              refine tY oky ?_; refine callW.mk [] 20 _ _ _ (FirstForm_c _ _ okd) rfl rfl trivial nofun ?_; iterate 5 refine Z ?_
              refine callW.mk [] 22 _ _ _ (FirstForm_c _ _ okd) rfl rfl trivial nofun ?_; iterate 5 refine Z ?_
              iterate 2 refine tN okn ?_
              refine callW.mk [] 24 _ _ _ (rCrowd_c _ _ _ _ okd okd) rfl rfl trivial nofun ?_; refine tN okn ?_; refine callW.mk [] 24 _ _ _ (rCrowd_c _ _ _ _ okd okd) rfl rfl trivial nofun ?_; refine tN okn ?_; refine tY oky ?_; refine tN okn ?_; refine tY oky ?_; refine callW.mk [] 24 _ _ _ (AreSameForm_c _ _ _ _ okd okd) rfl rfl trivial nofun ?_; refine tY oky ?_; rotate_left
              all_goals exact dv0 rfl hback
            · refine callW.mk [] 20 _ _ _ (hq) rfl rfl okk nofun ?_
              refine callW.mk [] 20 _ _ _ (hq2) rfl rfl okk nofun ?_; iterate 4 refine tN okn ?_
              refine tY oky ?_; refine tN okn ?_; refine tY oky ?_; refine callW.mk [] 20 _ _ _ (AreSameForm_c _ _ _ _ okd okd) rfl rfl trivial nofun ?_; refine tY oky ?_; rotate_left
              all_goals exact dv0 rfl hback
        · by_cases g1 : crowd e2.1.1 e2.1.2 ∧ 0 ≤ e2.2 ∧ e2.2 ≤ e2.1.1 - 1
          · obtain ⟨f1, f2, f3, f4, f5⟩ := one_facts g1
            by_cases g2 : crowd e3.1 e3.2
            · obtain ⟨k1, k2, k3, k4⟩ := two_facts g2
              refine callW.mk [] 20 _ _ _ (hq) rfl rfl okk nofun ?_; refine callW.mk [] 20 _ _ _ (hq2) rfl rfl okk nofun ?_; iterate 2 refine tN okn ?_
              refine tY oky ?_; refine callW.mk [] 20 _ _ _ (AreSameForm_c _ _ _ _ okd okd) rfl rfl trivial nofun ?_; iterate 2 refine callW.mk [] 20 _ _ _ (PeriodOf_c _ _ okd) rfl rfl trivial nofun ?_
              iterate 5 refine tN okn ?_
              refine tY oky ?_; refine callW.mk [] 20 _ _ _ (FirstForm_c _ _ okd) rfl rfl trivial nofun ?_; iterate 5 refine Z ?_
              refine callW.mk [] 22 _ _ _ (FirstForm_c _ _ okd) rfl rfl trivial nofun ?_; iterate 5 refine Z ?_
              iterate 2 refine tN okn ?_
              refine callW.mk [] 24 _ _ _ (rCrowd_c _ _ _ _ okd okd) rfl rfl trivial nofun ?_; refine tN okn ?_; refine callW.mk [] 24 _ _ _ (rCrowd_c _ _ _ _ okd okd) rfl rfl trivial nofun ?_; iterate 2 refine tN okn ?_
              refine tY oky ?_; refine callW.mk [] 24 _ _ _ (AreSameForm_c _ _ _ _ okd okd) rfl rfl trivial nofun ?_; refine tY oky ?_; rotate_left
              all_goals exact dv0 rfl hback
            · refine callW.mk [] 20 _ _ _ (hq) rfl rfl okk nofun ?_
              refine callW.mk [] 20 _ _ _ (hq2) rfl rfl okk nofun ?_; iterate 2 refine tN okn ?_
              refine tY oky ?_; refine callW.mk [] 20 _ _ _ (AreSameForm_c _ _ _ _ okd okd) rfl rfl trivial nofun ?_; iterate 2 refine callW.mk [] 20 _ _ _ (PeriodOf_c _ _ okd) rfl rfl trivial nofun ?_
              iterate 7 refine tN okn ?_
              refine tY oky ?_; refine callW.mk [] 20 _ _ _ (AreSameForm_c _ _ _ _ okd okd) rfl rfl trivial nofun ?_; refine tY oky ?_; rotate_left
              all_goals exact dv0 rfl hback
          · by_cases g2 : crowd e3.1 e3.2
            · obtain ⟨k1, k2, k3, k4⟩ := two_facts g2
              refine callW.mk [] 20 _ _ _ (hq) rfl rfl okk nofun ?_; refine callW.mk [] 20 _ _ _ (hq2) rfl rfl okk nofun ?_; iterate 3 refine tN okn ?_
              refine tY oky ?_; refine callW.mk [] 20 _ _ _ (FirstForm_c _ _ okd) rfl rfl trivial nofun ?_; iterate 5 refine Z ?_
              refine callW.mk [] 22 _ _ _ (FirstForm_c _ _ okd) rfl rfl trivial nofun ?_; iterate 5 refine Z ?_
              iterate 2 refine tN okn ?_
              refine callW.mk [] 24 _ _ _ (rCrowd_c _ _ _ _ okd okd) rfl rfl trivial nofun ?_; refine tN okn ?_; refine callW.mk [] 24 _ _ _ (rCrowd_c _ _ _ _ okd okd) rfl rfl trivial nofun ?_; iterate 2 refine tN okn ?_
              refine tY oky ?_; refine callW.mk [] 24 _ _ _ (AreSameForm_c _ _ _ _ okd okd) rfl rfl trivial nofun ?_; refine tY oky ?_; rotate_left
              all_goals exact dv0 rfl hback
            · refine callW.mk [] 20 _ _ _ (hq) rfl rfl okk nofun ?_
              refine callW.mk [] 20 _ _ _ (hq2) rfl rfl okk nofun ?_; iterate 5 refine tN okn ?_
              refine tY oky ?_; refine callW.mk [] 20 _ _ _ (AreSameForm_c _ _ _ _ okd okd) rfl rfl trivial nofun ?_; refine tY oky ?_; rotate_left
              all_goals exact dv0 rfl hback
    · by_cases g49 : cfOk e4.1 e4.2 ∧ e4.1 < 9
      · obtain ⟨gc, g9⟩ := g49
        obtain ⟨m, hm⟩ : ∃ m : Nat, e4.1 = m := ⟨e4.1.toNat, by have := gc.1; omega⟩
        obtain ⟨q, hqq⟩ : ∃ q : Nat, e4.2 = q := ⟨e4.2.toNat, by have := gc.2; omega⟩
        rw [hm, hqq] at gc hq hq2 ⊢
        rw [hm] at g9
        apply cutG
        rotate_left
        · intro key
          by_cases g1 : crowd e2.1.1 e2.1.2 ∧ 0 ≤ e2.2 ∧ e2.2 ≤ e2.1.1 - 1
          · obtain ⟨f1, f2, f3, f4, f5⟩ := one_facts g1
            by_cases g2 : crowd e3.1 e3.2
            · obtain ⟨k1, k2, k3, k4⟩ := two_facts g2
              refine callW.mk [] 20 _ _ _ (hq) rfl rfl okk nofun ?_; refine callW.mk [] 20 _ _ _ (hq2) rfl rfl okk nofun ?_; iterate 2 refine tN okn ?_
              refine tY oky ?_; refine callW.mk [] 20 _ _ _ (AreSameForm_c _ _ _ _ okd okd) rfl rfl trivial nofun ?_; iterate 2 refine callW.mk [] 20 _ _ _ (PeriodOf_c _ _ okd) rfl rfl trivial nofun ?_
              iterate 5 refine tN okn ?_
              refine tY oky ?_; refine callW.mk [] 20 _ _ _ (FirstForm_c _ _ okd) rfl rfl trivial nofun ?_; iterate 5 refine Z ?_
              refine callW.mk [] 22 _ _ _ (FirstForm_c _ _ okd) rfl rfl trivial nofun ?_; iterate 5 refine Z ?_
              iterate 2 refine tN okn ?_
              refine callW.mk [] 24 _ _ _ (rCrowd_c _ _ _ _ okd okd) rfl rfl trivial nofun ?_; refine tN okn ?_; refine callW.mk [] 24 _ _ _ (rCrowd_c _ _ _ _ okd okd) rfl rfl trivial nofun ?_; refine tN okn ?_; iterate 2 refine tY oky ?_
              rotate_left; refine LoopW.weaken (ts' := [.unk, .unk, .ff, .prow 2 0 0, .prow 3 0 0, pr ((crowd e1.1.1 e1.1.2 ∧ crowd e1.2.1 e1.2.2) ∧ e1.1.1 = e1.2.1 ∧ formR e1.1.1 e1.1.2 = formR e1.2.1 e1.2.2), pr (crowd e1.1.1 e1.1.2 ∧ crowd e1.2.1 e1.2.2), .unk, .unk, .unk, .unk, .unk, .unk, .unk, .unk, .unk, .unk, .unk, .unk, .unk, .unk, .unk, .unk, .unk, i64 (m : Int), i64 (q : Int), i64 (cfR m q), pr (cfOk m q), .unk, .unk, .unk, .unk, .unk, .unk, .unk, .unk, .unk, .unk, .unk, .unk, i64 0, i64 0, .unk, .unk, .unk, .unk, .unk, .unk, .unk, .unk, .unk, .unk, .unk, .unk, .unk, .unk, .unk, .unk, .unk, .unk, .unk, .unk, .unk, .unk, .unk, .unk, .unk, .unk, .unk, .unk, .unk, .unk, .unk, .unk, .unk, .unk, .unk, .unk, .unk, .unk, .unk, .unk, .unk, .unk, .unk, .unk, .unk, .unk, .unk, .unk, .unk, .unk, .unk, .unk, .unk, .unk, .unk, .unk, .unk, .unk, .unk, .unk, .unk, .unk, .unk, .unk, .unk, .unk, .unk, .unk, .unk, .unk, .unk, .unk, .unk, .unk, .unk, .unk, .unk, .unk, .unk, .unk, .unk, .unk, .unk, .unk, .unk, .unk, .unk, .unk, .unk, .unk, .unk, .unk, .unk, .unk, .unk, .unk, .unk, .unk, .unk, .unk, .unk, .unk, .unk, .unk, .unk, .unk, .unk, .unk, .unk, .unk, .unk, .unk, .unk, .unk, .unk, .unk, .unk, .unk, .unk, .unk, .unk, .unk, .unk, .unk, .unk, .unk, .unk, .unk, .unk, .unk, .unk, .unk, .unk, .unk, .unk, .unk, .unk, .unk, .unk, .unk, .unk, .unk, .unk, .unk, .unk, .unk, .unk, .unk, .unk, .unk, .unk, .unk, .unk, .unk, .unk, .unk, .unk, .unk, .unk, .unk, .unk, .unk, .unk, .unk, .unk, .unk, .unk, .unk, .unk, .unk, .unk, .unk, .unk, .unk, .unk, .unk, .unk, .unk, .unk, .unk, .unk, .unk, .unk, .unk, .unk, .unk, .unk, .unk, .unk, .unk, .unk, .unk, .unk, .unk, .unk, .unk, .unk, .unk, .unk, .unk, .unk, .unk, .unk, .unk, .unk, .unk, .unk, .unk, .unk, .unk, .unk, .unk, .unk, .unk, .unk, .unk, .unk, .unk, .unk, .unk, .unk, .unk, .unk, .unk, .unk, .unk, .unk, .unk, .unk, .unk, .unk, .unk, .unk, .unk, .unk, .unk, .unk, .unk, .unk, .unk, .unk, .unk, .unk, .unk, .unk, .unk, .unk, .unk, .unk, .unk, .unk, .unk, .unk, .unk, .unk, .unk, .unk, .unk, .unk, .unk, .unk, .unk, .unk, .unk, .unk, .unk, .unk, .unk, .unk, .unk, .unk, .unk, .unk, .unk, .unk, .unk, .unk, .unk]) (tab' := [row e1.1.2, row e1.2.2, .row .var 2 [.agg [i64 e1.1.1, .loc 0]], .row .var 2 [.agg [i64 e1.2.1, .loc 1]]]) ?_ key.h
              refine weak.mk [] [0, 1, 2, 3] rfl rfl ?_ ?_
              repeat' first | exact trivial | exact rfl | exact Iff.rfl | assumption | refine And.intro ?_ ?_
            · refine callW.mk [] 20 _ _ _ (hq) rfl rfl okk nofun ?_
              refine callW.mk [] 20 _ _ _ (hq2) rfl rfl okk nofun ?_; iterate 2 refine tN okn ?_
              refine tY oky ?_; refine callW.mk [] 20 _ _ _ (AreSameForm_c _ _ _ _ okd okd) rfl rfl trivial nofun ?_; iterate 2 refine callW.mk [] 20 _ _ _ (PeriodOf_c _ _ okd) rfl rfl trivial nofun ?_
              iterate 6 refine tN okn ?_
              iterate 2 refine tY oky ?_
              rotate_left; refine LoopW.weaken (ts' := [.unk, .unk, .ff, .prow 2 0 0, .prow 3 0 0, pr ((crowd e1.1.1 e1.1.2 ∧ crowd e1.2.1 e1.2.2) ∧ e1.1.1 = e1.2.1 ∧ formR e1.1.1 e1.1.2 = formR e1.2.1 e1.2.2), pr (crowd e1.1.1 e1.1.2 ∧ crowd e1.2.1 e1.2.2), .unk, .unk, .unk, .unk, .unk, .unk, .unk, .unk, .unk, .unk, .unk, .unk, .unk, .unk, .unk, .unk, .unk, i64 (m : Int), i64 (q : Int), i64 (cfR m q), pr (cfOk m q), .unk, .unk, .unk, .unk, .unk, .unk, .unk, .unk, .unk, .unk, .unk, .unk, i64 0, i64 0, .unk, .unk, .unk, .unk, .unk, .unk, .unk, .unk, .unk, .unk, .unk, .unk, .unk, .unk, .unk, .unk, .unk, .unk, .unk, .unk, .unk, .unk, .unk, .unk, .unk, .unk, .unk, .unk, .unk, .unk, .unk, .unk, .unk, .unk, .unk, .unk, .unk, .unk, .unk, .unk, .unk, .unk, .unk, .unk, .unk, .unk, .unk, .unk, .unk, .unk, .unk, .unk, .unk, .unk, .unk, .unk, .unk, .unk, .unk, .unk, .unk, .unk, .unk, .unk, .unk, .unk, .unk, .unk, .unk, .unk, .unk, .unk, .unk, .unk, .unk, .unk, .unk, .unk, .unk, .unk, .unk, .unk, .unk, .unk, .unk, .unk, .unk, .unk, .unk, .unk, .unk, .unk, .unk, .unk, .unk, .unk, .unk, .unk, .unk, .unk, .unk, .unk, .unk, .unk, .unk, .unk, .unk, .unk, .unk, .unk, .unk, .unk, .unk, .unk, .unk, .unk, .unk, .unk, .unk, .unk, .unk, .unk, .unk, .unk, .unk, .unk, .unk, .unk, .unk, .unk, .unk, .unk, .unk, .unk, .unk, .unk, .unk, .unk, .unk, .unk, .unk, .unk, .unk, .unk, .unk, .unk, .unk, .unk, .unk, .unk, .unk, .unk, .unk, .unk, .unk, .unk, .unk, .unk, .unk, .unk, .unk, .unk, .unk, .unk, .unk, .unk, .unk, .unk, .unk, .unk, .unk, .unk, .unk, .unk, .unk, .unk, .unk, .unk, .unk, .unk, .unk, .unk, .unk, .unk, .unk, .unk, .unk, .unk, .unk, .unk, .unk, .unk, .unk, .unk, .unk, .unk, .unk, .unk, .unk, .unk, .unk, .unk, .unk, .unk, .unk, .unk, .unk, .unk, .unk, .unk, .unk, .unk, .unk, .unk, .unk, .unk, .unk, .unk, .unk, .unk, .unk, .unk, .unk, .unk, .unk, .unk, .unk, .unk, .unk, .unk, .unk, .unk, .unk, .unk, .unk, .unk, .unk, .unk, .unk, .unk, .unk, .unk, .unk, .unk, .unk, .unk, .unk, .unk, .unk, .unk, .unk, .unk, .unk, .unk, .unk, .unk, .unk, .unk, .unk, .unk, .unk, .unk, .unk, .unk, .unk, .unk, .unk, .unk, .unk, .unk, .unk, .unk, .unk, .unk, .unk, .unk, .unk, .unk]) (tab' := [row e1.1.2, row e1.2.2, .row .var 2 [.agg [i64 e1.1.1, .loc 0]], .row .var 2 [.agg [i64 e1.2.1, .loc 1]]]) ?_ key.h
              refine weak.mk [] [0, 1, 2, 3] rfl rfl ?_ ?_
              repeat' first | exact trivial | exact rfl | exact Iff.rfl | assumption | refine And.intro ?_ ?_
          · by_cases g2 : crowd e3.1 e3.2
            · obtain ⟨k1, k2, k3, k4⟩ := two_facts g2
              refine callW.mk [] 20 _ _ _ (hq) rfl rfl okk nofun ?_; refine callW.mk [] 20 _ _ _ (hq2) rfl rfl okk nofun ?_; iterate 3 refine tN okn ?_
              refine tY oky ?_; refine callW.mk [] 20 _ _ _ (FirstForm_c _ _ okd) rfl rfl trivial nofun ?_; iterate 5 refine Z ?_
              refine callW.mk [] 22 _ _ _ (FirstForm_c _ _ okd) rfl rfl trivial nofun ?_; iterate 5 refine Z ?_
              iterate 2 refine tN okn ?_
              refine callW.mk [] 24 _ _ _ (rCrowd_c _ _ _ _ okd okd) rfl rfl trivial nofun ?_; refine tN okn ?_; refine callW.mk [] 24 _ _ _ (rCrowd_c _ _ _ _ okd okd) rfl rfl trivial nofun ?_; refine tN okn ?_; iterate 2 refine tY oky ?_
              rotate_left; refine LoopW.weaken (ts' := [.unk, .unk, .ff, .prow 2 0 0, .prow 3 0 0, pr ((crowd e1.1.1 e1.1.2 ∧ crowd e1.2.1 e1.2.2) ∧ e1.1.1 = e1.2.1 ∧ formR e1.1.1 e1.1.2 = formR e1.2.1 e1.2.2), pr (crowd e1.1.1 e1.1.2 ∧ crowd e1.2.1 e1.2.2), .unk, .unk, .unk, .unk, .unk, .unk, .unk, .unk, .unk, .unk, .unk, .unk, .unk, .unk, .unk, .unk, .unk, i64 (m : Int), i64 (q : Int), i64 (cfR m q), pr (cfOk m q), .unk, .unk, .unk, .unk, .unk, .unk, .unk, .unk, .unk, .unk, .unk, .unk, i64 0, i64 0, .unk, .unk, .unk, .unk, .unk, .unk, .unk, .unk, .unk, .unk, .unk, .unk, .unk, .unk, .unk, .unk, .unk, .unk, .unk, .unk, .unk, .unk, .unk, .unk, .unk, .unk, .unk, .unk, .unk, .unk, .unk, .unk, .unk, .unk, .unk, .unk, .unk, .unk, .unk, .unk, .unk, .unk, .unk, .unk, .unk, .unk, .unk, .unk, .unk, .unk, .unk, .unk, .unk, .unk, .unk, .unk, .unk, .unk, .unk, .unk, .unk, .unk, .unk, .unk, .unk, .unk, .unk, .unk, .unk, .unk, .unk, .unk, .unk, .unk, .unk, .unk, .unk, .unk, .unk, .unk, .unk, .unk, .unk, .unk, .unk, .unk, .unk, .unk, .unk, .unk, .unk, .unk, .unk, .unk, .unk, .unk, .unk, .unk, .unk, .unk, .unk, .unk, .unk, .unk, .unk, .unk, .unk, .unk, .unk, .unk, .unk, .unk, .unk, .unk, .unk, .unk, .unk, .unk, .unk, .unk, .unk, .unk, .unk, .unk, .unk, .unk, .unk, .unk, .unk, .unk, .unk, .unk, .unk, .unk, .unk, .unk, .unk, .unk, .unk, .unk, .unk, .unk, .unk, .unk, .unk, .unk, .unk, .unk, .unk, .unk, .unk, .unk, .unk, .unk, .unk, .unk, .unk, .unk, .unk, .unk, .unk, .unk, .unk, .unk, .unk, .unk, .unk, .unk, .unk, .unk, .unk, .unk, .unk, .unk, .unk, .unk, .unk, .unk, .unk, .unk, .unk, .unk, .unk, .unk, .unk, .unk, .unk, .unk, .unk, .unk, .unk, .unk, .unk, .unk, .unk, .unk, .unk, .unk, .unk, .unk, .unk, .unk, .unk, .unk, .unk, .unk, .unk, .unk, .unk, .unk, .unk, .unk, .unk, .unk, .unk, .unk, .unk, .unk, .unk, .unk, .unk, .unk, .unk, .unk, .unk, .unk, .unk, .unk, .unk, .unk, .unk, .unk, .unk, .unk, .unk, .unk, .unk, .unk, .unk, .unk, .unk, .unk, .unk, .unk, .unk, .unk, .unk, .unk, .unk, .unk, .unk, .unk, .unk, .unk, .unk, .unk, .unk, .unk, .unk, .unk, .unk, .unk, .unk, .unk, .unk, .unk, .unk, .unk, .unk, .unk, .unk, .unk, .unk, .unk, .unk, .unk, .unk, .unk]) (tab' := [row e1.1.2, row e1.2.2, .row .var 2 [.agg [i64 e1.1.1, .loc 0]], .row .var 2 [.agg [i64 e1.2.1, .loc 1]]]) ?_ key.h
              refine weak.mk [] [0, 1, 2, 3] rfl rfl ?_ ?_
              repeat' first | exact trivial | exact rfl | exact Iff.rfl | assumption | refine And.intro ?_ ?_
            · refine callW.mk [] 20 _ _ _ (hq) rfl rfl okk nofun ?_
              refine callW.mk [] 20 _ _ _ (hq2) rfl rfl okk nofun ?_; iterate 4 refine tN okn ?_
              iterate 2 refine tY oky ?_
              rotate_left; refine LoopW.weaken (ts' := [.unk, .unk, .ff, .prow 2 0 0, .prow 3 0 0, pr ((crowd e1.1.1 e1.1.2 ∧ crowd e1.2.1 e1.2.2) ∧ e1.1.1 = e1.2.1 ∧ formR e1.1.1 e1.1.2 = formR e1.2.1 e1.2.2), pr (crowd e1.1.1 e1.1.2 ∧ crowd e1.2.1 e1.2.2), .unk, .unk, .unk, .unk, .unk, .unk, .unk, .unk, .unk, .unk, .unk, .unk, .unk, .unk, .unk, .unk, .unk, i64 (m : Int), i64 (q : Int), i64 (cfR m q), pr (cfOk m q), .unk, .unk, .unk, .unk, .unk, .unk, .unk, .unk, .unk, .unk, .unk, .unk, i64 0, i64 0, .unk, .unk, .unk, .unk, .unk, .unk, .unk, .unk, .unk, .unk, .unk, .unk, .unk, .unk, .unk, .unk, .unk, .unk, .unk, .unk, .unk, .unk, .unk, .unk, .unk, .unk, .unk, .unk, .unk, .unk, .unk, .unk, .unk, .unk, .unk, .unk, .unk, .unk, .unk, .unk, .unk, .unk, .unk, .unk, .unk, .unk, .unk, .unk, .unk, .unk, .unk, .unk, .unk, .unk, .unk, .unk, .unk, .unk, .unk, .unk, .unk, .unk, .unk, .unk, .unk, .unk, .unk, .unk, .unk, .unk, .unk, .unk, .unk, .unk, .unk, .unk, .unk, .unk, .unk, .unk, .unk, .unk, .unk, .unk, .unk, .unk, .unk, .unk, .unk, .unk, .unk, .unk, .unk, .unk, .unk, .unk, .unk, .unk, .unk, .unk, .unk, .unk, .unk, .unk, .unk, .unk, .unk, .unk, .unk, .unk, .unk, .unk, .unk, .unk, .unk, .unk, .unk, .unk, .unk, .unk, .unk, .unk, .unk, .unk, .unk, .unk, .unk, .unk, .unk, .unk, .unk, .unk, .unk, .unk, .unk, .unk, .unk, .unk, .unk, .unk, .unk, .unk, .unk, .unk, .unk, .unk, .unk, .unk, .unk, .unk, .unk, .unk, .unk, .unk, .unk, .unk, .unk, .unk, .unk, .unk, .unk, .unk, .unk, .unk, .unk, .unk, .unk, .unk, .unk, .unk, .unk, .unk, .unk, .unk, .unk, .unk, .unk, .unk, .unk, .unk, .unk, .unk, .unk, .unk, .unk, .unk, .unk, .unk, .unk, .unk, .unk, .unk, .unk, .unk, .unk, .unk, .unk, .unk, .unk, .unk, .unk, .unk, .unk, .unk, .unk, .unk, .unk, .unk, .unk, .unk, .unk, .unk, .unk, .unk, .unk, .unk, .unk, .unk, .unk, .unk, .unk, .unk, .unk, .unk, .unk, .unk, .unk, .unk, .unk, .unk, .unk, .unk, .unk, .unk, .unk, .unk, .unk, .unk, .unk, .unk, .unk, .unk, .unk, .unk, .unk, .unk, .unk, .unk, .unk, .unk, .unk, .unk, .unk, .unk, .unk, .unk, .unk, .unk, .unk, .unk, .unk, .unk, .unk, .unk, .unk, .unk, .unk, .unk, .unk, .unk, .unk, .unk, .unk, .unk, .unk, .unk, .unk, .unk]) (tab' := [row e1.1.2, row e1.2.2, .row .var 2 [.agg [i64 e1.1.1, .loc 0]], .row .var 2 [.agg [i64 e1.2.1, .loc 1]]]) ?_ key.h
              refine weak.mk [] [0, 1, 2, 3] rfl rfl ?_ ?_
              repeat' first | exact trivial | exact rfl | exact Iff.rfl | assumption | refine And.intro ?_ ?_
        · have hn8 : 3 ≤ m ∧ m ≤ 8 := by have := gc.1; omega
          have hq6 : 1 ≤ q ∧ q ≤ 6 := by have := gc.2; omega
          have hM := pow12 (m := m) (by omega)
          have hsh := shl_e (m := m) (by omega)
          have hcf : cfR m q = ((cfK m q (2 ^ m) : Nat) : Int) := by rw [cf_yes gc]; simp only [Int.toNat_natCast]
          have hbe := burn_eq hn8 hq6.2
          have hbl := burnK_le m q (2 ^ m)
          obtain ⟨M, hMe⟩ : ∃ M : Nat, 2 ^ m = M := ⟨_, rfl⟩
          rw [hMe] at hM hsh hcf hbe hbl
          have hcm := cfK_le m q M
          have hmul : cfR m q * 2 * (m : Int) = ((burnK m q M : Nat) : Int) := by rw [hcf, hbe]; push_cast; rfl
          have hb8 : burnK m q M ≤ 65536 := Nat.le_trans hbl (Nat.le_trans (Nat.mul_le_mul (show 2 * m ≤ 16 by omega) hM) (by decide))
          refine loop_up (β := Nat) (fun c => [(40, i64 ((burnK m q c : Nat) : Int)), (41, i64 c), (2, .unk)]) (fun c => []) [] (fun c => c ≤ M) (fun c => M - c) (0) ?_ ?_ ?_
          · exact Nat.zero_le _
          · refine weak.mk [] [0, 1, 2, 3] rfl rfl ?_ ?_
            repeat' first | exact trivial | exact rfl | exact Iff.rfl | assumption | exact pureI | exact (show _ = _ by omega) | exact (show _ ≤ _ by omega) | exact (show _ < _ by omega) | exact (show ¬ _ by omega) | refine And.intro ?_ ?_
          · rintro c hc R hR
            have hbc := burnK_le m q c
            have hbc8 : burnK m q c ≤ 65536 := Nat.le_trans hbc (Nat.le_trans (Nat.mul_le_mul (show 2 * m ≤ 16 by omega) (Nat.le_trans hc hM)) (by decide))
            by_cases hcM : c < M
            · refine And.intro (by omega) ?_
              refine nw (by omega) (by omega) ?_; refine tY oky ?_; iterate 14 refine Z ?_
              rotate_left; refine loop_up (β := Nat) (fun p => [(43, i64 p)]) (fun p => [(4, .row .var 2 [.agg [i64 m, .loc 5]]), (5, row (bitsK c p))]) [1] (fun p => p ≤ m) (fun p => m - p) (0) ?_ ?_ ?_
              · exact Nat.zero_le _
              · refine weak.mk [1] [0, 1, 2, 3, 4, 5] rfl rfl ?_ ?_
                repeat' first | exact trivial | exact rfl | exact Iff.rfl | assumption | refine And.intro ?_ ?_
              · rintro p hp R2 hR2
                have hbl2 := bitsK_len c p
                by_cases hpm : p < m
                · have hbit := bit_e (c := c) (p := p) (by omega) (by omega)
                  by_cases hb : c / 2 ^ p % 2 = 1
                  · have hb1 := bitsK_yes hb
                    rw [hb] at hbit
                    refine tY oky ?_; refine And.intro (by omega) ?_; iterate 2 refine nr ?_
                    refine tY oky ?_; iterate 11 refine Z ?_
                    refine lem1 (by omega) ?_; refine ea ?_; iterate 5 refine Z ?_
                    refine nw (by omega) (by omega) ?_; rotate_left; refine hR2 (p + 1) _ _ ?_ ?_; rotate_left; refine weak.mk [] [0, 1, 2, 3, 4, 7] rfl rfl ?_ ?_
                    repeat' first | exact trivial | exact rfl | exact Iff.rfl | assumption | exact pureI | exact (show _ = _ by omega) | exact (show _ ≤ _ by omega) | exact (show _ < _ by omega) | exact (show ¬ _ by omega) | refine And.intro ?_ ?_
                    rotate_right
                    · exact ⟨by omega, by omega⟩
                    all_goals (first | exact congrArg (List.map i64) hb1.symm | skip)
                  · have hb1 := bitsK_no hb
                    have hbit2 : ¬ bitsOp .and .i64 (((c : Nat) : Int).fdiv (2 ^ min ((p : Nat) : Int).toNat Go.IntKind.i64.bits)) 1 = 1 := by rw [hbit]; omega
                    refine tY oky ?_; refine And.intro (by omega) ?_; iterate 2 refine nr ?_
                    refine tN okn ?_; refine nw (by omega) (by omega) ?_; rotate_left; refine hR2 (p + 1) _ _ ?_ ?_; rotate_left; refine weak.mk [] [0, 1, 2, 3, 4, 5] rfl rfl ?_ ?_
                    repeat' first | exact trivial | exact rfl | exact Iff.rfl | assumption | exact pureI | exact (show _ = _ by omega) | exact (show _ ≤ _ by omega) | exact (show _ < _ by omega) | exact (show ¬ _ by omega) | refine And.intro ?_ ?_
                    rotate_right
                    · exact ⟨by omega, by omega⟩
                    all_goals (first | exact congrArg (List.map i64) hb1.symm | skip)
                · obtain rfl : p = m := by omega
                  by_cases hl : (bitsK c p).length = q
                  · have hcr : crowd p (bitsK c p) := by
                      have := bits_crowd (n := (p : Int)) (c := c) ⟨by omega, by omega⟩ (by rw [Int.toNat_natCast]; omega)
                      rwa [Int.toNat_natCast] at this
                    have hy := burnK_yes hl
                    have hpe : poR p (bitsK c p) = ((perN p (bitsK c p) : Nat) : Int) := by rw [po_yes hcr, perN_eq hcr]
                    have hpp : 0 < perN p (bitsK c p) := by unfold perN; split <;> omega
                    have hdv : ((p : Nat) : Int) / poR p (bitsK c p) = ((p / perN p (bitsK c p) : Nat) : Int) := by rw [hpe]; norm_cast
                    have hdl : p / perN p (bitsK c p) ≤ p := Nat.div_le_self _ _
                    have hal : (aoR p (bitsK c p)).length = (axK p (bitsK c p) p).length := by rw [ao_yes hcr]; unfold axL; rw [Int.toNat_natCast]
                    have hall := axK_le p (bitsK c p) p
                    refine tN okn ?_; refine Z ?_; refine lm ?_; refine tN okn ?_; refine callW.mk [] 6 _ _ _ (PeriodOf_c _ _ okd) rfl rfl trivial nofun ?_; refine callW.mk [] 6 _ _ _ (AxesOf_c _ _ okd) rfl rfl trivial nofun ?_; iterate 3 refine tN okn ?_
                    refine And.intro (by omega) ?_; refine ntd (by omega) (by omega) (by omega) ?_; refine nw (by omega) (by omega) ?_; refine lm ?_; iterate 2 refine nw (by omega) (by omega) ?_
                    rotate_left; refine hR (c + 1) _ _ ?_ (weak.mk [] [0, 1, 2, 3] rfl rfl ?_ ?_)
                    repeat' first | exact trivial | exact rfl | exact Iff.rfl | assumption | refine And.intro ?_ ?_
                    · exact ⟨by omega, by omega⟩
                    all_goals (first | omega | skip)
                  · have hy := burnK_no hl
                    refine tN okn ?_; refine Z ?_; refine lm ?_; refine tY oky ?_; refine nw (by omega) (by omega) ?_; rotate_left; refine hR (c + 1) _ _ ?_ (weak.mk [] [0, 1, 2, 3] rfl rfl ?_ ?_)
                    repeat' first | exact trivial | exact rfl | exact Iff.rfl | assumption | refine And.intro ?_ ?_
                    · exact ⟨by omega, by omega⟩
                    all_goals (first | omega | skip)
            · obtain rfl : c = M := by omega
              refine And.intro (by omega) ?_; refine nw (by omega) (by omega) ?_; refine tN okn ?_; iterate 2 refine nw (by omega) (by omega) ?_
              iterate 2 refine tN okn ?_
              rotate_left
              all_goals exact dv0 rfl trivial
      · by_cases gc : cfOk e4.1 e4.2
        · have g9 : ¬ e4.1 < 9 := fun x => g49 ⟨gc, x⟩
          by_cases g1 : crowd e2.1.1 e2.1.2 ∧ 0 ≤ e2.2 ∧ e2.2 ≤ e2.1.1 - 1
          · obtain ⟨f1, f2, f3, f4, f5⟩ := one_facts g1
            by_cases g2 : crowd e3.1 e3.2
            · obtain ⟨k1, k2, k3, k4⟩ := two_facts g2
              refine callW.mk [] 20 _ _ _ (hq) rfl rfl okk nofun ?_; refine callW.mk [] 20 _ _ _ (hq2) rfl rfl okk nofun ?_; iterate 2 refine tN okn ?_
              refine tY oky ?_; refine callW.mk [] 20 _ _ _ (AreSameForm_c _ _ _ _ okd okd) rfl rfl trivial nofun ?_; iterate 2 refine callW.mk [] 20 _ _ _ (PeriodOf_c _ _ okd) rfl rfl trivial nofun ?_
              iterate 5 refine tN okn ?_
              refine tY oky ?_; refine callW.mk [] 20 _ _ _ (FirstForm_c _ _ okd) rfl rfl trivial nofun ?_; iterate 5 refine Z ?_
              refine callW.mk [] 22 _ _ _ (FirstForm_c _ _ okd) rfl rfl trivial nofun ?_; iterate 5 refine Z ?_
              iterate 2 refine tN okn ?_
              refine callW.mk [] 24 _ _ _ (rCrowd_c _ _ _ _ okd okd) rfl rfl trivial nofun ?_; refine tN okn ?_; refine callW.mk [] 24 _ _ _ (rCrowd_c _ _ _ _ okd okd) rfl rfl trivial nofun ?_; refine tN okn ?_; refine tY oky ?_; iterate 2 refine tN okn ?_
              rotate_left
              all_goals exact dv0 rfl trivial
            · refine callW.mk [] 20 _ _ _ (hq) rfl rfl okk nofun ?_
              refine callW.mk [] 20 _ _ _ (hq2) rfl rfl okk nofun ?_; iterate 2 refine tN okn ?_
              refine tY oky ?_; refine callW.mk [] 20 _ _ _ (AreSameForm_c _ _ _ _ okd okd) rfl rfl trivial nofun ?_; iterate 2 refine callW.mk [] 20 _ _ _ (PeriodOf_c _ _ okd) rfl rfl trivial nofun ?_
              iterate 6 refine tN okn ?_
              refine tY oky ?_; iterate 2 refine tN okn ?_
              rotate_left
              all_goals exact dv0 rfl trivial
          · by_cases g2 : crowd e3.1 e3.2
            · obtain ⟨k1, k2, k3, k4⟩ := two_facts g2
              refine callW.mk [] 20 _ _ _ (hq) rfl rfl okk nofun ?_; refine callW.mk [] 20 _ _ _ (hq2) rfl rfl okk nofun ?_; iterate 3 refine tN okn ?_
              refine tY oky ?_; refine callW.mk [] 20 _ _ _ (FirstForm_c _ _ okd) rfl rfl trivial nofun ?_; iterate 5 refine Z ?_
              refine callW.mk [] 22 _ _ _ (FirstForm_c _ _ okd) rfl rfl trivial nofun ?_; iterate 5 refine Z ?_
              iterate 2 refine tN okn ?_
              refine callW.mk [] 24 _ _ _ (rCrowd_c _ _ _ _ okd okd) rfl rfl trivial nofun ?_; refine tN okn ?_; refine callW.mk [] 24 _ _ _ (rCrowd_c _ _ _ _ okd okd) rfl rfl trivial nofun ?_; refine tN okn ?_; refine tY oky ?_; iterate 2 refine tN okn ?_
              rotate_left
              all_goals exact dv0 rfl trivial
            · refine callW.mk [] 20 _ _ _ (hq) rfl rfl okk nofun ?_
              refine callW.mk [] 20 _ _ _ (hq2) rfl rfl okk nofun ?_; iterate 4 refine tN okn ?_
              refine tY oky ?_; iterate 2 refine tN okn ?_
              rotate_left
              all_goals exact dv0 rfl trivial
        · by_cases g1 : crowd e2.1.1 e2.1.2 ∧ 0 ≤ e2.2 ∧ e2.2 ≤ e2.1.1 - 1
          · obtain ⟨f1, f2, f3, f4, f5⟩ := one_facts g1
            by_cases g2 : crowd e3.1 e3.2
            · obtain ⟨k1, k2, k3, k4⟩ := two_facts g2
              refine callW.mk [] 20 _ _ _ (hq) rfl rfl okk nofun ?_; refine callW.mk [] 20 _ _ _ (hq2) rfl rfl okk nofun ?_; iterate 2 refine tN okn ?_
              refine tY oky ?_; refine callW.mk [] 20 _ _ _ (AreSameForm_c _ _ _ _ okd okd) rfl rfl trivial nofun ?_; iterate 2 refine callW.mk [] 20 _ _ _ (PeriodOf_c _ _ okd) rfl rfl trivial nofun ?_
              iterate 5 refine tN okn ?_
              refine tY oky ?_; refine callW.mk [] 20 _ _ _ (FirstForm_c _ _ okd) rfl rfl trivial nofun ?_; iterate 5 refine Z ?_
              refine callW.mk [] 22 _ _ _ (FirstForm_c _ _ okd) rfl rfl trivial nofun ?_; iterate 5 refine Z ?_
              iterate 2 refine tN okn ?_
              refine callW.mk [] 24 _ _ _ (rCrowd_c _ _ _ _ okd okd) rfl rfl trivial nofun ?_; refine tN okn ?_; refine callW.mk [] 24 _ _ _ (rCrowd_c _ _ _ _ okd okd) rfl rfl trivial nofun ?_; iterate 3 refine tN okn ?_
              rotate_left
              all_goals exact dv0 rfl trivial
            · refine callW.mk [] 20 _ _ _ (hq) rfl rfl okk nofun ?_
              refine callW.mk [] 20 _ _ _ (hq2) rfl rfl okk nofun ?_; iterate 2 refine tN okn ?_
              refine tY oky ?_; refine callW.mk [] 20 _ _ _ (AreSameForm_c _ _ _ _ okd okd) rfl rfl trivial nofun ?_; iterate 2 refine callW.mk [] 20 _ _ _ (PeriodOf_c _ _ okd) rfl rfl trivial nofun ?_
              iterate 8 refine tN okn ?_
              rotate_left
              all_goals exact dv0 rfl trivial
          · by_cases g2 : crowd e3.1 e3.2
            · obtain ⟨k1, k2, k3, k4⟩ := two_facts g2
              refine callW.mk [] 20 _ _ _ (hq) rfl rfl okk nofun ?_; refine callW.mk [] 20 _ _ _ (hq2) rfl rfl okk nofun ?_; iterate 3 refine tN okn ?_
              refine tY oky ?_; refine callW.mk [] 20 _ _ _ (FirstForm_c _ _ okd) rfl rfl trivial nofun ?_; iterate 5 refine Z ?_
              refine callW.mk [] 22 _ _ _ (FirstForm_c _ _ okd) rfl rfl trivial nofun ?_; iterate 5 refine Z ?_
              iterate 2 refine tN okn ?_
              refine callW.mk [] 24 _ _ _ (rCrowd_c _ _ _ _ okd okd) rfl rfl trivial nofun ?_; refine tN okn ?_; refine callW.mk [] 24 _ _ _ (rCrowd_c _ _ _ _ okd okd) rfl rfl trivial nofun ?_; iterate 3 refine tN okn ?_
              rotate_left
              all_goals exact dv0 rfl trivial
            · refine callW.mk [] 20 _ _ _ (hq) rfl rfl okk nofun ?_
              refine callW.mk [] 20 _ _ _ (hq2) rfl rfl okk nofun ?_; iterate 6 refine tN okn ?_
              rotate_left
              all_goals exact dv0 rfl trivial
end Sx
