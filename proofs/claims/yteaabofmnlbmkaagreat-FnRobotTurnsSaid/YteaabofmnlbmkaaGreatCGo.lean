/- Contracts: the law of turns by a rule. -/
import Derived.Test.YteaabofmnlbmkaaGreatSyC
import Derived.Test.YteaabofmnlbmkaaGreatCGn
import Derived.Test.YteaabofmnlbmkaaGreatCGa
import Derived.Test.YteaabofmnlbmkaaGreatCGe
import Derived.Test.YteaabofmnlbmkaaGreatCSd
import Derived.Test.YteaabofmnlbmkaaGreatCSe
import Derived.Test.YteaabofmnlbmkaaGreatCSf
import Derived.Test.YteaabofmnlbmkaaGreatCTb
set_option linter.all false
namespace Sx
open Go Go.Proofs
set_option maxRecDepth 100000
set_option maxHeartbeats 8000000
set_option linter.unusedSimpArgs false
set_option linter.unusedSectionVars false
variable [Glb]
theorem rCrowdT_c (n m : Int) (a b : List Int) (ha : a.length ≤ 1099511627776) (hb : b.length ≤ 1099511627776) : C 31 [.agg [i64 n, ints a], .agg [i64 m, ints b]] [] (pr (n = m ∧ a = b)) [] false := by
  refine mkC false false Tryz.func31 rfl ?_; refine And.intro nofun ?_
  by_cases h : n = m
  · iterate 4 refine Z ?_
    refine tY oky ?_; iterate 2 refine Z ?_
    refine callW.mk [] 2 _ _ _ (rInts_c _ _ oka oka) rfl rfl trivial nofun ?_; rotate_left; refine doneV.mk [] [] rfl rfl ?_ ?_ ?_
    repeat' first | exact trivial | exact rfl | exact Iff.rfl | assumption | exact pureI | exact (show _ = _ by omega) | exact (show _ ≤ _ by omega) | exact (show _ < _ by omega) | exact (show ¬ _ by omega) | refine And.intro ?_ ?_
    all_goals exact Iff.intro (fun x => ⟨h, x⟩) (fun x => x.2)
  · iterate 4 refine Z ?_
    refine tN okn ?_; rotate_left; refine doneV.mk [] [] rfl rfl ?_ ?_ ?_
    repeat' first | exact trivial | exact rfl | exact Iff.rfl | assumption | exact pureI | exact (show _ = _ by omega) | exact (show _ ≤ _ by omega) | exact (show _ < _ by omega) | exact (show ¬ _ by omega) | refine And.intro ?_ ?_
    all_goals exact fun x => h x.1
theorem sIsRobotRule_c (r : List Int) (hr : r.length ≤ 1099511627776) : C 40 [ints r] [] (pr (isRule r)) [] false := by
  refine mkC false false Tryz.func40 rfl ?_; refine And.intro nofun ?_; refine callW.mk [] 0 _ _ _ (l10Rule_c _ oka) rfl rfl trivial nofun ?_; rotate_left; refine doneV.mk [] [] rfl rfl ?_ ?_ ?_
  repeat' first | exact trivial | exact rfl | exact Iff.rfl | assumption | exact pureI | exact (show _ = _ by omega) | exact (show _ ≤ _ by omega) | exact (show _ < _ by omega) | exact (show ¬ _ by omega) | refine And.intro ?_ ?_
theorem tcL_t (n s : Int) (l : List Int) : (tcL n s l).length ≤ 1099511627776 := by
  by_cases h : crowd n l ∧ 0 ≤ s ∧ s ≤ n - 1
  · rw [(tc_yes h).2, (trn_crowd h.1).2]; have := h.1.1; omega
  · rw [(tc_no h).2]; exact Nat.zero_le _
theorem mcL_t (n : Int) (l : List Int) : (mcL n l).length ≤ 1099511627776 := by
  by_cases h : crowd n l
  · rw [(mc_yes h).2, (mir_crowd h).2]; have := h.1; omega
  · rw [(mc_no h).2]; exact Nat.zero_le _
theorem scL_t (n : Int) (l r : List Int) : (scL n l r).length ≤ 1099511627776 := by
  by_cases h : crowd n l ∧ isRule r
  · rw [(sc_yes h).2]; have := stL_len (r := r) h.1; have := h.1.1; omega
  · rw [(sc_no h).2]; exact Nat.zero_le _
theorem rcL_t (n : Int) (l r : List Int) (t : Int) : (rcL n l r t).length ≤ 1099511627776 := by
  by_cases h : rcOk n l r t
  · rw [(rc_yes h).2.1, (run_crowd h.1 _).2]; have := h.1.1; omega
  · rw [(rc_no h).2.1]; exact Nat.zero_le _
theorem crowd_few {n : Int} {l : List Int} (hc : crowd n l) : (l.length : Int) ≤ n := by
  have hn := hc.1.1
  have := nodup_lt (N := n.toNat) (L := l.map Int.toNat) (by
    rw [List.Nodup, List.pairwise_map]
    refine List.Pairwise.imp_of_mem (fun {a b} ha hb hne e => ?_) (rise_pw hc.2.2)
    have h1 := hc.2.1 a ha
    have h2 := hc.2.1 b hb
    omega) fun x hx => by
    obtain ⟨y, hy, rfl⟩ := List.mem_map.1 hx
    have := hc.2.1 y hy
    omega
  rw [List.length_map] at this
  omega
theorem found_facts {n : Int} {l r : List Int} (h : crowd n l ∧ isRule r) : cfOk n (l.length : Int) ∧ 1 ≤ foR n l r ∧ foR n l r ≤ cfR n (l.length : Int) := by
  have hc := h.1
  have hf := crowd_few hc
  have hk : cfOk n (l.length : Int) := ⟨hc.1.1, hc.1.2.1, by have := hc.1.2.2; omega⟩
  have hb := foN_bd (r := r) hc
  rw [fo_yes h, cf_yes hk, Int.toNat_natCast]
  exact ⟨hk, by omega, by omega⟩
theorem run_facts {n t : Int} {l r : List Int} (h : rcOk n l r t) : rcD n l r t ≤ t ∧ (rcD n l r t < t → ¬ (crowd (rcN n l r t) (rcL n l r t) ∧ isRule r ∧ stepOk (rcN n l r t) (rcL n l r t) r)) := by
  obtain ⟨m, rfl⟩ : ∃ m : Nat, t = m := ⟨t.toNat, by have := h.2.2; omega⟩
  rw [(rc_yes h).1, (rc_yes h).2.1, (rc_yes h).2.2, Int.toNat_natCast]
  have := runD_le n l r m
  exact ⟨by omega, fun g x => run_ends m (by omega) x.2.2⟩
theorem sc_both {n : Int} {l r : List Int} (hc : crowd n l) (hr : isRule r) (hs : stepOk n l r) : scN n l r = n ∧ scL n l r = srt n (tgts n l r l.length) := by
  rw [(sc_yes ⟨hc, hr⟩).1, (sc_yes ⟨hc, hr⟩).2]
  exact st_yes hs
theorem step_facts {n : Int} {l r : List Int} (hc : crowd n l) (hr : isRule r) : ((crowd (tcN n 1 l) (tcL n 1 l) ∧ isRule r ∧ stepOk (tcN n 1 l) (tcL n 1 l) r) ↔ (crowd n l ∧ isRule r ∧ stepOk n l r)) ∧ ((crowd (mcN n l) (mcL n l) ∧ isRule r ∧ stepOk (mcN n l) (mcL n l) r) ↔ (crowd n l ∧ isRule r ∧ stepOk n l r)) := by
  have h : crowd n l ∧ (0 : Int) ≤ 1 ∧ 1 ≤ n - 1 := ⟨hc, by omega, by have := hc.1.1; omega⟩
  rw [(tc_yes h).1, (tc_yes h).2, (mc_yes hc).1, (mc_yes hc).2]
  have h1 := (step_trn hc hr).1
  have h2 := (step_mir hc hr).1
  exact ⟨⟨fun x => ⟨hc, hr, h1.1 x.2.2⟩, fun x => ⟨(trn_crowd hc).1, hr, h1.2 x.2.2⟩⟩, ⟨fun x => ⟨hc, hr, h2.1 x.2.2⟩, fun x => ⟨(mir_crowd hc).1, hr, h2.2 x.2.2⟩⟩⟩
theorem next_facts {n : Int} {l r : List Int} (hc : crowd n l) (hr : isRule r) (hs : stepOk n l r) :
    (crowd (scN n l r) (scL n l r) ∧ (0 : Int) ≤ 1 ∧ 1 ≤ scN n l r - 1) ∧ crowd (scN n l r) (scL n l r) ∧ scN n l r = n ∧
    (tcN (scN n l r) 1 (scL n l r) = scN (tcN n 1 l) (tcL n 1 l) r ∧ tcL (scN n l r) 1 (scL n l r) = scL (tcN n 1 l) (tcL n 1 l) r) ∧
    (mcN (scN n l r) (scL n l r) = scN (mcN n l) (mcL n l) r ∧ mcL (scN n l r) (scL n l r) = scL (mcN n l) (mcL n l) r) ∧
    0 < poR (scN n l r) (scL n l r) ∧ poR n l % poR (scN n l r) (scL n l r) = 0 := by
  have hn := hc.1.1
  have h : crowd n l ∧ (0 : Int) ≤ 1 ∧ 1 ≤ n - 1 := ⟨hc, by omega, by omega⟩
  have hx := (step_crowd hc hs).1
  have hx1 : crowd n (srt n (tgts n l r l.length)) ∧ (0 : Int) ≤ 1 ∧ 1 ≤ n - 1 := ⟨hx, by omega, by omega⟩
  obtain ⟨a1, a2⟩ := step_trn hc hr
  obtain ⟨b1, b2⟩ := step_mir hc hr
  have hp := step_per hc hr hs
  rw [(sc_both hc hr hs).1, (sc_both hc hr hs).2, (tc_yes h).1, (tc_yes h).2, (mc_yes hc).1, (mc_yes hc).2, (tc_yes hx1).1, (tc_yes hx1).2, (mc_yes hx).1, (mc_yes hx).2,
    (sc_both (trn_crowd hc).1 hr (a1.2 hs)).1, (sc_both (trn_crowd hc).1 hr (a1.2 hs)).2, (sc_both (mir_crowd hc).1 hr (b1.2 hs)).1, (sc_both (mir_crowd hc).1 hr (b1.2 hs)).2, po_yes hx, po_yes hc, a2, b2]
  exact ⟨hx1, hx, rfl, ⟨rfl, rfl⟩, ⟨rfl, rfl⟩, hp.1, hp.2⟩
theorem FnRobotTurns_c (L : List UInt8) (hL : L.length ≤ 9223372036854775807) : C 4 [.sl 1 (L.map i8)] [] .tt [] false := by
  have sd1 := tcL_t
  have sd2 := mcL_t
  have sd3 := scL_t
  have sd4 := rcL_t
  refine mkC false false Tryz.func4 rfl ?_; refine And.intro nofun ?_
  by_cases hb : 65536 < (L.length : Int)
  · refine callW.mk [] 0 _ _ _ (rBig_c _ okd) rfl rfl trivial nofun ?_
    refine tY oky ?_; rotate_left; refine doneV.mk [] [] rfl rfl ?_ ?_ ?_
    repeat' first | exact trivial | exact rfl | exact Iff.rfl | assumption | exact pureI | exact (show _ = _ by omega) | exact (show _ ≤ _ by omega) | exact (show _ < _ by omega) | exact (show ¬ _ by omega) | refine And.intro ?_ ?_
  · refine callW.mk [] 0 _ _ _ (rBig_c _ okd) rfl rfl trivial nofun ?_
    refine tN okn ?_; refine callW.mkE [] [] 0 _ _ _ _ (DrawStepCrowd_c _ okd) rfl rfl okk (fun _ => ⟨rfl, rfl⟩) (fun _ _ => ?_); iterate 5 refine Z ?_
    refine callW.mk [] 1 _ _ _ (StepCrowd_c _ _ _ okd okd) rfl rfl trivial nofun ?_; iterate 5 refine Z ?_
    refine callW.mk [] 3 _ _ _ (sStepCrowd_c _ _ _ okd okd) rfl rfl trivial nofun ?_; iterate 5 refine Z ?_
    refine tN okn ?_; refine callW.mk [] 5 _ _ _ (rCrowdT_c _ _ _ _ okd okd) rfl rfl trivial nofun ?_; refine tN okn ?_; refine callW.mkE [] [] 5 _ _ _ _ (DrawRunCrowd_c _ okd) rfl rfl okk (fun _ => ⟨rfl, rfl⟩) (fun _ _ => ?_); iterate 5 refine Z ?_
    refine callW.mk [] 6 _ _ _ (RunCrowd_c _ _ _ _ okd okd) rfl rfl trivial nofun ?_; iterate 5 refine Z ?_
    refine callW.mk [] 8 _ _ _ (sRunCrowd_c _ _ _ _ okd okd) rfl rfl trivial nofun ?_; iterate 5 refine Z ?_
    iterate 2 refine tN okn ?_
    refine callW.mk [] 10 _ _ _ (rCrowdT_c _ _ _ _ okd okd) rfl rfl trivial nofun ?_; refine tN okn ?_; refine callW.mkE [] [] 10 _ _ _ _ (DrawFoundForms_c _ okd) rfl rfl okk (fun _ => ⟨rfl, rfl⟩) (fun _ _ => ?_); iterate 5 refine Z ?_
    refine callW.mk [] 11 _ _ _ (FoundForms_c _ _ _ okd okd) rfl rfl trivial nofun ?_; refine callW.mk [] 11 _ _ _ (sFoundForms_c _ _ _ okd okd) rfl rfl trivial nofun ?_; iterate 2 refine tN okn ?_
    refine callW.mkE [] [] 11 _ _ _ _ (DrawIsRobotRule_c _ okd) rfl rfl okk (fun _ => ⟨rfl, rfl⟩) (fun _ _ => ?_); rotate_left
    rename_i e1 h1 e2 h2 e3 h3 e4 h4
    have h4l := h4.h
    have hq := CountForms_k e3.1.1 (e3.1.2.length : Int)
    have hq2 := sCountForms_k e3.1.1 (e3.1.2.length : Int)
    by_cases hd : rcOk e2.1.1.1 e2.1.1.2 e2.1.2 e2.2
    · obtain ⟨d1, d2⟩ := run_facts hd
      by_cases hlt : rcD e2.1.1.1 e2.1.1.2 e2.1.2 e2.2 < e2.2
      · have d3 := d2 hlt
        by_cases ht : crowd e3.1.1 e3.1.2 ∧ isRule e3.2
        · obtain ⟨k1, k2, k3⟩ := found_facts ht
          by_cases hc : crowd e1.1.1 e1.1.2
          · have hcn := hc.1
            by_cases hr : isRule e1.2
            · have hcr := And.intro hc hr
              obtain ⟨i5, i6⟩ := step_facts hc hr
              have w1 : crowd e1.1.1 e1.1.2 ∧ (0 : Int) ≤ 1 ∧ 1 ≤ e1.1.1 - 1 := ⟨hc, by omega, by omega⟩
              by_cases hs : stepOk e1.1.1 e1.1.2 e1.2
              · have hok : crowd e1.1.1 e1.1.2 ∧ isRule e1.2 ∧ stepOk e1.1.1 e1.1.2 e1.2 := ⟨hc, hr, hs⟩
                obtain ⟨s7, s8, s13, s9, s10, s11, s12⟩ := next_facts hc hr hs
                have s15 : 0 < poR e1.1.1 e1.1.2 := by rw [po_yes hc]; exact (per_div hc).1
                refine callW.mk [] 11 _ _ _ (IsRobotRule_c _ okd) rfl rfl trivial nofun ?_; refine callW.mk [] 11 _ _ _ (sIsRobotRule_c _ okd) rfl rfl trivial nofun ?_; refine tN okn ?_; refine tY oky ?_; refine tN okn ?_; iterate 2 refine tY oky ?_
                refine callW.mk [] 11 _ _ _ (StepCrowd_c _ _ _ okd okd) rfl rfl trivial nofun ?_; iterate 5 refine Z ?_
                refine tN okn ?_; refine tY oky ?_; iterate 2 refine Z ?_
                refine lm ?_; refine callW.mk [] 13 _ _ _ (hq) rfl rfl okk nofun ?_; iterate 2 refine Z ?_
                refine lm ?_; refine callW.mk [] 13 _ _ _ (hq2) rfl rfl okk nofun ?_; iterate 5 refine tN okn ?_
                refine callW.mk [] 13 _ _ _ (IsCrowd_c _ _ okd) rfl rfl trivial nofun ?_; refine tN okn ?_; refine callW.mk [] 13 _ _ _ (IsRobotRule_c _ okd) rfl rfl trivial nofun ?_; refine tN okn ?_; refine callW.mk [] 13 _ _ _ (TurnCrowd_c _ _ _ okd okd) rfl rfl trivial nofun ?_; iterate 5 refine Z ?_
                refine callW.mk [] 15 _ _ _ (MirrorCrowd_c _ _ okd) rfl rfl trivial nofun ?_; iterate 5 refine Z ?_
                refine callW.mk [] 17 _ _ _ (StepCrowd_c _ _ _ okd okd) rfl rfl trivial nofun ?_; iterate 5 refine Z ?_
                refine callW.mk [] 19 _ _ _ (StepCrowd_c _ _ _ okd okd) rfl rfl trivial nofun ?_; iterate 5 refine Z ?_
                iterate 5 refine tN okn ?_
                refine callW.mk [] 21 _ _ _ (TurnCrowd_c _ _ _ okd okd) rfl rfl trivial nofun ?_; iterate 5 refine Z ?_
                refine callW.mk [] 23 _ _ _ (MirrorCrowd_c _ _ okd) rfl rfl trivial nofun ?_; iterate 5 refine Z ?_
                iterate 2 refine callW.mk [] 25 _ _ _ (PeriodOf_c _ _ okd) rfl rfl trivial nofun ?_
                iterate 4 refine tY oky ?_
                refine callW.mk [] 25 _ _ _ (rCrowdT_c _ _ _ _ okd okd) rfl rfl trivial nofun ?_; refine tY oky ?_; refine callW.mk [] 25 _ _ _ (rCrowdT_c _ _ _ _ okd okd) rfl rfl trivial nofun ?_; iterate 2 refine tY oky ?_
                refine And.intro (by omega) ?_; refine ntm (by omega) ?_; rotate_left
                all_goals exact dv0 rfl s12
              · have hok : ¬ (crowd e1.1.1 e1.1.2 ∧ isRule e1.2 ∧ stepOk e1.1.1 e1.1.2 e1.2) := fun x => hs x.2.2
                refine callW.mk [] 11 _ _ _ (IsRobotRule_c _ okd) rfl rfl trivial nofun ?_; refine callW.mk [] 11 _ _ _ (sIsRobotRule_c _ okd) rfl rfl trivial nofun ?_; refine tN okn ?_; refine tY oky ?_; refine tN okn ?_; iterate 2 refine tY oky ?_
                refine callW.mk [] 11 _ _ _ (StepCrowd_c _ _ _ okd okd) rfl rfl trivial nofun ?_; iterate 5 refine Z ?_
                refine tN okn ?_; refine tY oky ?_; iterate 2 refine Z ?_
                refine lm ?_; refine callW.mk [] 13 _ _ _ (hq) rfl rfl okk nofun ?_; iterate 2 refine Z ?_
                refine lm ?_; refine callW.mk [] 13 _ _ _ (hq2) rfl rfl okk nofun ?_; iterate 5 refine tN okn ?_
                refine callW.mk [] 13 _ _ _ (IsCrowd_c _ _ okd) rfl rfl trivial nofun ?_; refine tN okn ?_; refine callW.mk [] 13 _ _ _ (IsRobotRule_c _ okd) rfl rfl trivial nofun ?_; refine tN okn ?_; refine callW.mk [] 13 _ _ _ (TurnCrowd_c _ _ _ okd okd) rfl rfl trivial nofun ?_; iterate 5 refine Z ?_
                refine callW.mk [] 15 _ _ _ (MirrorCrowd_c _ _ okd) rfl rfl trivial nofun ?_; iterate 5 refine Z ?_
                refine callW.mk [] 17 _ _ _ (StepCrowd_c _ _ _ okd okd) rfl rfl trivial nofun ?_; iterate 5 refine Z ?_
                refine callW.mk [] 19 _ _ _ (StepCrowd_c _ _ _ okd okd) rfl rfl trivial nofun ?_; iterate 5 refine Z ?_
                iterate 4 refine tN okn ?_
                refine tY oky ?_; rotate_left
                all_goals exact dv0 rfl trivial
            · have hok : ¬ (crowd e1.1.1 e1.1.2 ∧ isRule e1.2 ∧ stepOk e1.1.1 e1.1.2 e1.2) := fun x => hr x.2.1
              refine callW.mk [] 11 _ _ _ (IsRobotRule_c _ okd) rfl rfl trivial nofun ?_; refine callW.mk [] 11 _ _ _ (sIsRobotRule_c _ okd) rfl rfl trivial nofun ?_; refine tN okn ?_; refine tY oky ?_; refine tN okn ?_; iterate 2 refine tY oky ?_
              refine callW.mk [] 11 _ _ _ (StepCrowd_c _ _ _ okd okd) rfl rfl trivial nofun ?_; iterate 5 refine Z ?_
              refine tN okn ?_; refine tY oky ?_; iterate 2 refine Z ?_
              refine lm ?_; refine callW.mk [] 13 _ _ _ (hq) rfl rfl okk nofun ?_; iterate 2 refine Z ?_
              refine lm ?_; refine callW.mk [] 13 _ _ _ (hq2) rfl rfl okk nofun ?_; iterate 5 refine tN okn ?_
              refine callW.mk [] 13 _ _ _ (IsCrowd_c _ _ okd) rfl rfl trivial nofun ?_; refine tN okn ?_; refine callW.mk [] 13 _ _ _ (IsRobotRule_c _ okd) rfl rfl trivial nofun ?_; refine tY oky ?_; rotate_left
              all_goals exact dv0 rfl hok
          · have hok : ¬ (crowd e1.1.1 e1.1.2 ∧ isRule e1.2 ∧ stepOk e1.1.1 e1.1.2 e1.2) := fun x => hc x.1
            refine callW.mk [] 11 _ _ _ (IsRobotRule_c _ okd) rfl rfl trivial nofun ?_; refine callW.mk [] 11 _ _ _ (sIsRobotRule_c _ okd) rfl rfl trivial nofun ?_; refine tN okn ?_; refine tY oky ?_; refine tN okn ?_; iterate 2 refine tY oky ?_
            refine callW.mk [] 11 _ _ _ (StepCrowd_c _ _ _ okd okd) rfl rfl trivial nofun ?_; iterate 5 refine Z ?_
            refine tN okn ?_; refine tY oky ?_; iterate 2 refine Z ?_
            refine lm ?_; refine callW.mk [] 13 _ _ _ (hq) rfl rfl okk nofun ?_; iterate 2 refine Z ?_
            refine lm ?_; refine callW.mk [] 13 _ _ _ (hq2) rfl rfl okk nofun ?_; iterate 5 refine tN okn ?_
            refine callW.mk [] 13 _ _ _ (IsCrowd_c _ _ okd) rfl rfl trivial nofun ?_; refine tY oky ?_; rotate_left
            all_goals exact dv0 rfl hok
        · by_cases hc : crowd e1.1.1 e1.1.2
          · have hcn := hc.1
            by_cases hr : isRule e1.2
            · have hcr := And.intro hc hr
              obtain ⟨i5, i6⟩ := step_facts hc hr
              have w1 : crowd e1.1.1 e1.1.2 ∧ (0 : Int) ≤ 1 ∧ 1 ≤ e1.1.1 - 1 := ⟨hc, by omega, by omega⟩
              by_cases hs : stepOk e1.1.1 e1.1.2 e1.2
              · have hok : crowd e1.1.1 e1.1.2 ∧ isRule e1.2 ∧ stepOk e1.1.1 e1.1.2 e1.2 := ⟨hc, hr, hs⟩
                obtain ⟨s7, s8, s13, s9, s10, s11, s12⟩ := next_facts hc hr hs
                have s15 : 0 < poR e1.1.1 e1.1.2 := by rw [po_yes hc]; exact (per_div hc).1
                refine callW.mk [] 11 _ _ _ (IsRobotRule_c _ okd) rfl rfl trivial nofun ?_; refine callW.mk [] 11 _ _ _ (sIsRobotRule_c _ okd) rfl rfl trivial nofun ?_; refine tN okn ?_; refine tY oky ?_; refine tN okn ?_; iterate 2 refine tY oky ?_
                refine callW.mk [] 11 _ _ _ (StepCrowd_c _ _ _ okd okd) rfl rfl trivial nofun ?_; iterate 5 refine Z ?_
                iterate 2 refine tN okn ?_
                refine callW.mk [] 13 _ _ _ (IsCrowd_c _ _ okd) rfl rfl trivial nofun ?_; refine tN okn ?_; refine callW.mk [] 13 _ _ _ (IsRobotRule_c _ okd) rfl rfl trivial nofun ?_; refine tN okn ?_; refine callW.mk [] 13 _ _ _ (TurnCrowd_c _ _ _ okd okd) rfl rfl trivial nofun ?_; iterate 5 refine Z ?_
                refine callW.mk [] 15 _ _ _ (MirrorCrowd_c _ _ okd) rfl rfl trivial nofun ?_; iterate 5 refine Z ?_
                refine callW.mk [] 17 _ _ _ (StepCrowd_c _ _ _ okd okd) rfl rfl trivial nofun ?_; iterate 5 refine Z ?_
                refine callW.mk [] 19 _ _ _ (StepCrowd_c _ _ _ okd okd) rfl rfl trivial nofun ?_; iterate 5 refine Z ?_
                iterate 5 refine tN okn ?_
                refine callW.mk [] 21 _ _ _ (TurnCrowd_c _ _ _ okd okd) rfl rfl trivial nofun ?_; iterate 5 refine Z ?_
                refine callW.mk [] 23 _ _ _ (MirrorCrowd_c _ _ okd) rfl rfl trivial nofun ?_; iterate 5 refine Z ?_
                iterate 2 refine callW.mk [] 25 _ _ _ (PeriodOf_c _ _ okd) rfl rfl trivial nofun ?_
                iterate 4 refine tY oky ?_
                refine callW.mk [] 25 _ _ _ (rCrowdT_c _ _ _ _ okd okd) rfl rfl trivial nofun ?_; refine tY oky ?_; refine callW.mk [] 25 _ _ _ (rCrowdT_c _ _ _ _ okd okd) rfl rfl trivial nofun ?_; iterate 2 refine tY oky ?_
                refine And.intro (by omega) ?_; refine ntm (by omega) ?_; rotate_left
                all_goals exact dv0 rfl s12
              · have hok : ¬ (crowd e1.1.1 e1.1.2 ∧ isRule e1.2 ∧ stepOk e1.1.1 e1.1.2 e1.2) := fun x => hs x.2.2
                refine callW.mk [] 11 _ _ _ (IsRobotRule_c _ okd) rfl rfl trivial nofun ?_; refine callW.mk [] 11 _ _ _ (sIsRobotRule_c _ okd) rfl rfl trivial nofun ?_; refine tN okn ?_; refine tY oky ?_; refine tN okn ?_; iterate 2 refine tY oky ?_
                refine callW.mk [] 11 _ _ _ (StepCrowd_c _ _ _ okd okd) rfl rfl trivial nofun ?_; iterate 5 refine Z ?_
                iterate 2 refine tN okn ?_
                refine callW.mk [] 13 _ _ _ (IsCrowd_c _ _ okd) rfl rfl trivial nofun ?_; refine tN okn ?_; refine callW.mk [] 13 _ _ _ (IsRobotRule_c _ okd) rfl rfl trivial nofun ?_; refine tN okn ?_; refine callW.mk [] 13 _ _ _ (TurnCrowd_c _ _ _ okd okd) rfl rfl trivial nofun ?_; iterate 5 refine Z ?_
                refine callW.mk [] 15 _ _ _ (MirrorCrowd_c _ _ okd) rfl rfl trivial nofun ?_; iterate 5 refine Z ?_
                refine callW.mk [] 17 _ _ _ (StepCrowd_c _ _ _ okd okd) rfl rfl trivial nofun ?_; iterate 5 refine Z ?_
                refine callW.mk [] 19 _ _ _ (StepCrowd_c _ _ _ okd okd) rfl rfl trivial nofun ?_; iterate 5 refine Z ?_
                iterate 4 refine tN okn ?_
                refine tY oky ?_; rotate_left
                all_goals exact dv0 rfl trivial
            · have hok : ¬ (crowd e1.1.1 e1.1.2 ∧ isRule e1.2 ∧ stepOk e1.1.1 e1.1.2 e1.2) := fun x => hr x.2.1
              refine callW.mk [] 11 _ _ _ (IsRobotRule_c _ okd) rfl rfl trivial nofun ?_; refine callW.mk [] 11 _ _ _ (sIsRobotRule_c _ okd) rfl rfl trivial nofun ?_; refine tN okn ?_; refine tY oky ?_; refine tN okn ?_; iterate 2 refine tY oky ?_
              refine callW.mk [] 11 _ _ _ (StepCrowd_c _ _ _ okd okd) rfl rfl trivial nofun ?_; iterate 5 refine Z ?_
              iterate 2 refine tN okn ?_
              refine callW.mk [] 13 _ _ _ (IsCrowd_c _ _ okd) rfl rfl trivial nofun ?_; refine tN okn ?_; refine callW.mk [] 13 _ _ _ (IsRobotRule_c _ okd) rfl rfl trivial nofun ?_; refine tY oky ?_; rotate_left
              all_goals exact dv0 rfl hok
          · have hok : ¬ (crowd e1.1.1 e1.1.2 ∧ isRule e1.2 ∧ stepOk e1.1.1 e1.1.2 e1.2) := fun x => hc x.1
            refine callW.mk [] 11 _ _ _ (IsRobotRule_c _ okd) rfl rfl trivial nofun ?_; refine callW.mk [] 11 _ _ _ (sIsRobotRule_c _ okd) rfl rfl trivial nofun ?_; refine tN okn ?_; refine tY oky ?_; refine tN okn ?_; iterate 2 refine tY oky ?_
            refine callW.mk [] 11 _ _ _ (StepCrowd_c _ _ _ okd okd) rfl rfl trivial nofun ?_; iterate 5 refine Z ?_
            iterate 2 refine tN okn ?_
            refine callW.mk [] 13 _ _ _ (IsCrowd_c _ _ okd) rfl rfl trivial nofun ?_; refine tY oky ?_; rotate_left
            all_goals exact dv0 rfl hok
      · by_cases ht : crowd e3.1.1 e3.1.2 ∧ isRule e3.2
        · obtain ⟨k1, k2, k3⟩ := found_facts ht
          by_cases hc : crowd e1.1.1 e1.1.2
          · have hcn := hc.1
            by_cases hr : isRule e1.2
            · have hcr := And.intro hc hr
              obtain ⟨i5, i6⟩ := step_facts hc hr
              have w1 : crowd e1.1.1 e1.1.2 ∧ (0 : Int) ≤ 1 ∧ 1 ≤ e1.1.1 - 1 := ⟨hc, by omega, by omega⟩
              by_cases hs : stepOk e1.1.1 e1.1.2 e1.2
              · have hok : crowd e1.1.1 e1.1.2 ∧ isRule e1.2 ∧ stepOk e1.1.1 e1.1.2 e1.2 := ⟨hc, hr, hs⟩
                obtain ⟨s7, s8, s13, s9, s10, s11, s12⟩ := next_facts hc hr hs
                have s15 : 0 < poR e1.1.1 e1.1.2 := by rw [po_yes hc]; exact (per_div hc).1
                refine callW.mk [] 11 _ _ _ (IsRobotRule_c _ okd) rfl rfl trivial nofun ?_; refine callW.mk [] 11 _ _ _ (sIsRobotRule_c _ okd) rfl rfl trivial nofun ?_; refine tN okn ?_; refine tY oky ?_; refine tN okn ?_; refine tY oky ?_; refine tN okn ?_; refine tY oky ?_; iterate 2 refine Z ?_
                refine lm ?_; refine callW.mk [] 11 _ _ _ (hq) rfl rfl okk nofun ?_; iterate 2 refine Z ?_
                refine lm ?_; refine callW.mk [] 11 _ _ _ (hq2) rfl rfl okk nofun ?_; iterate 5 refine tN okn ?_
                refine callW.mk [] 11 _ _ _ (IsCrowd_c _ _ okd) rfl rfl trivial nofun ?_; refine tN okn ?_; refine callW.mk [] 11 _ _ _ (IsRobotRule_c _ okd) rfl rfl trivial nofun ?_; refine tN okn ?_; refine callW.mk [] 11 _ _ _ (TurnCrowd_c _ _ _ okd okd) rfl rfl trivial nofun ?_; iterate 5 refine Z ?_
                refine callW.mk [] 13 _ _ _ (MirrorCrowd_c _ _ okd) rfl rfl trivial nofun ?_; iterate 5 refine Z ?_
                refine callW.mk [] 15 _ _ _ (StepCrowd_c _ _ _ okd okd) rfl rfl trivial nofun ?_; iterate 5 refine Z ?_
                refine callW.mk [] 17 _ _ _ (StepCrowd_c _ _ _ okd okd) rfl rfl trivial nofun ?_; iterate 5 refine Z ?_
                iterate 5 refine tN okn ?_
                refine callW.mk [] 19 _ _ _ (TurnCrowd_c _ _ _ okd okd) rfl rfl trivial nofun ?_; iterate 5 refine Z ?_
                refine callW.mk [] 21 _ _ _ (MirrorCrowd_c _ _ okd) rfl rfl trivial nofun ?_; iterate 5 refine Z ?_
                iterate 2 refine callW.mk [] 23 _ _ _ (PeriodOf_c _ _ okd) rfl rfl trivial nofun ?_
                iterate 4 refine tY oky ?_
                refine callW.mk [] 23 _ _ _ (rCrowdT_c _ _ _ _ okd okd) rfl rfl trivial nofun ?_; refine tY oky ?_; refine callW.mk [] 23 _ _ _ (rCrowdT_c _ _ _ _ okd okd) rfl rfl trivial nofun ?_; iterate 2 refine tY oky ?_
                refine And.intro (by omega) ?_; refine ntm (by omega) ?_; rotate_left
                all_goals exact dv0 rfl s12
              · have hok : ¬ (crowd e1.1.1 e1.1.2 ∧ isRule e1.2 ∧ stepOk e1.1.1 e1.1.2 e1.2) := fun x => hs x.2.2
                refine callW.mk [] 11 _ _ _ (IsRobotRule_c _ okd) rfl rfl trivial nofun ?_; refine callW.mk [] 11 _ _ _ (sIsRobotRule_c _ okd) rfl rfl trivial nofun ?_; refine tN okn ?_; refine tY oky ?_; refine tN okn ?_; refine tY oky ?_; refine tN okn ?_; refine tY oky ?_; iterate 2 refine Z ?_
                refine lm ?_; refine callW.mk [] 11 _ _ _ (hq) rfl rfl okk nofun ?_; iterate 2 refine Z ?_
                refine lm ?_; refine callW.mk [] 11 _ _ _ (hq2) rfl rfl okk nofun ?_; iterate 5 refine tN okn ?_
                refine callW.mk [] 11 _ _ _ (IsCrowd_c _ _ okd) rfl rfl trivial nofun ?_; refine tN okn ?_; refine callW.mk [] 11 _ _ _ (IsRobotRule_c _ okd) rfl rfl trivial nofun ?_; refine tN okn ?_; refine callW.mk [] 11 _ _ _ (TurnCrowd_c _ _ _ okd okd) rfl rfl trivial nofun ?_; iterate 5 refine Z ?_
                refine callW.mk [] 13 _ _ _ (MirrorCrowd_c _ _ okd) rfl rfl trivial nofun ?_; iterate 5 refine Z ?_
                refine callW.mk [] 15 _ _ _ (StepCrowd_c _ _ _ okd okd) rfl rfl trivial nofun ?_; iterate 5 refine Z ?_
                refine callW.mk [] 17 _ _ _ (StepCrowd_c _ _ _ okd okd) rfl rfl trivial nofun ?_; iterate 5 refine Z ?_
                iterate 4 refine tN okn ?_
                refine tY oky ?_; rotate_left
                all_goals exact dv0 rfl trivial
            · have hok : ¬ (crowd e1.1.1 e1.1.2 ∧ isRule e1.2 ∧ stepOk e1.1.1 e1.1.2 e1.2) := fun x => hr x.2.1
              refine callW.mk [] 11 _ _ _ (IsRobotRule_c _ okd) rfl rfl trivial nofun ?_; refine callW.mk [] 11 _ _ _ (sIsRobotRule_c _ okd) rfl rfl trivial nofun ?_; refine tN okn ?_; refine tY oky ?_; refine tN okn ?_; refine tY oky ?_; refine tN okn ?_; refine tY oky ?_; iterate 2 refine Z ?_
              refine lm ?_; refine callW.mk [] 11 _ _ _ (hq) rfl rfl okk nofun ?_; iterate 2 refine Z ?_
              refine lm ?_; refine callW.mk [] 11 _ _ _ (hq2) rfl rfl okk nofun ?_; iterate 5 refine tN okn ?_
              refine callW.mk [] 11 _ _ _ (IsCrowd_c _ _ okd) rfl rfl trivial nofun ?_; refine tN okn ?_; refine callW.mk [] 11 _ _ _ (IsRobotRule_c _ okd) rfl rfl trivial nofun ?_; refine tY oky ?_; rotate_left
              all_goals exact dv0 rfl hok
          · have hok : ¬ (crowd e1.1.1 e1.1.2 ∧ isRule e1.2 ∧ stepOk e1.1.1 e1.1.2 e1.2) := fun x => hc x.1
            refine callW.mk [] 11 _ _ _ (IsRobotRule_c _ okd) rfl rfl trivial nofun ?_; refine callW.mk [] 11 _ _ _ (sIsRobotRule_c _ okd) rfl rfl trivial nofun ?_; refine tN okn ?_; refine tY oky ?_; refine tN okn ?_; refine tY oky ?_; refine tN okn ?_; refine tY oky ?_; iterate 2 refine Z ?_
            refine lm ?_; refine callW.mk [] 11 _ _ _ (hq) rfl rfl okk nofun ?_; iterate 2 refine Z ?_
            refine lm ?_; refine callW.mk [] 11 _ _ _ (hq2) rfl rfl okk nofun ?_; iterate 5 refine tN okn ?_
            refine callW.mk [] 11 _ _ _ (IsCrowd_c _ _ okd) rfl rfl trivial nofun ?_; refine tY oky ?_; rotate_left
            all_goals exact dv0 rfl hok
        · by_cases hc : crowd e1.1.1 e1.1.2
          · have hcn := hc.1
            by_cases hr : isRule e1.2
            · have hcr := And.intro hc hr
              obtain ⟨i5, i6⟩ := step_facts hc hr
              have w1 : crowd e1.1.1 e1.1.2 ∧ (0 : Int) ≤ 1 ∧ 1 ≤ e1.1.1 - 1 := ⟨hc, by omega, by omega⟩
              by_cases hs : stepOk e1.1.1 e1.1.2 e1.2
              · have hok : crowd e1.1.1 e1.1.2 ∧ isRule e1.2 ∧ stepOk e1.1.1 e1.1.2 e1.2 := ⟨hc, hr, hs⟩
                obtain ⟨s7, s8, s13, s9, s10, s11, s12⟩ := next_facts hc hr hs
                have s15 : 0 < poR e1.1.1 e1.1.2 := by rw [po_yes hc]; exact (per_div hc).1
                refine callW.mk [] 11 _ _ _ (IsRobotRule_c _ okd) rfl rfl trivial nofun ?_; refine callW.mk [] 11 _ _ _ (sIsRobotRule_c _ okd) rfl rfl trivial nofun ?_; refine tN okn ?_; refine tY oky ?_; refine tN okn ?_; refine tY oky ?_; iterate 2 refine tN okn ?_
                refine callW.mk [] 11 _ _ _ (IsCrowd_c _ _ okd) rfl rfl trivial nofun ?_; refine tN okn ?_; refine callW.mk [] 11 _ _ _ (IsRobotRule_c _ okd) rfl rfl trivial nofun ?_; refine tN okn ?_; refine callW.mk [] 11 _ _ _ (TurnCrowd_c _ _ _ okd okd) rfl rfl trivial nofun ?_; iterate 5 refine Z ?_
                refine callW.mk [] 13 _ _ _ (MirrorCrowd_c _ _ okd) rfl rfl trivial nofun ?_; iterate 5 refine Z ?_
                refine callW.mk [] 15 _ _ _ (StepCrowd_c _ _ _ okd okd) rfl rfl trivial nofun ?_; iterate 5 refine Z ?_
                refine callW.mk [] 17 _ _ _ (StepCrowd_c _ _ _ okd okd) rfl rfl trivial nofun ?_; iterate 5 refine Z ?_
                iterate 5 refine tN okn ?_
                refine callW.mk [] 19 _ _ _ (TurnCrowd_c _ _ _ okd okd) rfl rfl trivial nofun ?_; iterate 5 refine Z ?_
                refine callW.mk [] 21 _ _ _ (MirrorCrowd_c _ _ okd) rfl rfl trivial nofun ?_; iterate 5 refine Z ?_
                iterate 2 refine callW.mk [] 23 _ _ _ (PeriodOf_c _ _ okd) rfl rfl trivial nofun ?_
                iterate 4 refine tY oky ?_
                refine callW.mk [] 23 _ _ _ (rCrowdT_c _ _ _ _ okd okd) rfl rfl trivial nofun ?_; refine tY oky ?_; refine callW.mk [] 23 _ _ _ (rCrowdT_c _ _ _ _ okd okd) rfl rfl trivial nofun ?_; iterate 2 refine tY oky ?_
                refine And.intro (by omega) ?_; refine ntm (by omega) ?_; rotate_left
                all_goals exact dv0 rfl s12
              · have hok : ¬ (crowd e1.1.1 e1.1.2 ∧ isRule e1.2 ∧ stepOk e1.1.1 e1.1.2 e1.2) := fun x => hs x.2.2
                refine callW.mk [] 11 _ _ _ (IsRobotRule_c _ okd) rfl rfl trivial nofun ?_; refine callW.mk [] 11 _ _ _ (sIsRobotRule_c _ okd) rfl rfl trivial nofun ?_; refine tN okn ?_; refine tY oky ?_; refine tN okn ?_; refine tY oky ?_; iterate 2 refine tN okn ?_
                refine callW.mk [] 11 _ _ _ (IsCrowd_c _ _ okd) rfl rfl trivial nofun ?_; refine tN okn ?_; refine callW.mk [] 11 _ _ _ (IsRobotRule_c _ okd) rfl rfl trivial nofun ?_; refine tN okn ?_; refine callW.mk [] 11 _ _ _ (TurnCrowd_c _ _ _ okd okd) rfl rfl trivial nofun ?_; iterate 5 refine Z ?_
                refine callW.mk [] 13 _ _ _ (MirrorCrowd_c _ _ okd) rfl rfl trivial nofun ?_; iterate 5 refine Z ?_
                refine callW.mk [] 15 _ _ _ (StepCrowd_c _ _ _ okd okd) rfl rfl trivial nofun ?_; iterate 5 refine Z ?_
                refine callW.mk [] 17 _ _ _ (StepCrowd_c _ _ _ okd okd) rfl rfl trivial nofun ?_; iterate 5 refine Z ?_
                iterate 4 refine tN okn ?_
                refine tY oky ?_; rotate_left
                all_goals exact dv0 rfl trivial
            · have hok : ¬ (crowd e1.1.1 e1.1.2 ∧ isRule e1.2 ∧ stepOk e1.1.1 e1.1.2 e1.2) := fun x => hr x.2.1
              refine callW.mk [] 11 _ _ _ (IsRobotRule_c _ okd) rfl rfl trivial nofun ?_; refine callW.mk [] 11 _ _ _ (sIsRobotRule_c _ okd) rfl rfl trivial nofun ?_; refine tN okn ?_; refine tY oky ?_; refine tN okn ?_; refine tY oky ?_; iterate 2 refine tN okn ?_
              refine callW.mk [] 11 _ _ _ (IsCrowd_c _ _ okd) rfl rfl trivial nofun ?_; refine tN okn ?_; refine callW.mk [] 11 _ _ _ (IsRobotRule_c _ okd) rfl rfl trivial nofun ?_; refine tY oky ?_; rotate_left
              all_goals exact dv0 rfl hok
          · have hok : ¬ (crowd e1.1.1 e1.1.2 ∧ isRule e1.2 ∧ stepOk e1.1.1 e1.1.2 e1.2) := fun x => hc x.1
            refine callW.mk [] 11 _ _ _ (IsRobotRule_c _ okd) rfl rfl trivial nofun ?_; refine callW.mk [] 11 _ _ _ (sIsRobotRule_c _ okd) rfl rfl trivial nofun ?_; refine tN okn ?_; refine tY oky ?_; refine tN okn ?_; refine tY oky ?_; iterate 2 refine tN okn ?_
            refine callW.mk [] 11 _ _ _ (IsCrowd_c _ _ okd) rfl rfl trivial nofun ?_; refine tY oky ?_; rotate_left
            all_goals exact dv0 rfl hok
    · by_cases ht : crowd e3.1.1 e3.1.2 ∧ isRule e3.2
      · obtain ⟨k1, k2, k3⟩ := found_facts ht
        by_cases hc : crowd e1.1.1 e1.1.2
        · have hcn := hc.1
          by_cases hr : isRule e1.2
          · have hcr := And.intro hc hr
            obtain ⟨i5, i6⟩ := step_facts hc hr
            have w1 : crowd e1.1.1 e1.1.2 ∧ (0 : Int) ≤ 1 ∧ 1 ≤ e1.1.1 - 1 := ⟨hc, by omega, by omega⟩
            by_cases hs : stepOk e1.1.1 e1.1.2 e1.2
            · have hok : crowd e1.1.1 e1.1.2 ∧ isRule e1.2 ∧ stepOk e1.1.1 e1.1.2 e1.2 := ⟨hc, hr, hs⟩
              obtain ⟨s7, s8, s13, s9, s10, s11, s12⟩ := next_facts hc hr hs
              have s15 : 0 < poR e1.1.1 e1.1.2 := by rw [po_yes hc]; exact (per_div hc).1
              refine callW.mk [] 11 _ _ _ (IsRobotRule_c _ okd) rfl rfl trivial nofun ?_; refine callW.mk [] 11 _ _ _ (sIsRobotRule_c _ okd) rfl rfl trivial nofun ?_; iterate 3 refine tN okn ?_
              refine tY oky ?_; iterate 2 refine Z ?_
              refine lm ?_; refine callW.mk [] 11 _ _ _ (hq) rfl rfl okk nofun ?_; iterate 2 refine Z ?_
              refine lm ?_; refine callW.mk [] 11 _ _ _ (hq2) rfl rfl okk nofun ?_; iterate 5 refine tN okn ?_
              refine callW.mk [] 11 _ _ _ (IsCrowd_c _ _ okd) rfl rfl trivial nofun ?_; refine tN okn ?_; refine callW.mk [] 11 _ _ _ (IsRobotRule_c _ okd) rfl rfl trivial nofun ?_; refine tN okn ?_; refine callW.mk [] 11 _ _ _ (TurnCrowd_c _ _ _ okd okd) rfl rfl trivial nofun ?_; iterate 5 refine Z ?_
              refine callW.mk [] 13 _ _ _ (MirrorCrowd_c _ _ okd) rfl rfl trivial nofun ?_; iterate 5 refine Z ?_
              refine callW.mk [] 15 _ _ _ (StepCrowd_c _ _ _ okd okd) rfl rfl trivial nofun ?_; iterate 5 refine Z ?_
              refine callW.mk [] 17 _ _ _ (StepCrowd_c _ _ _ okd okd) rfl rfl trivial nofun ?_; iterate 5 refine Z ?_
              iterate 5 refine tN okn ?_
              refine callW.mk [] 19 _ _ _ (TurnCrowd_c _ _ _ okd okd) rfl rfl trivial nofun ?_; iterate 5 refine Z ?_
              refine callW.mk [] 21 _ _ _ (MirrorCrowd_c _ _ okd) rfl rfl trivial nofun ?_; iterate 5 refine Z ?_
              iterate 2 refine callW.mk [] 23 _ _ _ (PeriodOf_c _ _ okd) rfl rfl trivial nofun ?_
              iterate 4 refine tY oky ?_
              refine callW.mk [] 23 _ _ _ (rCrowdT_c _ _ _ _ okd okd) rfl rfl trivial nofun ?_; refine tY oky ?_; refine callW.mk [] 23 _ _ _ (rCrowdT_c _ _ _ _ okd okd) rfl rfl trivial nofun ?_; iterate 2 refine tY oky ?_
              refine And.intro (by omega) ?_; refine ntm (by omega) ?_; rotate_left
              all_goals exact dv0 rfl s12
            · have hok : ¬ (crowd e1.1.1 e1.1.2 ∧ isRule e1.2 ∧ stepOk e1.1.1 e1.1.2 e1.2) := fun x => hs x.2.2
              refine callW.mk [] 11 _ _ _ (IsRobotRule_c _ okd) rfl rfl trivial nofun ?_; refine callW.mk [] 11 _ _ _ (sIsRobotRule_c _ okd) rfl rfl trivial nofun ?_; iterate 3 refine tN okn ?_
              refine tY oky ?_; iterate 2 refine Z ?_
              refine lm ?_; refine callW.mk [] 11 _ _ _ (hq) rfl rfl okk nofun ?_; iterate 2 refine Z ?_
              refine lm ?_; refine callW.mk [] 11 _ _ _ (hq2) rfl rfl okk nofun ?_; iterate 5 refine tN okn ?_
              refine callW.mk [] 11 _ _ _ (IsCrowd_c _ _ okd) rfl rfl trivial nofun ?_; refine tN okn ?_; refine callW.mk [] 11 _ _ _ (IsRobotRule_c _ okd) rfl rfl trivial nofun ?_; refine tN okn ?_; refine callW.mk [] 11 _ _ _ (TurnCrowd_c _ _ _ okd okd) rfl rfl trivial nofun ?_; iterate 5 refine Z ?_
              refine callW.mk [] 13 _ _ _ (MirrorCrowd_c _ _ okd) rfl rfl trivial nofun ?_; iterate 5 refine Z ?_
              refine callW.mk [] 15 _ _ _ (StepCrowd_c _ _ _ okd okd) rfl rfl trivial nofun ?_; iterate 5 refine Z ?_
              refine callW.mk [] 17 _ _ _ (StepCrowd_c _ _ _ okd okd) rfl rfl trivial nofun ?_; iterate 5 refine Z ?_
              iterate 4 refine tN okn ?_
              refine tY oky ?_; rotate_left
              all_goals exact dv0 rfl trivial
          · have hok : ¬ (crowd e1.1.1 e1.1.2 ∧ isRule e1.2 ∧ stepOk e1.1.1 e1.1.2 e1.2) := fun x => hr x.2.1
            refine callW.mk [] 11 _ _ _ (IsRobotRule_c _ okd) rfl rfl trivial nofun ?_; refine callW.mk [] 11 _ _ _ (sIsRobotRule_c _ okd) rfl rfl trivial nofun ?_; iterate 3 refine tN okn ?_
            refine tY oky ?_; iterate 2 refine Z ?_
            refine lm ?_; refine callW.mk [] 11 _ _ _ (hq) rfl rfl okk nofun ?_; iterate 2 refine Z ?_
            refine lm ?_; refine callW.mk [] 11 _ _ _ (hq2) rfl rfl okk nofun ?_; iterate 5 refine tN okn ?_
            refine callW.mk [] 11 _ _ _ (IsCrowd_c _ _ okd) rfl rfl trivial nofun ?_; refine tN okn ?_; refine callW.mk [] 11 _ _ _ (IsRobotRule_c _ okd) rfl rfl trivial nofun ?_; refine tY oky ?_; rotate_left
            all_goals exact dv0 rfl hok
        · have hok : ¬ (crowd e1.1.1 e1.1.2 ∧ isRule e1.2 ∧ stepOk e1.1.1 e1.1.2 e1.2) := fun x => hc x.1
          refine callW.mk [] 11 _ _ _ (IsRobotRule_c _ okd) rfl rfl trivial nofun ?_; refine callW.mk [] 11 _ _ _ (sIsRobotRule_c _ okd) rfl rfl trivial nofun ?_; iterate 3 refine tN okn ?_
          refine tY oky ?_; iterate 2 refine Z ?_
          refine lm ?_; refine callW.mk [] 11 _ _ _ (hq) rfl rfl okk nofun ?_; iterate 2 refine Z ?_
          refine lm ?_; refine callW.mk [] 11 _ _ _ (hq2) rfl rfl okk nofun ?_; iterate 5 refine tN okn ?_
          refine callW.mk [] 11 _ _ _ (IsCrowd_c _ _ okd) rfl rfl trivial nofun ?_; refine tY oky ?_; rotate_left
          all_goals exact dv0 rfl hok
      · by_cases hc : crowd e1.1.1 e1.1.2
        · have hcn := hc.1
          by_cases hr : isRule e1.2
          · have hcr := And.intro hc hr
            obtain ⟨i5, i6⟩ := step_facts hc hr
            have w1 : crowd e1.1.1 e1.1.2 ∧ (0 : Int) ≤ 1 ∧ 1 ≤ e1.1.1 - 1 := ⟨hc, by omega, by omega⟩
            by_cases hs : stepOk e1.1.1 e1.1.2 e1.2
            · have hok : crowd e1.1.1 e1.1.2 ∧ isRule e1.2 ∧ stepOk e1.1.1 e1.1.2 e1.2 := ⟨hc, hr, hs⟩
              obtain ⟨s7, s8, s13, s9, s10, s11, s12⟩ := next_facts hc hr hs
              have s15 : 0 < poR e1.1.1 e1.1.2 := by rw [po_yes hc]; exact (per_div hc).1
              refine callW.mk [] 11 _ _ _ (IsRobotRule_c _ okd) rfl rfl trivial nofun ?_; refine callW.mk [] 11 _ _ _ (sIsRobotRule_c _ okd) rfl rfl trivial nofun ?_; iterate 4 refine tN okn ?_
              refine callW.mk [] 11 _ _ _ (IsCrowd_c _ _ okd) rfl rfl trivial nofun ?_; refine tN okn ?_; refine callW.mk [] 11 _ _ _ (IsRobotRule_c _ okd) rfl rfl trivial nofun ?_; refine tN okn ?_; refine callW.mk [] 11 _ _ _ (TurnCrowd_c _ _ _ okd okd) rfl rfl trivial nofun ?_; iterate 5 refine Z ?_
              refine callW.mk [] 13 _ _ _ (MirrorCrowd_c _ _ okd) rfl rfl trivial nofun ?_; iterate 5 refine Z ?_
              refine callW.mk [] 15 _ _ _ (StepCrowd_c _ _ _ okd okd) rfl rfl trivial nofun ?_; iterate 5 refine Z ?_
              refine callW.mk [] 17 _ _ _ (StepCrowd_c _ _ _ okd okd) rfl rfl trivial nofun ?_; iterate 5 refine Z ?_
              iterate 5 refine tN okn ?_
              refine callW.mk [] 19 _ _ _ (TurnCrowd_c _ _ _ okd okd) rfl rfl trivial nofun ?_; iterate 5 refine Z ?_
              refine callW.mk [] 21 _ _ _ (MirrorCrowd_c _ _ okd) rfl rfl trivial nofun ?_; iterate 5 refine Z ?_
              iterate 2 refine callW.mk [] 23 _ _ _ (PeriodOf_c _ _ okd) rfl rfl trivial nofun ?_
              iterate 4 refine tY oky ?_
              refine callW.mk [] 23 _ _ _ (rCrowdT_c _ _ _ _ okd okd) rfl rfl trivial nofun ?_; refine tY oky ?_; refine callW.mk [] 23 _ _ _ (rCrowdT_c _ _ _ _ okd okd) rfl rfl trivial nofun ?_; iterate 2 refine tY oky ?_
              refine And.intro (by omega) ?_; refine ntm (by omega) ?_; rotate_left
              all_goals exact dv0 rfl s12
            · have hok : ¬ (crowd e1.1.1 e1.1.2 ∧ isRule e1.2 ∧ stepOk e1.1.1 e1.1.2 e1.2) := fun x => hs x.2.2
              refine callW.mk [] 11 _ _ _ (IsRobotRule_c _ okd) rfl rfl trivial nofun ?_; refine callW.mk [] 11 _ _ _ (sIsRobotRule_c _ okd) rfl rfl trivial nofun ?_; iterate 4 refine tN okn ?_
              refine callW.mk [] 11 _ _ _ (IsCrowd_c _ _ okd) rfl rfl trivial nofun ?_; refine tN okn ?_; refine callW.mk [] 11 _ _ _ (IsRobotRule_c _ okd) rfl rfl trivial nofun ?_; refine tN okn ?_; refine callW.mk [] 11 _ _ _ (TurnCrowd_c _ _ _ okd okd) rfl rfl trivial nofun ?_; iterate 5 refine Z ?_
              refine callW.mk [] 13 _ _ _ (MirrorCrowd_c _ _ okd) rfl rfl trivial nofun ?_; iterate 5 refine Z ?_
              refine callW.mk [] 15 _ _ _ (StepCrowd_c _ _ _ okd okd) rfl rfl trivial nofun ?_; iterate 5 refine Z ?_
              refine callW.mk [] 17 _ _ _ (StepCrowd_c _ _ _ okd okd) rfl rfl trivial nofun ?_; iterate 5 refine Z ?_
              iterate 4 refine tN okn ?_
              refine tY oky ?_; rotate_left
              all_goals exact dv0 rfl trivial
          · have hok : ¬ (crowd e1.1.1 e1.1.2 ∧ isRule e1.2 ∧ stepOk e1.1.1 e1.1.2 e1.2) := fun x => hr x.2.1
            refine callW.mk [] 11 _ _ _ (IsRobotRule_c _ okd) rfl rfl trivial nofun ?_; refine callW.mk [] 11 _ _ _ (sIsRobotRule_c _ okd) rfl rfl trivial nofun ?_; iterate 4 refine tN okn ?_
            refine callW.mk [] 11 _ _ _ (IsCrowd_c _ _ okd) rfl rfl trivial nofun ?_; refine tN okn ?_; refine callW.mk [] 11 _ _ _ (IsRobotRule_c _ okd) rfl rfl trivial nofun ?_; refine tY oky ?_; rotate_left
            all_goals exact dv0 rfl hok
        · have hok : ¬ (crowd e1.1.1 e1.1.2 ∧ isRule e1.2 ∧ stepOk e1.1.1 e1.1.2 e1.2) := fun x => hc x.1
          refine callW.mk [] 11 _ _ _ (IsRobotRule_c _ okd) rfl rfl trivial nofun ?_; refine callW.mk [] 11 _ _ _ (sIsRobotRule_c _ okd) rfl rfl trivial nofun ?_; iterate 4 refine tN okn ?_
          refine callW.mk [] 11 _ _ _ (IsCrowd_c _ _ okd) rfl rfl trivial nofun ?_; refine tY oky ?_; rotate_left
          all_goals exact dv0 rfl hok
end Sx
