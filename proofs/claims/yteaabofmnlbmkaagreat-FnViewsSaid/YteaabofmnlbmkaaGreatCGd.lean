/- Contracts: the law of views. -/
import Derived.Test.YteaabofmnlbmkaaGreatSyC
import Derived.Test.YteaabofmnlbmkaaGreatCGc
import Derived.Test.YteaabofmnlbmkaaGreatCGa
import Derived.Test.YteaabofmnlbmkaaGreatCRv
import Derived.Test.YteaabofmnlbmkaaGreatCSb
import Derived.Test.YteaabofmnlbmkaaGreatCTb
import Derived.Test.YteaabofmnlbmkaaGreatCTe
import Derived.Test.YteaabofmnlbmkaaGreatCTf
import Derived.Test.YteaabofmnlbmkaaGreatCTg
set_option linter.all false
namespace Sx
open Go Go.Proofs
set_option maxRecDepth 100000
set_option maxHeartbeats 8000000
set_option linter.unusedSimpArgs false
set_option linter.unusedSectionVars false
variable [Glb]
theorem ggR_len (n : Int) (l : List Int) (i : Int) : (ggR n l i).length ≤ 1000 := by
  by_cases h : hasR n l i
  · rw [gg_yes h, gapsR_len]; have := h.1.1; omega
  · rw [gg_no h]; exact Nat.zero_le _
theorem ggR_len2 (n : Int) (l : List Int) (i : Int) : (ggR n l i).reverse.length ≤ 1000 := by rw [List.length_reverse]; exact ggR_len n l i
theorem ggR_bd (n : Int) (l : List Int) (i : Int) : ∀ x ∈ ggR n l i, 0 ≤ x ∧ x ≤ 1000 := fun x hx => by
  by_cases h : hasR n l i
  · rw [gg_yes h] at hx
    have hn := h.1.1.1
    have := gapsR_bd (n := n) (l := l) (by omega) i.toNat x hx
    omega
  · rw [gg_no h] at hx; cases hx
theorem ggR_bd2 (n : Int) (l : List Int) (i : Int) : ∀ x ∈ (ggR n l i).reverse, 0 ≤ x ∧ x ≤ 1000 := fun x hx => ggR_bd n l i x (List.mem_reverse.1 hx)
theorem ggR_sum {n : Int} {l : List Int} {i : Int} (h : hasR n l i) : (ggR n l i).sum = n ∧ (ggR n l i).reverse.sum = n := by
  rw [sum_rev, gg_yes h]
  exact ⟨gapsR_sum h.1 _, gapsR_sum h.1 _⟩
theorem vw_facts {n : Int} {l : List Int} {i : Int} (h : hasR n l i) : (0 < vwW n l i → vwL n l i = ggR n l i) ∧ (vwW n l i < 0 → vwL n l i = (ggR n l i).reverse) ∧ (vwW n l i = 0 ↔ ggR n l i = (ggR n l i).reverse) := by
  rw [gg_yes h, (vw_yes h).1, (vw_yes h).2]
  exact way_facts n l i.toNat
theorem vwL_len (n : Int) (l : List Int) (i : Int) : (vwL n l i).length ≤ 1000 := by
  by_cases h : hasR n l i
  · rw [(vw_yes h).1, viewL_len]; have := h.1.1; omega
  · rw [(vw_no h).1]; exact Nat.zero_le _
theorem rkR_12 (n : Int) (l : List Int) : (rkR n l).length ≤ 6 := by
  by_cases h : crowd n l
  · rw [rk_yes h, ranksL_len]; have := h.1; omega
  · rw [rk_no h]; exact Nat.zero_le _
theorem LoopW.weaken {fz : Bool} {m : Nat} {b : (Ex → List AV → List Ent → Prop) → List AV → List Ent → Prop} {K : Ex → List AV → List Ent → Prop} {ts ts' : List AV} {tab tab' : List Ent} (h : weak fz m ts tab ts' tab') (g : LoopW fz m b K ts' tab') : LoopW fz m b K ts tab := ⟨fun R hw hs => hw _ _ _ _ h (g.h R hw hs)⟩
def keepT : List Bool → List AV → List AV
  | _, [] => []
  | [], _ :: ts => .unk :: keepT [] ts
  | true :: m, t :: ts => t :: keepT m ts
  | false :: m, _ :: ts => .unk :: keepT m ts
theorem LoopW.keep (ks : List Bool) {fz : Bool} {m : Nat} {b : (Ex → List AV → List Ent → Prop) → List AV → List Ent → Prop} {K : Ex → List AV → List Ent → Prop} {ts : List AV} {tab : List Ent} (h : weak fz m ts tab (keepT ks ts) tab) (g : LoopW fz m b K (keepT ks ts) tab) : LoopW fz m b K ts tab := LoopW.weaken h g
structure HideG (G : Prop) : Prop where
  h : G
theorem cutG {goal G : Prop} (a : G) (b : HideG G → goal) : goal := b ⟨a⟩
theorem po_facts {n : Int} {l : List Int} (hc : crowd n l) : 0 < poR n l ∧ n % poR n l = 0 ∧ ((aoR n l).length = 0 ∨ ((aoR n l).length : Int) = n / poR n l) ∧ (1 < l.length → poR n l < n → ¬ (crowd n l ∧ 0 ≤ elI n l)) := by
  rw [po_yes hc, ao_yes hc]
  obtain ⟨h1, h2, h3⟩ := per_div hc
  exact ⟨h1, h2, h3, fun g1 g2 g3 => by have := no_elect hc g1 (by omega); omega⟩
theorem ViewOfT_c (n : Int) (l : List Int) (i : Int) (hl : l.length ≤ 1099511627776) : C 18 [.agg [i64 n, ints l], i64 i] [] (.tuple [ints (vwL n l i), i64 (vwW n l i), pr (hasR n l i)]) [] true := by
  refine mkC false true Tryz.func18 rfl ?_; refine And.intro (fun _ => rfl) ?_
  by_cases h : hasR n l i
  · obtain ⟨k, rfl⟩ : ∃ k : Nat, i = k := ⟨i.toNat, by have := h.2; omega⟩
    have hc := h.1
    have hk : k < l.length := by have := h.2; omega
    rw [(vw_yes h).1, (vw_yes h).2, Int.toNat_natCast]
    refine Z ?_; refine callW.mk [] 1 _ _ _ (isRobot_c _ _ _ oka) rfl rfl trivial nofun ?_; refine tN okn ?_; refine callW.mk [] 1 _ _ _ (view_c _ _ oka _ oka) rfl rfl trivial nofun ?_; rotate_left; refine doneV.fz [] [] rfl rfl rfl ?_ ?_ ?_ trivial
    all_goals repeat' first | exact trivial | exact rfl | exact Iff.rfl | assumption | refine And.intro ?_ ?_
  · rw [(vw_no h).1, (vw_no h).2]
    refine Z ?_; refine callW.mk [] 1 _ _ _ (isRobot_c _ _ _ oka) rfl rfl trivial nofun ?_; refine tY oky ?_; rotate_left; refine doneV.fz [] [] rfl rfl rfl ?_ ?_ ?_ trivial
    all_goals repeat' first | exact trivial | exact rfl | exact Iff.rfl | assumption | refine And.intro ?_ ?_
theorem way_next {n : Int} {l : List Int} {k : Nat} : (∀ i, i < k + 1 → wayL n l i ≠ 0) ↔ (∀ i, i < k → wayL n l i ≠ 0) ∧ wayL n l k ≠ 0 :=
  ⟨fun h => ⟨fun i hi => h i (by omega), h k (by omega)⟩, fun h i hi => by
    by_cases e : i = k
    · rw [e]; exact h.2
    · exact h.1 i (by omega)⟩
theorem epR_mem {n : Int} {l : List Int} (h : crowd n l ∧ 0 ≤ elI n l) : epR n l ∈ l := by
  have hb := elI_bd n l
  rw [ep_yes h, elI_get (by omega)]
  exact List.getElem_mem _
theorem mostK_bd (n : Int) (l : List Int) (k : Nat) : 0 ≤ mostK (ranksL n l) k ∧ mostK (ranksL n l) k ≤ l.length := by
  induction k with
  | zero => exact ⟨Int.le_refl _, by show (0 : Int) ≤ _; omega⟩
  | succ k ih =>
    show 0 ≤ max (mostK (ranksL n l) k) ((ranksL n l).getD k 0) ∧ max (mostK (ranksL n l) k) ((ranksL n l).getD k 0) ≤ _
    by_cases h : k < l.length
    · rw [elI_get (by rw [ranksL_len]; exact h)]
      have := ranksL_in n l _ (List.getElem_mem (show k < (ranksL n l).length by rw [ranksL_len]; exact h))
      omega
    · rw [List.getD_eq_getElem?_getD, List.getElem?_eq_none (by rw [ranksL_len]; omega)]
      show 0 ≤ max (mostK (ranksL n l) k) 0 ∧ max (mostK (ranksL n l) k) 0 ≤ _
      omega
theorem FnViews_c (L : List UInt8) (hL : L.length ≤ 9223372036854775807) : C 3 [.sl 1 (L.map i8)] [] .tt [] false := by
  have sd5 : ∀ n l i, (vwL n l i).length ≤ 1099511627776 := fun n l i => by have := vwL_len n l i; omega
  have sd6 : ∀ n l, (aoR n l).length ≤ 1099511627776 := fun n l => by have := aoR_12 n l; omega
  refine mkC false true Tryz.func3 rfl ?_; refine And.intro (fun _ => rfl) ?_
  by_cases hb : 65536 < (L.length : Int)
  · refine callW.mk [] 0 _ _ _ (rBig_c _ okd) rfl rfl trivial nofun ?_
    refine tY oky ?_; rotate_left; refine doneV.mk [] [] rfl rfl ?_ ?_ ?_
    repeat' first | exact trivial | exact rfl | exact Iff.rfl | assumption | exact pureI | exact (show _ = _ by omega) | exact (show _ ≤ _ by omega) | exact (show _ < _ by omega) | exact (show ¬ _ by omega) | refine And.intro ?_ ?_
  · refine callW.mk [] 0 _ _ _ (rBig_c _ okd) rfl rfl trivial nofun ?_
    refine tN okn ?_; refine callW.mkE [] [] 0 _ _ _ _ (DrawRanksOf_c _ okd) rfl rfl trivial nofun (fun _ _ => ?_); iterate 5 refine Z ?_
    refine callW.mk [] 2 _ _ _ (RanksOf_c _ _ okd) rfl rfl trivial nofun ?_; refine callW.mk [] 3 _ _ _ (sRanksOf_c _ _ okd) rfl rfl trivial nofun ?_; refine tN okn ?_; refine callW.mk [] 4 _ _ _ (IsCrowd_c _ _ okd) rfl rfl trivial nofun ?_; refine tN okn ?_; rotate_left
    rename_i c hc7
    refine callW.frz [1, 2, 3] rfl rfl trivial ?_
    have sd7 : ∀ n l, (rkR n l).length ≤ 1099511627776 := fun n l => by have := rkR_12 n l; omega
    refine callX.mk [] 3 _ _ _ (rInts_c _ _ okd okd) rfl rfl trivial nofun ?_; refine tN okn ?_; refine callW.mk [] 3 _ _ _ (PeriodOf_c _ _ okd) rfl rfl trivial nofun ?_; refine callW.mk [] 3 _ _ _ (sPeriodOf_c _ _ okd) rfl rfl trivial nofun ?_; iterate 3 refine tN okn ?_
    refine callW.mk [] 3 _ _ _ (AxesOf_c _ _ okd) rfl rfl trivial nofun ?_; refine callW.mk [] 4 _ _ _ (sAxesOf_c _ _ okd) rfl rfl trivial nofun ?_; iterate 2 refine tN okn ?_
    refine callW.mk [] 5 _ _ _ (rInts_c _ _ okd okd) rfl rfl trivial nofun ?_; refine tN okn ?_; refine callW.mk [] 5 _ _ _ (IsRigid_c _ _ okd) rfl rfl trivial nofun ?_; refine callW.mk [] 5 _ _ _ (sIsRigid_c _ _ okd) rfl rfl trivial nofun ?_; iterate 3 refine tN okn ?_
    refine callW.mkE [] [] 5 _ _ _ _ (DrawViewOf_c _ okd) rfl rfl trivial nofun (fun _ _ => ?_); iterate 5 refine Z ?_
    refine callW.mk [] 7 _ _ _ (ViewOf_c _ _ _ okd) rfl rfl trivial nofun ?_; refine callW.mk [] 8 _ _ _ (sViewOf_c _ _ _ okd) rfl rfl trivial nofun ?_; iterate 2 refine tN okn ?_
    refine callW.mk [] 9 _ _ _ (rInts_c _ _ okd okd) rfl rfl trivial nofun ?_; refine tN okn ?_; refine callW.mk [] 9 _ _ _ (GapsOf_c _ _ _ okd) rfl rfl trivial nofun ?_; refine callW.mk [] 11 _ _ _ (sGapsOf_c _ _ _ okd) rfl rfl trivial nofun ?_; iterate 2 refine tN okn ?_
    rotate_left
    rename_i d hd7
    have sd1 := ggR_len
    have sd2 := ggR_len2
    have sd3 := ggR_bd
    have sd4 := ggR_bd2
    have sd8 : ∀ n l i, (ggR n l i).length ≤ 1099511627776 := fun n l i => by have := ggR_len n l i; omega
    have sd9 : ∀ n l i, (ggR n l i).reverse.length ≤ 1099511627776 := fun n l i => by have := ggR_len2 n l i; omega
    by_cases hc : crowd c.1 c.2
    · obtain ⟨q1, q2, q3, q4⟩ := po_facts hc
      have hcl := hc.1
      apply cutG
      rotate_left
      · intro key
        by_cases hx : 1 < c.2.length ∧ poR c.1 c.2 < c.1
        · have hno := q4 hx.1 hx.2
          by_cases hd : hasR d.1.1 d.1.2 d.2
          · obtain ⟨f1, f2⟩ := ggR_sum hd
            obtain ⟨f3, f4, f5⟩ := vw_facts hd
            rcases Int.lt_trichotomy (vwW d.1.1 d.1.2 d.2) 0 with g | g | g
            · have f6 := f4 g
              have f7 : ¬ (vwW d.1.1 d.1.2 d.2 = 0) := by omega
              have f8 := fun h => f7 (f5.2 h)
              refine callW.mk [] 13 _ _ _ (rInts_c _ _ okd okd) rfl rfl trivial nofun ?_; refine tN okn ?_; refine callW.mk [] 13 _ _ _ (rInts_c _ _ okd okd) rfl rfl trivial nofun ?_; refine tN okn ?_; refine drawP.mk 43 (Z (Z (Z (Z ?_))))
              apply exP.mk
              exact rfl
              apply exP.mk
              exact rfl
              refine tY oky ?_
              apply exP.mk
              exact rfl
              apply exP.mk
              refine callP.mk _ _ _ (rSum_c _ okd okd) trivial nofun trivial ?_
              exact rfl
              apply exP.mk
              refine Z ?_
              exact rfl
              apply exP.mk
              exact rfl
              apply exP.mk
              exact rfl
              apply exP.mk
              exact rfl
              refine tN okn ?_
              apply exP.mk
              exact rfl
              apply exP.mk
              refine callP.mk _ _ _ (rSum_c _ okd okd) trivial nofun trivial ?_
              exact rfl
              apply exP.mk
              refine Z ?_
              exact rfl
              apply exP.mk
              exact rfl
              apply exP.mk
              exact rfl
              apply exP.mk
              exact rfl
              refine tN okn ?_
              apply exP.mk
              exact rfl
              apply exP.mk
              exact rfl
              apply exP.mk
              exact rfl
              refine tN okn ?_
              apply exP.mk
              exact rfl
              apply exP.mk
              exact rfl
              apply exP.mk
              exact rfl
              apply exP.mk
              exact rfl
              refine tY oky ?_
              apply exP.mk
              exact rfl
              apply exP.mk
              exact rfl
              apply exP.mk
              refine callP.mk _ _ _ (rInts_c _ _ okd okd) trivial nofun trivial ?_
              exact rfl
              apply exP.mk
              exact rfl
              apply exP.mk
              exact rfl
              refine tN okn ?_
              apply exP.mk
              exact rfl
              apply exP.mk
              exact rfl
              apply exP.mk
              exact rfl
              apply exP.mk
              exact rfl
              apply exP.mk
              refine callP.mk _ _ _ (rInts_c _ _ okd okd) trivial nofun trivial ?_
              exact rfl
              apply exP.mk
              exact rfl
              refine tN okn ?_; refine callW.mk [] 13 _ _ _ (ElectPlace_c _ _ okd) rfl rfl trivial nofun ?_; refine callW.mk [] 13 _ _ _ (sElectPlace_c _ _ okd) rfl rfl trivial nofun ?_; iterate 2 refine tN okn ?_
              refine callW.mk [] 13 _ _ _ (ElectTime_c _ _ okd) rfl rfl trivial nofun ?_; refine callW.mk [] 13 _ _ _ (sElectTime_c _ _ okd) rfl rfl trivial nofun ?_; iterate 4 refine tN okn ?_
              refine Z ?_; refine And.intro (by omega) ?_; refine ntm (by omega) ?_; refine tN okn ?_; refine lm ?_; refine twoN (fun _ => ?_) (fun _ => ?_); refine lm ?_; refine Z ?_; refine And.intro (by omega) ?_; refine ntd (by omega) (by omega) (by omega) ?_; refine tN okn ?_; refine Z ?_; refine lm ?_; refine tY oky ?_; refine Z ?_; refine tY oky ?_; refine tN okn ?_; iterate 2 refine Z ?_
              rotate_left; refine Z ?_
              refine lm ?_; refine tY oky ?_; refine Z ?_; refine tY oky ?_; refine tN okn ?_; iterate 2 refine Z ?_
              rotate_left
              · refine LoopW.keep [true, false, true, true, true, true, false, false, true, false, false, false, false, false, false, false, true, false, false, false, false, false, false, false, false, false, false, false, false, false, false, false, false, false, true, true, false, false, false, false, false, false, true, true, true, true] ?_ ?_
                all_goals dsimp only [keepT]
                · refine weak.mk [] [0, 1, 2, 3, 4, 5, 6, 7, 8, 9, 10, 11, 12] rfl rfl ?_ ?_
                  repeat' first | exact trivial | exact rfl | exact Iff.rfl | assumption | refine And.intro ?_ ?_
                · exact key.h
              · refine LoopW.keep [true, false, true, true, true, true, false, false, true, false, false, false, false, false, false, false, true, false, false, false, false, false, false, false, false, false, false, false, false, false, false, false, false, false, true, true, false, false, false, false, false, false, true, true, true, true] ?_ ?_
                all_goals dsimp only [keepT]
                · refine weak.mk [] [0, 1, 2, 3, 4, 5, 6, 7, 8, 9, 10, 11, 12] rfl rfl ?_ ?_
                  repeat' first | exact trivial | exact rfl | exact Iff.rfl | assumption | refine And.intro ?_ ?_
                · exact key.h
            · have f6 := f5.1 g
              refine callW.mk [] 13 _ _ _ (rInts_c _ _ okd okd) rfl rfl trivial nofun ?_; refine tN okn ?_; refine callW.mk [] 13 _ _ _ (rInts_c _ _ okd okd) rfl rfl trivial nofun ?_; refine tN okn ?_; refine drawP.mk 43 (Z (Z (Z (Z ?_))))
              apply exP.mk
              exact rfl
              apply exP.mk
              exact rfl
              refine tY oky ?_
              apply exP.mk
              exact rfl
              apply exP.mk
              refine callP.mk _ _ _ (rSum_c _ okd okd) trivial nofun trivial ?_
              exact rfl
              apply exP.mk
              refine Z ?_
              exact rfl
              apply exP.mk
              exact rfl
              apply exP.mk
              exact rfl
              apply exP.mk
              exact rfl
              refine tN okn ?_
              apply exP.mk
              exact rfl
              apply exP.mk
              refine callP.mk _ _ _ (rSum_c _ okd okd) trivial nofun trivial ?_
              exact rfl
              apply exP.mk
              refine Z ?_
              exact rfl
              apply exP.mk
              exact rfl
              apply exP.mk
              exact rfl
              apply exP.mk
              exact rfl
              refine tN okn ?_
              apply exP.mk
              exact rfl
              apply exP.mk
              exact rfl
              apply exP.mk
              exact rfl
              refine tN okn ?_
              apply exP.mk
              exact rfl
              apply exP.mk
              exact rfl
              apply exP.mk
              exact rfl
              apply exP.mk
              exact rfl
              refine tN okn ?_
              apply exP.mk
              exact rfl
              apply exP.mk
              exact rfl
              apply exP.mk
              exact rfl
              apply exP.mk
              exact rfl
              apply exP.mk
              exact rfl
              apply exP.mk
              refine callP.mk _ _ _ (rInts_c _ _ okd okd) trivial nofun trivial ?_
              exact rfl
              apply exP.mk
              exact rfl
              refine tN okn ?_; refine callW.mk [] 13 _ _ _ (ElectPlace_c _ _ okd) rfl rfl trivial nofun ?_; refine callW.mk [] 13 _ _ _ (sElectPlace_c _ _ okd) rfl rfl trivial nofun ?_; iterate 2 refine tN okn ?_
              refine callW.mk [] 13 _ _ _ (ElectTime_c _ _ okd) rfl rfl trivial nofun ?_; refine callW.mk [] 13 _ _ _ (sElectTime_c _ _ okd) rfl rfl trivial nofun ?_; iterate 4 refine tN okn ?_
              refine Z ?_; refine And.intro (by omega) ?_; refine ntm (by omega) ?_; refine tN okn ?_; refine lm ?_; refine twoN (fun _ => ?_) (fun _ => ?_); refine lm ?_; refine Z ?_; refine And.intro (by omega) ?_; refine ntd (by omega) (by omega) (by omega) ?_; refine tN okn ?_; refine Z ?_; refine lm ?_; refine tY oky ?_; refine Z ?_; refine tY oky ?_; refine tN okn ?_; iterate 2 refine Z ?_
              rotate_left; refine Z ?_
              refine lm ?_; refine tY oky ?_; refine Z ?_; refine tY oky ?_; refine tN okn ?_; iterate 2 refine Z ?_
              rotate_left
              · refine LoopW.keep [true, false, true, true, true, true, false, false, true, false, false, false, false, false, false, false, true, false, false, false, false, false, false, false, false, false, false, false, false, false, false, false, false, false, true, true, false, false, false, false, false, false, true, true, true, true] ?_ ?_
                all_goals dsimp only [keepT]
                · refine weak.mk [] [0, 1, 2, 3, 4, 5, 6, 7, 8, 9, 10, 11, 12] rfl rfl ?_ ?_
                  repeat' first | exact trivial | exact rfl | exact Iff.rfl | assumption | refine And.intro ?_ ?_
                · exact key.h
              · refine LoopW.keep [true, false, true, true, true, true, false, false, true, false, false, false, false, false, false, false, true, false, false, false, false, false, false, false, false, false, false, false, false, false, false, false, false, false, true, true, false, false, false, false, false, false, true, true, true, true] ?_ ?_
                all_goals dsimp only [keepT]
                · refine weak.mk [] [0, 1, 2, 3, 4, 5, 6, 7, 8, 9, 10, 11, 12] rfl rfl ?_ ?_
                  repeat' first | exact trivial | exact rfl | exact Iff.rfl | assumption | refine And.intro ?_ ?_
                · exact key.h
            · have f6 := f3 g
              have f7 : ¬ (vwW d.1.1 d.1.2 d.2 = 0) := by omega
              have f8 := fun h => f7 (f5.2 h)
              refine callW.mk [] 13 _ _ _ (rInts_c _ _ okd okd) rfl rfl trivial nofun ?_; refine tN okn ?_; refine callW.mk [] 13 _ _ _ (rInts_c _ _ okd okd) rfl rfl trivial nofun ?_; refine tN okn ?_; refine drawP.mk 43 (Z (Z (Z (Z ?_))))
              apply exP.mk
              exact rfl
              apply exP.mk
              exact rfl
              refine tY oky ?_
              apply exP.mk
              exact rfl
              apply exP.mk
              refine callP.mk _ _ _ (rSum_c _ okd okd) trivial nofun trivial ?_
              exact rfl
              apply exP.mk
              refine Z ?_
              exact rfl
              apply exP.mk
              exact rfl
              apply exP.mk
              exact rfl
              apply exP.mk
              exact rfl
              refine tN okn ?_
              apply exP.mk
              exact rfl
              apply exP.mk
              refine callP.mk _ _ _ (rSum_c _ okd okd) trivial nofun trivial ?_
              exact rfl
              apply exP.mk
              refine Z ?_
              exact rfl
              apply exP.mk
              exact rfl
              apply exP.mk
              exact rfl
              apply exP.mk
              exact rfl
              refine tN okn ?_
              apply exP.mk
              exact rfl
              apply exP.mk
              exact rfl
              apply exP.mk
              exact rfl
              refine tY oky ?_
              apply exP.mk
              exact rfl
              apply exP.mk
              exact rfl
              apply exP.mk
              refine callP.mk _ _ _ (rInts_c _ _ okd okd) trivial nofun trivial ?_
              exact rfl
              apply exP.mk
              exact rfl
              apply exP.mk
              exact rfl
              refine tN okn ?_
              apply exP.mk
              exact rfl
              apply exP.mk
              exact rfl
              apply exP.mk
              exact rfl
              refine tN okn ?_
              apply exP.mk
              exact rfl
              apply exP.mk
              exact rfl
              apply exP.mk
              exact rfl
              apply exP.mk
              exact rfl
              apply exP.mk
              exact rfl
              apply exP.mk
              refine callP.mk _ _ _ (rInts_c _ _ okd okd) trivial nofun trivial ?_
              exact rfl
              apply exP.mk
              exact rfl
              refine tN okn ?_; refine callW.mk [] 13 _ _ _ (ElectPlace_c _ _ okd) rfl rfl trivial nofun ?_; refine callW.mk [] 13 _ _ _ (sElectPlace_c _ _ okd) rfl rfl trivial nofun ?_; iterate 2 refine tN okn ?_
              refine callW.mk [] 13 _ _ _ (ElectTime_c _ _ okd) rfl rfl trivial nofun ?_; refine callW.mk [] 13 _ _ _ (sElectTime_c _ _ okd) rfl rfl trivial nofun ?_; iterate 4 refine tN okn ?_
              refine Z ?_; refine And.intro (by omega) ?_; refine ntm (by omega) ?_; refine tN okn ?_; refine lm ?_; refine twoN (fun _ => ?_) (fun _ => ?_); refine lm ?_; refine Z ?_; refine And.intro (by omega) ?_; refine ntd (by omega) (by omega) (by omega) ?_; refine tN okn ?_; refine Z ?_; refine lm ?_; refine tY oky ?_; refine Z ?_; refine tY oky ?_; refine tN okn ?_; iterate 2 refine Z ?_
              rotate_left; refine Z ?_
              refine lm ?_; refine tY oky ?_; refine Z ?_; refine tY oky ?_; refine tN okn ?_; iterate 2 refine Z ?_
              rotate_left
              · refine LoopW.keep [true, false, true, true, true, true, false, false, true, false, false, false, false, false, false, false, true, false, false, false, false, false, false, false, false, false, false, false, false, false, false, false, false, false, true, true, false, false, false, false, false, false, true, true, true, true] ?_ ?_
                all_goals dsimp only [keepT]
                · refine weak.mk [] [0, 1, 2, 3, 4, 5, 6, 7, 8, 9, 10, 11, 12] rfl rfl ?_ ?_
                  repeat' first | exact trivial | exact rfl | exact Iff.rfl | assumption | refine And.intro ?_ ?_
                · exact key.h
              · refine LoopW.keep [true, false, true, true, true, true, false, false, true, false, false, false, false, false, false, false, true, false, false, false, false, false, false, false, false, false, false, false, false, false, false, false, false, false, true, true, false, false, false, false, false, false, true, true, true, true] ?_ ?_
                all_goals dsimp only [keepT]
                · refine weak.mk [] [0, 1, 2, 3, 4, 5, 6, 7, 8, 9, 10, 11, 12] rfl rfl ?_ ?_
                  repeat' first | exact trivial | exact rfl | exact Iff.rfl | assumption | refine And.intro ?_ ?_
                · exact key.h
          · refine callW.mk [] 13 _ _ _ (rInts_c _ _ okd okd) rfl rfl trivial nofun ?_
            refine tN okn ?_; refine callW.mk [] 13 _ _ _ (rInts_c _ _ okd okd) rfl rfl trivial nofun ?_; refine tN okn ?_; refine drawP.mk 43 (Z (Z (Z (Z ?_))))
            apply exP.mk
            exact rfl
            apply exP.mk
            exact rfl
            refine tN okn ?_; refine callW.mk [] 13 _ _ _ (ElectPlace_c _ _ okd) rfl rfl trivial nofun ?_; refine callW.mk [] 13 _ _ _ (sElectPlace_c _ _ okd) rfl rfl trivial nofun ?_; iterate 2 refine tN okn ?_
            refine callW.mk [] 13 _ _ _ (ElectTime_c _ _ okd) rfl rfl trivial nofun ?_; refine callW.mk [] 13 _ _ _ (sElectTime_c _ _ okd) rfl rfl trivial nofun ?_; iterate 4 refine tN okn ?_
            refine Z ?_; refine And.intro (by omega) ?_; refine ntm (by omega) ?_; refine tN okn ?_; refine lm ?_; refine twoN (fun _ => ?_) (fun _ => ?_); refine lm ?_; refine Z ?_; refine And.intro (by omega) ?_; refine ntd (by omega) (by omega) (by omega) ?_; refine tN okn ?_; refine Z ?_; refine lm ?_; refine tY oky ?_; refine Z ?_; refine tY oky ?_; refine tN okn ?_; iterate 2 refine Z ?_
            rotate_left; refine Z ?_
            refine lm ?_; refine tY oky ?_; refine Z ?_; refine tY oky ?_; refine tN okn ?_; iterate 2 refine Z ?_
            rotate_left
            · refine LoopW.keep [true, false, true, true, true, true, false, false, true, false, false, false, false, false, false, false, true, false, false, false, false, false, false, false, false, false, false, false, false, false, false, false, false, false, true, true, false, false, false, false, false, false, true, true, true, true] ?_ ?_
              all_goals dsimp only [keepT]
              · refine weak.mk [] [0, 1, 2, 3, 4, 5, 6, 7, 8, 9, 10, 11, 12] rfl rfl ?_ ?_
                repeat' first | exact trivial | exact rfl | exact Iff.rfl | assumption | refine And.intro ?_ ?_
              · exact key.h
            · refine LoopW.keep [true, false, true, true, true, true, false, false, true, false, false, false, false, false, false, false, true, false, false, false, false, false, false, false, false, false, false, false, false, false, false, false, false, false, true, true, false, false, false, false, false, false, true, true, true, true] ?_ ?_
              all_goals dsimp only [keepT]
              · refine weak.mk [] [0, 1, 2, 3, 4, 5, 6, 7, 8, 9, 10, 11, 12] rfl rfl ?_ ?_
                repeat' first | exact trivial | exact rfl | exact Iff.rfl | assumption | refine And.intro ?_ ?_
              · exact key.h
        · by_cases hd : hasR d.1.1 d.1.2 d.2
          · obtain ⟨f1, f2⟩ := ggR_sum hd
            obtain ⟨f3, f4, f5⟩ := vw_facts hd
            rcases Int.lt_trichotomy (vwW d.1.1 d.1.2 d.2) 0 with g | g | g
            · have f6 := f4 g
              have f7 : ¬ (vwW d.1.1 d.1.2 d.2 = 0) := by omega
              have f8 := fun h => f7 (f5.2 h)
              refine callW.mk [] 13 _ _ _ (rInts_c _ _ okd okd) rfl rfl trivial nofun ?_; refine tN okn ?_; refine callW.mk [] 13 _ _ _ (rInts_c _ _ okd okd) rfl rfl trivial nofun ?_; refine tN okn ?_; refine drawP.mk 43 (Z (Z (Z (Z ?_))))
              apply exP.mk
              exact rfl
              apply exP.mk
              exact rfl
              refine tY oky ?_
              apply exP.mk
              exact rfl
              apply exP.mk
              refine callP.mk _ _ _ (rSum_c _ okd okd) trivial nofun trivial ?_
              exact rfl
              apply exP.mk
              refine Z ?_
              exact rfl
              apply exP.mk
              exact rfl
              apply exP.mk
              exact rfl
              apply exP.mk
              exact rfl
              refine tN okn ?_
              apply exP.mk
              exact rfl
              apply exP.mk
              refine callP.mk _ _ _ (rSum_c _ okd okd) trivial nofun trivial ?_
              exact rfl
              apply exP.mk
              refine Z ?_
              exact rfl
              apply exP.mk
              exact rfl
              apply exP.mk
              exact rfl
              apply exP.mk
              exact rfl
              refine tN okn ?_
              apply exP.mk
              exact rfl
              apply exP.mk
              exact rfl
              apply exP.mk
              exact rfl
              refine tN okn ?_
              apply exP.mk
              exact rfl
              apply exP.mk
              exact rfl
              apply exP.mk
              exact rfl
              apply exP.mk
              exact rfl
              refine tY oky ?_
              apply exP.mk
              exact rfl
              apply exP.mk
              exact rfl
              apply exP.mk
              refine callP.mk _ _ _ (rInts_c _ _ okd okd) trivial nofun trivial ?_
              exact rfl
              apply exP.mk
              exact rfl
              apply exP.mk
              exact rfl
              refine tN okn ?_
              apply exP.mk
              exact rfl
              apply exP.mk
              exact rfl
              apply exP.mk
              exact rfl
              apply exP.mk
              exact rfl
              apply exP.mk
              refine callP.mk _ _ _ (rInts_c _ _ okd okd) trivial nofun trivial ?_
              exact rfl
              apply exP.mk
              exact rfl
              refine tN okn ?_; refine callW.mk [] 13 _ _ _ (ElectPlace_c _ _ okd) rfl rfl trivial nofun ?_; refine callW.mk [] 13 _ _ _ (sElectPlace_c _ _ okd) rfl rfl trivial nofun ?_; iterate 2 refine tN okn ?_
              refine callW.mk [] 13 _ _ _ (ElectTime_c _ _ okd) rfl rfl trivial nofun ?_; refine callW.mk [] 13 _ _ _ (sElectTime_c _ _ okd) rfl rfl trivial nofun ?_; iterate 4 refine tN okn ?_
              refine Z ?_; refine And.intro (by omega) ?_; refine ntm (by omega) ?_; refine tN okn ?_; refine lm ?_; refine twoN (fun _ => ?_) (fun _ => ?_); refine lm ?_; refine Z ?_; refine And.intro (by omega) ?_; refine ntd (by omega) (by omega) (by omega) ?_; refine tN okn ?_; refine Z ?_; refine lm ?_; refine twoP.mk (fun _ => ?_) (fun _ => ?_); refine Z ?_; refine tN okn ?_; iterate 2 refine Z ?_
              rotate_left; iterate 2 refine Z ?_
              rotate_left; refine Z ?_
              refine lm ?_; refine twoP.mk (fun _ => ?_) (fun _ => ?_); refine Z ?_; refine tN okn ?_; iterate 2 refine Z ?_
              rotate_left; iterate 2 refine Z ?_
              rotate_left
              · refine LoopW.keep [true, false, true, true, true, true, false, false, true, false, false, false, false, false, false, false, true, false, false, false, false, false, false, false, false, false, false, false, false, false, false, false, false, false, true, true, false, false, false, false, false, false, true, true, true, true] ?_ ?_
                all_goals dsimp only [keepT]
                · refine weak.mk [] [0, 1, 2, 3, 4, 5, 6, 7, 8, 9, 10, 11, 12] rfl rfl ?_ ?_
                  repeat' first | exact trivial | exact rfl | exact Iff.rfl | assumption | refine And.intro ?_ ?_
                · exact key.h
              · refine LoopW.keep [true, false, true, true, true, true, false, false, true, false, false, false, false, false, false, false, true, false, false, false, false, false, false, false, false, false, false, false, false, false, false, false, false, false, true, true, false, false, false, false, false, false, true, true, true, true] ?_ ?_
                all_goals dsimp only [keepT]
                · refine weak.mk [] [0, 1, 2, 3, 4, 5, 6, 7, 8, 9, 10, 11, 12] rfl rfl ?_ ?_
                  repeat' first | exact trivial | exact rfl | exact Iff.rfl | assumption | refine And.intro ?_ ?_
                · exact key.h
              · refine LoopW.keep [true, false, true, true, true, true, false, false, true, false, false, false, false, false, false, false, true, false, false, false, false, false, false, false, false, false, false, false, false, false, false, false, false, false, true, true, false, false, false, false, false, false, true, true, true, true] ?_ ?_
                all_goals dsimp only [keepT]
                · refine weak.mk [] [0, 1, 2, 3, 4, 5, 6, 7, 8, 9, 10, 11, 12] rfl rfl ?_ ?_
                  repeat' first | exact trivial | exact rfl | exact Iff.rfl | assumption | refine And.intro ?_ ?_
                · exact key.h
              · refine LoopW.keep [true, false, true, true, true, true, false, false, true, false, false, false, false, false, false, false, true, false, false, false, false, false, false, false, false, false, false, false, false, false, false, false, false, false, true, true, false, false, false, false, false, false, true, true, true, true] ?_ ?_
                all_goals dsimp only [keepT]
                · refine weak.mk [] [0, 1, 2, 3, 4, 5, 6, 7, 8, 9, 10, 11, 12] rfl rfl ?_ ?_
                  repeat' first | exact trivial | exact rfl | exact Iff.rfl | assumption | refine And.intro ?_ ?_
                · exact key.h
            · have f6 := f5.1 g
              refine callW.mk [] 13 _ _ _ (rInts_c _ _ okd okd) rfl rfl trivial nofun ?_; refine tN okn ?_; refine callW.mk [] 13 _ _ _ (rInts_c _ _ okd okd) rfl rfl trivial nofun ?_; refine tN okn ?_; refine drawP.mk 43 (Z (Z (Z (Z ?_))))
              apply exP.mk
              exact rfl
              apply exP.mk
              exact rfl
              refine tY oky ?_
              apply exP.mk
              exact rfl
              apply exP.mk
              refine callP.mk _ _ _ (rSum_c _ okd okd) trivial nofun trivial ?_
              exact rfl
              apply exP.mk
              refine Z ?_
              exact rfl
              apply exP.mk
              exact rfl
              apply exP.mk
              exact rfl
              apply exP.mk
              exact rfl
              refine tN okn ?_
              apply exP.mk
              exact rfl
              apply exP.mk
              refine callP.mk _ _ _ (rSum_c _ okd okd) trivial nofun trivial ?_
              exact rfl
              apply exP.mk
              refine Z ?_
              exact rfl
              apply exP.mk
              exact rfl
              apply exP.mk
              exact rfl
              apply exP.mk
              exact rfl
              refine tN okn ?_
              apply exP.mk
              exact rfl
              apply exP.mk
              exact rfl
              apply exP.mk
              exact rfl
              refine tN okn ?_
              apply exP.mk
              exact rfl
              apply exP.mk
              exact rfl
              apply exP.mk
              exact rfl
              apply exP.mk
              exact rfl
              refine tN okn ?_
              apply exP.mk
              exact rfl
              apply exP.mk
              exact rfl
              apply exP.mk
              exact rfl
              apply exP.mk
              exact rfl
              apply exP.mk
              exact rfl
              apply exP.mk
              refine callP.mk _ _ _ (rInts_c _ _ okd okd) trivial nofun trivial ?_
              exact rfl
              apply exP.mk
              exact rfl
              refine tN okn ?_; refine callW.mk [] 13 _ _ _ (ElectPlace_c _ _ okd) rfl rfl trivial nofun ?_; refine callW.mk [] 13 _ _ _ (sElectPlace_c _ _ okd) rfl rfl trivial nofun ?_; iterate 2 refine tN okn ?_
              refine callW.mk [] 13 _ _ _ (ElectTime_c _ _ okd) rfl rfl trivial nofun ?_; refine callW.mk [] 13 _ _ _ (sElectTime_c _ _ okd) rfl rfl trivial nofun ?_; iterate 4 refine tN okn ?_
              refine Z ?_; refine And.intro (by omega) ?_; refine ntm (by omega) ?_; refine tN okn ?_; refine lm ?_; refine twoN (fun _ => ?_) (fun _ => ?_); refine lm ?_; refine Z ?_; refine And.intro (by omega) ?_; refine ntd (by omega) (by omega) (by omega) ?_; refine tN okn ?_; refine Z ?_; refine lm ?_; refine twoP.mk (fun _ => ?_) (fun _ => ?_); refine Z ?_; refine tN okn ?_; iterate 2 refine Z ?_
              rotate_left; iterate 2 refine Z ?_
              rotate_left; refine Z ?_
              refine lm ?_; refine twoP.mk (fun _ => ?_) (fun _ => ?_); refine Z ?_; refine tN okn ?_; iterate 2 refine Z ?_
              rotate_left; iterate 2 refine Z ?_
              rotate_left
              · refine LoopW.keep [true, false, true, true, true, true, false, false, true, false, false, false, false, false, false, false, true, false, false, false, false, false, false, false, false, false, false, false, false, false, false, false, false, false, true, true, false, false, false, false, false, false, true, true, true, true] ?_ ?_
                all_goals dsimp only [keepT]
                · refine weak.mk [] [0, 1, 2, 3, 4, 5, 6, 7, 8, 9, 10, 11, 12] rfl rfl ?_ ?_
                  repeat' first | exact trivial | exact rfl | exact Iff.rfl | assumption | refine And.intro ?_ ?_
                · exact key.h
              · refine LoopW.keep [true, false, true, true, true, true, false, false, true, false, false, false, false, false, false, false, true, false, false, false, false, false, false, false, false, false, false, false, false, false, false, false, false, false, true, true, false, false, false, false, false, false, true, true, true, true] ?_ ?_
                all_goals dsimp only [keepT]
                · refine weak.mk [] [0, 1, 2, 3, 4, 5, 6, 7, 8, 9, 10, 11, 12] rfl rfl ?_ ?_
                  repeat' first | exact trivial | exact rfl | exact Iff.rfl | assumption | refine And.intro ?_ ?_
                · exact key.h
              · refine LoopW.keep [true, false, true, true, true, true, false, false, true, false, false, false, false, false, false, false, true, false, false, false, false, false, false, false, false, false, false, false, false, false, false, false, false, false, true, true, false, false, false, false, false, false, true, true, true, true] ?_ ?_
                all_goals dsimp only [keepT]
                · refine weak.mk [] [0, 1, 2, 3, 4, 5, 6, 7, 8, 9, 10, 11, 12] rfl rfl ?_ ?_
                  repeat' first | exact trivial | exact rfl | exact Iff.rfl | assumption | refine And.intro ?_ ?_
                · exact key.h
              · refine LoopW.keep [true, false, true, true, true, true, false, false, true, false, false, false, false, false, false, false, true, false, false, false, false, false, false, false, false, false, false, false, false, false, false, false, false, false, true, true, false, false, false, false, false, false, true, true, true, true] ?_ ?_
                all_goals dsimp only [keepT]
                · refine weak.mk [] [0, 1, 2, 3, 4, 5, 6, 7, 8, 9, 10, 11, 12] rfl rfl ?_ ?_
                  repeat' first | exact trivial | exact rfl | exact Iff.rfl | assumption | refine And.intro ?_ ?_
                · exact key.h
            · have f6 := f3 g
              have f7 : ¬ (vwW d.1.1 d.1.2 d.2 = 0) := by omega
              have f8 := fun h => f7 (f5.2 h)
              refine callW.mk [] 13 _ _ _ (rInts_c _ _ okd okd) rfl rfl trivial nofun ?_; refine tN okn ?_; refine callW.mk [] 13 _ _ _ (rInts_c _ _ okd okd) rfl rfl trivial nofun ?_; refine tN okn ?_; refine drawP.mk 43 (Z (Z (Z (Z ?_))))
              apply exP.mk
              exact rfl
              apply exP.mk
              exact rfl
              refine tY oky ?_
              apply exP.mk
              exact rfl
              apply exP.mk
              refine callP.mk _ _ _ (rSum_c _ okd okd) trivial nofun trivial ?_
              exact rfl
              apply exP.mk
              refine Z ?_
              exact rfl
              apply exP.mk
              exact rfl
              apply exP.mk
              exact rfl
              apply exP.mk
              exact rfl
              refine tN okn ?_
              apply exP.mk
              exact rfl
              apply exP.mk
              refine callP.mk _ _ _ (rSum_c _ okd okd) trivial nofun trivial ?_
              exact rfl
              apply exP.mk
              refine Z ?_
              exact rfl
              apply exP.mk
              exact rfl
              apply exP.mk
              exact rfl
              apply exP.mk
              exact rfl
              refine tN okn ?_
              apply exP.mk
              exact rfl
              apply exP.mk
              exact rfl
              apply exP.mk
              exact rfl
              refine tY oky ?_
              apply exP.mk
              exact rfl
              apply exP.mk
              exact rfl
              apply exP.mk
              refine callP.mk _ _ _ (rInts_c _ _ okd okd) trivial nofun trivial ?_
              exact rfl
              apply exP.mk
              exact rfl
              apply exP.mk
              exact rfl
              refine tN okn ?_
              apply exP.mk
              exact rfl
              apply exP.mk
              exact rfl
              apply exP.mk
              exact rfl
              refine tN okn ?_
              apply exP.mk
              exact rfl
              apply exP.mk
              exact rfl
              apply exP.mk
              exact rfl
              apply exP.mk
              exact rfl
              apply exP.mk
              exact rfl
              apply exP.mk
              refine callP.mk _ _ _ (rInts_c _ _ okd okd) trivial nofun trivial ?_
              exact rfl
              apply exP.mk
              exact rfl
              refine tN okn ?_; refine callW.mk [] 13 _ _ _ (ElectPlace_c _ _ okd) rfl rfl trivial nofun ?_; refine callW.mk [] 13 _ _ _ (sElectPlace_c _ _ okd) rfl rfl trivial nofun ?_; iterate 2 refine tN okn ?_
              refine callW.mk [] 13 _ _ _ (ElectTime_c _ _ okd) rfl rfl trivial nofun ?_; refine callW.mk [] 13 _ _ _ (sElectTime_c _ _ okd) rfl rfl trivial nofun ?_; iterate 4 refine tN okn ?_
              refine Z ?_; refine And.intro (by omega) ?_; refine ntm (by omega) ?_; refine tN okn ?_; refine lm ?_; refine twoN (fun _ => ?_) (fun _ => ?_); refine lm ?_; refine Z ?_; refine And.intro (by omega) ?_; refine ntd (by omega) (by omega) (by omega) ?_; refine tN okn ?_; refine Z ?_; refine lm ?_; refine twoP.mk (fun _ => ?_) (fun _ => ?_); refine Z ?_; refine tN okn ?_; iterate 2 refine Z ?_
              rotate_left; iterate 2 refine Z ?_
              rotate_left; refine Z ?_
              refine lm ?_; refine twoP.mk (fun _ => ?_) (fun _ => ?_); refine Z ?_; refine tN okn ?_; iterate 2 refine Z ?_
              rotate_left; iterate 2 refine Z ?_
              rotate_left
              · refine LoopW.keep [true, false, true, true, true, true, false, false, true, false, false, false, false, false, false, false, true, false, false, false, false, false, false, false, false, false, false, false, false, false, false, false, false, false, true, true, false, false, false, false, false, false, true, true, true, true] ?_ ?_
                all_goals dsimp only [keepT]
                · refine weak.mk [] [0, 1, 2, 3, 4, 5, 6, 7, 8, 9, 10, 11, 12] rfl rfl ?_ ?_
                  repeat' first | exact trivial | exact rfl | exact Iff.rfl | assumption | refine And.intro ?_ ?_
                · exact key.h
              · refine LoopW.keep [true, false, true, true, true, true, false, false, true, false, false, false, false, false, false, false, true, false, false, false, false, false, false, false, false, false, false, false, false, false, false, false, false, false, true, true, false, false, false, false, false, false, true, true, true, true] ?_ ?_
                all_goals dsimp only [keepT]
                · refine weak.mk [] [0, 1, 2, 3, 4, 5, 6, 7, 8, 9, 10, 11, 12] rfl rfl ?_ ?_
                  repeat' first | exact trivial | exact rfl | exact Iff.rfl | assumption | refine And.intro ?_ ?_
                · exact key.h
              · refine LoopW.keep [true, false, true, true, true, true, false, false, true, false, false, false, false, false, false, false, true, false, false, false, false, false, false, false, false, false, false, false, false, false, false, false, false, false, true, true, false, false, false, false, false, false, true, true, true, true] ?_ ?_
                all_goals dsimp only [keepT]
                · refine weak.mk [] [0, 1, 2, 3, 4, 5, 6, 7, 8, 9, 10, 11, 12] rfl rfl ?_ ?_
                  repeat' first | exact trivial | exact rfl | exact Iff.rfl | assumption | refine And.intro ?_ ?_
                · exact key.h
              · refine LoopW.keep [true, false, true, true, true, true, false, false, true, false, false, false, false, false, false, false, true, false, false, false, false, false, false, false, false, false, false, false, false, false, false, false, false, false, true, true, false, false, false, false, false, false, true, true, true, true] ?_ ?_
                all_goals dsimp only [keepT]
                · refine weak.mk [] [0, 1, 2, 3, 4, 5, 6, 7, 8, 9, 10, 11, 12] rfl rfl ?_ ?_
                  repeat' first | exact trivial | exact rfl | exact Iff.rfl | assumption | refine And.intro ?_ ?_
                · exact key.h
          · refine callW.mk [] 13 _ _ _ (rInts_c _ _ okd okd) rfl rfl trivial nofun ?_
            refine tN okn ?_; refine callW.mk [] 13 _ _ _ (rInts_c _ _ okd okd) rfl rfl trivial nofun ?_; refine tN okn ?_; refine drawP.mk 43 (Z (Z (Z (Z ?_))))
            apply exP.mk
            exact rfl
            apply exP.mk
            exact rfl
            refine tN okn ?_; refine callW.mk [] 13 _ _ _ (ElectPlace_c _ _ okd) rfl rfl trivial nofun ?_; refine callW.mk [] 13 _ _ _ (sElectPlace_c _ _ okd) rfl rfl trivial nofun ?_; iterate 2 refine tN okn ?_
            refine callW.mk [] 13 _ _ _ (ElectTime_c _ _ okd) rfl rfl trivial nofun ?_; refine callW.mk [] 13 _ _ _ (sElectTime_c _ _ okd) rfl rfl trivial nofun ?_; iterate 4 refine tN okn ?_
            refine Z ?_; refine And.intro (by omega) ?_; refine ntm (by omega) ?_; refine tN okn ?_; refine lm ?_; refine twoN (fun _ => ?_) (fun _ => ?_); refine lm ?_; refine Z ?_; refine And.intro (by omega) ?_; refine ntd (by omega) (by omega) (by omega) ?_; refine tN okn ?_; refine Z ?_; refine lm ?_; refine twoP.mk (fun _ => ?_) (fun _ => ?_); refine Z ?_; refine tN okn ?_; iterate 2 refine Z ?_
            rotate_left; iterate 2 refine Z ?_
            rotate_left; refine Z ?_
            refine lm ?_; refine twoP.mk (fun _ => ?_) (fun _ => ?_); refine Z ?_; refine tN okn ?_; iterate 2 refine Z ?_
            rotate_left; iterate 2 refine Z ?_
            rotate_left
            · refine LoopW.keep [true, false, true, true, true, true, false, false, true, false, false, false, false, false, false, false, true, false, false, false, false, false, false, false, false, false, false, false, false, false, false, false, false, false, true, true, false, false, false, false, false, false, true, true, true, true] ?_ ?_
              all_goals dsimp only [keepT]
              · refine weak.mk [] [0, 1, 2, 3, 4, 5, 6, 7, 8, 9, 10, 11, 12] rfl rfl ?_ ?_
                repeat' first | exact trivial | exact rfl | exact Iff.rfl | assumption | refine And.intro ?_ ?_
              · exact key.h
            · refine LoopW.keep [true, false, true, true, true, true, false, false, true, false, false, false, false, false, false, false, true, false, false, false, false, false, false, false, false, false, false, false, false, false, false, false, false, false, true, true, false, false, false, false, false, false, true, true, true, true] ?_ ?_
              all_goals dsimp only [keepT]
              · refine weak.mk [] [0, 1, 2, 3, 4, 5, 6, 7, 8, 9, 10, 11, 12] rfl rfl ?_ ?_
                repeat' first | exact trivial | exact rfl | exact Iff.rfl | assumption | refine And.intro ?_ ?_
              · exact key.h
            · refine LoopW.keep [true, false, true, true, true, true, false, false, true, false, false, false, false, false, false, false, true, false, false, false, false, false, false, false, false, false, false, false, false, false, false, false, false, false, true, true, false, false, false, false, false, false, true, true, true, true] ?_ ?_
              all_goals dsimp only [keepT]
              · refine weak.mk [] [0, 1, 2, 3, 4, 5, 6, 7, 8, 9, 10, 11, 12] rfl rfl ?_ ?_
                repeat' first | exact trivial | exact rfl | exact Iff.rfl | assumption | refine And.intro ?_ ?_
              · exact key.h
            · refine LoopW.keep [true, false, true, true, true, true, false, false, true, false, false, false, false, false, false, false, true, false, false, false, false, false, false, false, false, false, false, false, false, false, false, false, false, false, true, true, false, false, false, false, false, false, true, true, true, true] ?_ ?_
              all_goals dsimp only [keepT]
              · refine weak.mk [] [0, 1, 2, 3, 4, 5, 6, 7, 8, 9, 10, 11, 12] rfl rfl ?_ ?_
                repeat' first | exact trivial | exact rfl | exact Iff.rfl | assumption | refine And.intro ?_ ?_
              · exact key.h

      · rw [rk_yes hc]
        have hXl := ranksL_len c.1 c.2
        have hrm : rigid c.1 c.2 ↔ _ := rigid_most hc
        refine loop_up (β := Nat) (fun k => [(43, pr (∀ i, i < k → wayL c.1 c.2 i ≠ 0)), (44, i64 (mostK (ranksL c.1 c.2) k)), (45, i64 k), (42, .loc 13), (2, .unk)]) (fun k => [(13, rowI ((List.range k).map (viewL c.1 c.2)))]) [1] (fun k => k ≤ c.2.length) (fun k => c.2.length - k) (0) ?_ ?_ ?_
        · exact Nat.zero_le _
        · refine weak.mk [1] [0, 1, 2, 3, 4, 5, 6, 7, 8, 9, 10, 11, 12, 13] rfl rfl ?_ ?_
          repeat' first | exact trivial | exact rfl | exact Iff.rfl | assumption | refine And.intro ?_ ?_
          all_goals exact fun i h => absurd h (Nat.not_lt_zero _)
        · rintro k hk R hR
          have hmb := mostK_bd c.1 c.2 k
          by_cases hkl : k < c.2.length
          · have hh : hasR c.1 c.2 (k : Int) := ⟨hc, by omega, by omega⟩
            have hq := ViewOfT_c c.1 c.2 k (by omega)
            rw [(vw_yes hh).1, (vw_yes hh).2, Int.toNat_natCast] at hq
            have hvl := viewL_len c.1 c.2 k
            have hM : mostK (ranksL c.1 c.2) (k + 1) = max (mostK (ranksL c.1 c.2) k) ((ranksL c.1 c.2)[k]'(by omega)) := by
              show max _ ((ranksL c.1 c.2).getD k 0) = _
              rw [elI_get (by omega)]
            have hnx : (∀ i, i < k + 1 → wayL c.1 c.2 i ≠ 0) ↔ (∀ i, i < k → wayL c.1 c.2 i ≠ 0) ∧ wayL c.1 c.2 k ≠ 0 := way_next
            have hrow : List.map ints (List.map (viewL c.1 c.2) (List.range k) ++ [viewL c.1 c.2 k]) = List.map ints ((List.range (k + 1)).map (viewL c.1 c.2)) := congrArg (List.map ints) (by rw [List.range_succ, List.map_append]; rfl)
            have hrow2 := hrow.symm
            refine lm ?_; refine tY oky ?_; refine callW.mk [] 14 _ _ _ (hq) rfl rfl okk (fun _ => ⟨rfl, rfl⟩) ?_; refine tN okn ?_; iterate 10 refine Z ?_
            refine leP.mk (by first | (simp [big]; omega) | (simp [big]; done)) ?_; refine ea ?_; refine twoP.mk (fun _ => ?_) (fun _ => ?_); iterate 2 rotate_left
            · rename_i hw
              refine loop_up (β := Nat) (fun j => [(49, i64 j), (352, .unk), (354, .unk), (355, .unk), (2, .unk)]) (fun j => [(15, rowI ((List.range (k + 1)).map (viewL c.1 c.2)))]) [] (fun j => j ≤ k) (fun j => k - j) (0) ?_ ?_ ?_
              · exact Nat.zero_le _
              · refine weak.mk [] [0, 1, 2, 3, 4, 5, 6, 7, 8, 9, 10, 11, 12, 13, 14, 15] rfl rfl ?_ ?_
                repeat' first | exact trivial | exact rfl | exact Iff.rfl | assumption | refine And.intro ?_ ?_
                all_goals (first | exact hrow | exact hrow2 | skip)
              · rintro j hj R2 hR2
                by_cases hjk : j < k
                · have hgl : (viewL c.1 c.2 j).length ≤ 1099511627776 := by rw [viewL_len]; omega
                  have hs : (ranksL c.1 c.2)[j]'(by omega) = (ranksL c.1 c.2)[k]'(by omega) ↔ viewL c.1 c.2 j = viewL c.1 c.2 k := rank_same (by omega) hkl
                  refine tY oky ?_; refine drawP.mkS (Z (Z ?_)); refine Z ?_
                  apply exP.mk
                  exact rfl
                  apply exP.mk
                  exact rfl
                  apply exP.mk
                  iterate 2 refine Z ?_
                  refine jkm (by omega) ?_
                  exact rfl
                  apply exP.mk
                  refine gm (by omega) ?_
                  exact rfl
                  apply exP.mk
                  exact rfl
                  apply exP.mk
                  exact rfl
                  apply exP.mk
                  iterate 2 refine Z ?_
                  refine jkm (by omega) ?_
                  exact rfl
                  apply exP.mk
                  refine gm (by omega) ?_
                  exact rfl
                  apply exP.mk
                  exact rfl
                  apply exP.mk
                  exact rfl
                  apply exP.mk
                  exact rfl
                  apply exP.mk
                  iterate 2 refine Z ?_
                  refine jkm (by simp; omega) ?_
                  exact rfl
                  apply exP.mk
                  refine gm (by simp; omega) ?_
                  exact rfl
                  apply exP.mk
                  exact rfl
                  refine callW.mk [] 16 _ _ _ (rInts_c _ _ okd okd) rfl rfl trivial nofun ?_; iterate 3 refine Z ?_
                  refine And.intro ?_ ?_; iterate 2 refine Z ?_
                  refine jkm (by omega) ?_
                  exact rfl
                  refine And.intro ?_ ?_; refine gm (by omega) ?_
                  exact rfl
                  iterate 2 refine Z ?_
                  refine And.intro ?_ ?_; iterate 2 refine Z ?_
                  refine jkm (by omega) ?_
                  exact rfl
                  refine And.intro ?_ ?_; refine gm (by omega) ?_
                  exact rfl
                  refine Z ?_
                  apply exP.mk
                  exact rfl
                  refine twoN (fun _ => ?_) (fun _ => ?_); rotate_left; refine nw (by omega) (by omega) ?_; rotate_left
                  · rename_i hx
                    exact (hx (by rw [List.getElem_map, List.getElem_range]; exact hs)).elim
                  refine hR2 (j + 1) _ _ ?_ (weak.mk [] [0, 1, 2, 3, 4, 5, 6, 7, 8, 9, 10, 11, 12, 13, 14, 15] rfl rfl ?_ ?_)
                  repeat' first | exact trivial | exact rfl | exact Iff.rfl | assumption | refine And.intro ?_ ?_
                  · exact ⟨by omega, by omega⟩
                · by_cases hgt : mostK (ranksL c.1 c.2) k < (ranksL c.1 c.2)[k]'(by omega)
                  · refine tN okn ?_
                    iterate 2 refine Z ?_
                    refine jkm (by omega) ?_; refine gm (by omega) ?_; refine tY oky ?_; iterate 2 refine Z ?_
                    refine jkm (by omega) ?_; refine gm (by omega) ?_; refine nw (by omega) (by omega) ?_; rotate_left; refine hR (k + 1) _ _ ?_ (weak.mk [] [0, 1, 2, 3, 4, 5, 6, 7, 8, 9, 10, 11, 12, 15] rfl rfl ?_ ?_)
                    repeat' first | exact trivial | exact rfl | exact Iff.rfl | assumption | refine And.intro ?_ ?_
                    · exact ⟨by omega, by omega⟩
                    all_goals (first | omega | exact (show _ ↔ _ from ⟨fun x => hnx.2 ⟨hw, x⟩, fun x => (hnx.1 x).2⟩) | skip)
                  · refine tN okn ?_
                    iterate 2 refine Z ?_
                    refine jkm (by omega) ?_; refine gm (by omega) ?_; refine tN okn ?_; refine nw (by omega) (by omega) ?_; rotate_left; refine hR (k + 1) _ _ ?_ (weak.mk [] [0, 1, 2, 3, 4, 5, 6, 7, 8, 9, 10, 11, 12, 15] rfl rfl ?_ ?_)
                    repeat' first | exact trivial | exact rfl | exact Iff.rfl | assumption | refine And.intro ?_ ?_
                    · exact ⟨by omega, by omega⟩
                    all_goals (first | omega | exact (show _ ↔ _ from ⟨fun x => hnx.2 ⟨hw, x⟩, fun x => (hnx.1 x).2⟩) | skip)
            · rename_i hw
              refine loop_up (β := Nat) (fun j => [(49, i64 j), (352, .unk), (354, .unk), (355, .unk), (2, .unk)]) (fun j => [(15, rowI ((List.range (k + 1)).map (viewL c.1 c.2)))]) [] (fun j => j ≤ k) (fun j => k - j) (0) ?_ ?_ ?_
              · exact Nat.zero_le _
              · refine weak.mk [] [0, 1, 2, 3, 4, 5, 6, 7, 8, 9, 10, 11, 12, 13, 14, 15] rfl rfl ?_ ?_
                repeat' first | exact trivial | exact rfl | exact Iff.rfl | assumption | refine And.intro ?_ ?_
                all_goals (first | exact hrow | exact hrow2 | skip)
              · rintro j hj R2 hR2
                by_cases hjk : j < k
                · have hgl : (viewL c.1 c.2 j).length ≤ 1099511627776 := by rw [viewL_len]; omega
                  have hs : (ranksL c.1 c.2)[j]'(by omega) = (ranksL c.1 c.2)[k]'(by omega) ↔ viewL c.1 c.2 j = viewL c.1 c.2 k := rank_same (by omega) hkl
                  refine tY oky ?_; refine drawP.mkS (Z (Z ?_)); refine Z ?_
                  apply exP.mk
                  exact rfl
                  apply exP.mk
                  exact rfl
                  apply exP.mk
                  iterate 2 refine Z ?_
                  refine jkm (by omega) ?_
                  exact rfl
                  apply exP.mk
                  refine gm (by omega) ?_
                  exact rfl
                  apply exP.mk
                  exact rfl
                  apply exP.mk
                  exact rfl
                  apply exP.mk
                  iterate 2 refine Z ?_
                  refine jkm (by omega) ?_
                  exact rfl
                  apply exP.mk
                  refine gm (by omega) ?_
                  exact rfl
                  apply exP.mk
                  exact rfl
                  apply exP.mk
                  exact rfl
                  apply exP.mk
                  exact rfl
                  apply exP.mk
                  iterate 2 refine Z ?_
                  refine jkm (by simp; omega) ?_
                  exact rfl
                  apply exP.mk
                  refine gm (by simp; omega) ?_
                  exact rfl
                  apply exP.mk
                  exact rfl
                  refine callW.mk [] 16 _ _ _ (rInts_c _ _ okd okd) rfl rfl trivial nofun ?_; iterate 3 refine Z ?_
                  refine And.intro ?_ ?_; iterate 2 refine Z ?_
                  refine jkm (by omega) ?_
                  exact rfl
                  refine And.intro ?_ ?_; refine gm (by omega) ?_
                  exact rfl
                  iterate 2 refine Z ?_
                  refine And.intro ?_ ?_; iterate 2 refine Z ?_
                  refine jkm (by omega) ?_
                  exact rfl
                  refine And.intro ?_ ?_; refine gm (by omega) ?_
                  exact rfl
                  refine Z ?_
                  apply exP.mk
                  exact rfl
                  refine twoN (fun _ => ?_) (fun _ => ?_); rotate_left; refine nw (by omega) (by omega) ?_; rotate_left
                  · rename_i hx
                    exact (hx (by rw [List.getElem_map, List.getElem_range]; exact hs)).elim
                  refine hR2 (j + 1) _ _ ?_ (weak.mk [] [0, 1, 2, 3, 4, 5, 6, 7, 8, 9, 10, 11, 12, 13, 14, 15] rfl rfl ?_ ?_)
                  repeat' first | exact trivial | exact rfl | exact Iff.rfl | assumption | refine And.intro ?_ ?_
                  · exact ⟨by omega, by omega⟩
                · by_cases hgt : mostK (ranksL c.1 c.2) k < (ranksL c.1 c.2)[k]'(by omega)
                  · refine tN okn ?_
                    iterate 2 refine Z ?_
                    refine jkm (by omega) ?_; refine gm (by omega) ?_; refine tY oky ?_; iterate 2 refine Z ?_
                    refine jkm (by omega) ?_; refine gm (by omega) ?_; refine nw (by omega) (by omega) ?_; rotate_left; refine hR (k + 1) _ _ ?_ (weak.mk [] [0, 1, 2, 3, 4, 5, 6, 7, 8, 9, 10, 11, 12, 15] rfl rfl ?_ ?_)
                    repeat' first | exact trivial | exact rfl | exact Iff.rfl | assumption | refine And.intro ?_ ?_
                    · exact ⟨by omega, by omega⟩
                    all_goals (first | omega | exact (fun x => hw (hnx.1 x).1) | skip)
                  · refine tN okn ?_
                    iterate 2 refine Z ?_
                    refine jkm (by omega) ?_; refine gm (by omega) ?_; refine tN okn ?_; refine nw (by omega) (by omega) ?_; rotate_left; refine hR (k + 1) _ _ ?_ (weak.mk [] [0, 1, 2, 3, 4, 5, 6, 7, 8, 9, 10, 11, 12, 15] rfl rfl ?_ ?_)
                    repeat' first | exact trivial | exact rfl | exact Iff.rfl | assumption | refine And.intro ?_ ?_
                    · exact ⟨by omega, by omega⟩
                    all_goals (first | omega | exact (fun x => hw (hnx.1 x).1) | skip)
          · obtain rfl : k = c.2.length := by omega
            by_cases hr : rigid c.1 c.2
            · obtain ⟨p1, p2⟩ := hrm.1 hr
              have hpq : (crowd c.1 c.2 ∧ rigid c.1 c.2 ↔ ∀ i, i < c.2.length → wayL c.1 c.2 i ≠ 0) := ⟨fun _ => p2, fun _ => ⟨hc, hr⟩⟩
              by_cases he : crowd c.1 c.2 ∧ 0 ≤ elI c.1 c.2
              · have hmem := epR_mem he
                refine lm ?_; refine tN okn ?_; refine lm ?_; refine nw (by omega) (by omega) ?_; iterate 2 refine tY oky ?_
                refine tN okn ?_; refine Z ?_; refine callW.mk [] 14 _ _ _ (rHas_c _ okd _) rfl rfl trivial nofun ?_; rotate_left
                all_goals exact dv0 rfl hmem
              · refine lm ?_
                refine tN okn ?_; refine lm ?_; refine nw (by omega) (by omega) ?_; iterate 3 refine tY oky ?_
                rotate_left
                all_goals exact dv0 rfl trivial
            · have hrn : ¬ (crowd c.1 c.2 ∧ rigid c.1 c.2) := fun x => hr x.2
              by_cases p1 : mostK (ranksL c.1 c.2) c.2.length = (c.2.length : Int) - 1
              · have p2 : ¬ ∀ i, i < c.2.length → wayL c.1 c.2 i ≠ 0 := fun x => hr (hrm.2 ⟨p1, x⟩)
                have hpq : (crowd c.1 c.2 ∧ rigid c.1 c.2 ↔ ∀ i, i < c.2.length → wayL c.1 c.2 i ≠ 0) := ⟨fun x => absurd x hrn, fun x => absurd x p2⟩
                by_cases he : crowd c.1 c.2 ∧ 0 ≤ elI c.1 c.2
                · have hmem := epR_mem he
                  refine lm ?_; refine tN okn ?_; refine lm ?_; refine nw (by omega) (by omega) ?_; iterate 2 refine tY oky ?_
                  refine tN okn ?_; refine Z ?_; refine callW.mk [] 14 _ _ _ (rHas_c _ okd _) rfl rfl trivial nofun ?_; rotate_left
                  all_goals exact dv0 rfl hmem
                · refine lm ?_
                  refine tN okn ?_; refine lm ?_; refine nw (by omega) (by omega) ?_; iterate 3 refine tY oky ?_
                  rotate_left
                  all_goals exact dv0 rfl trivial
              · by_cases he : crowd c.1 c.2 ∧ 0 ≤ elI c.1 c.2
                · have hmem := epR_mem he
                  refine lm ?_; refine tN okn ?_; refine lm ?_; refine nw (by omega) (by omega) ?_; refine tN okn ?_; refine twoP.mk (fun _ => ?_) (fun _ => ?_); refine tN okn ?_; refine Z ?_; refine callW.mk [] 14 _ _ _ (rHas_c _ okd _) rfl rfl trivial nofun ?_; iterate 2 rotate_left
                  all_goals (first | exact dv0 rfl hmem | (rename_i hx; exact (hx (by first | exact hrn | exact ⟨fun a => absurd a hrn, fun a => absurd a (by decide)⟩)).elim))
                · refine lm ?_
                  refine tN okn ?_; refine lm ?_; refine nw (by omega) (by omega) ?_; refine tN okn ?_; refine twoP.mk (fun _ => ?_) (fun _ => ?_); refine tY oky ?_; iterate 2 rotate_left
                  all_goals (first | exact dv0 rfl trivial | (rename_i hx; exact (hx (by first | exact hrn | exact ⟨fun a => absurd a hrn, fun a => absurd a (by decide)⟩)).elim))
    · by_cases hd : hasR d.1.1 d.1.2 d.2
      · obtain ⟨f1, f2⟩ := ggR_sum hd
        obtain ⟨f3, f4, f5⟩ := vw_facts hd
        rcases Int.lt_trichotomy (vwW d.1.1 d.1.2 d.2) 0 with g | g | g
        · have f6 := f4 g
          have f7 : ¬ (vwW d.1.1 d.1.2 d.2 = 0) := by omega
          have f8 := fun h => f7 (f5.2 h)
          refine callW.mk [] 13 _ _ _ (rInts_c _ _ okd okd) rfl rfl trivial nofun ?_; refine tN okn ?_; refine callW.mk [] 13 _ _ _ (rInts_c _ _ okd okd) rfl rfl trivial nofun ?_; refine tN okn ?_; refine drawP.mk 43 (Z (Z (Z (Z ?_))))
          apply exP.mk
          exact rfl
          apply exP.mk
          exact rfl
          refine tY oky ?_
          apply exP.mk
          exact rfl
          apply exP.mk
          refine callP.mk _ _ _ (rSum_c _ okd okd) trivial nofun trivial ?_
          exact rfl
          apply exP.mk
          refine Z ?_
          exact rfl
          apply exP.mk
          exact rfl
          apply exP.mk
          exact rfl
          apply exP.mk
          exact rfl
          refine tN okn ?_
          apply exP.mk
          exact rfl
          apply exP.mk
          refine callP.mk _ _ _ (rSum_c _ okd okd) trivial nofun trivial ?_
          exact rfl
          apply exP.mk
          refine Z ?_
          exact rfl
          apply exP.mk
          exact rfl
          apply exP.mk
          exact rfl
          apply exP.mk
          exact rfl
          refine tN okn ?_
          apply exP.mk
          exact rfl
          apply exP.mk
          exact rfl
          apply exP.mk
          exact rfl
          refine tN okn ?_
          apply exP.mk
          exact rfl
          apply exP.mk
          exact rfl
          apply exP.mk
          exact rfl
          apply exP.mk
          exact rfl
          refine tY oky ?_
          apply exP.mk
          exact rfl
          apply exP.mk
          exact rfl
          apply exP.mk
          refine callP.mk _ _ _ (rInts_c _ _ okd okd) trivial nofun trivial ?_
          exact rfl
          apply exP.mk
          exact rfl
          apply exP.mk
          exact rfl
          refine tN okn ?_
          apply exP.mk
          exact rfl
          apply exP.mk
          exact rfl
          apply exP.mk
          exact rfl
          apply exP.mk
          exact rfl
          apply exP.mk
          refine callP.mk _ _ _ (rInts_c _ _ okd okd) trivial nofun trivial ?_
          exact rfl
          apply exP.mk
          exact rfl
          refine tN okn ?_; refine callW.mk [] 13 _ _ _ (ElectPlace_c _ _ okd) rfl rfl trivial nofun ?_; refine callW.mk [] 13 _ _ _ (sElectPlace_c _ _ okd) rfl rfl trivial nofun ?_; iterate 2 refine tN okn ?_
          refine callW.mk [] 13 _ _ _ (ElectTime_c _ _ okd) rfl rfl trivial nofun ?_; refine callW.mk [] 13 _ _ _ (sElectTime_c _ _ okd) rfl rfl trivial nofun ?_; iterate 3 refine tN okn ?_
          refine tY oky ?_; rotate_left
          all_goals exact dv0 rfl trivial
        · have f6 := f5.1 g
          refine callW.mk [] 13 _ _ _ (rInts_c _ _ okd okd) rfl rfl trivial nofun ?_; refine tN okn ?_; refine callW.mk [] 13 _ _ _ (rInts_c _ _ okd okd) rfl rfl trivial nofun ?_; refine tN okn ?_; refine drawP.mk 43 (Z (Z (Z (Z ?_))))
          apply exP.mk
          exact rfl
          apply exP.mk
          exact rfl
          refine tY oky ?_
          apply exP.mk
          exact rfl
          apply exP.mk
          refine callP.mk _ _ _ (rSum_c _ okd okd) trivial nofun trivial ?_
          exact rfl
          apply exP.mk
          refine Z ?_
          exact rfl
          apply exP.mk
          exact rfl
          apply exP.mk
          exact rfl
          apply exP.mk
          exact rfl
          refine tN okn ?_
          apply exP.mk
          exact rfl
          apply exP.mk
          refine callP.mk _ _ _ (rSum_c _ okd okd) trivial nofun trivial ?_
          exact rfl
          apply exP.mk
          refine Z ?_
          exact rfl
          apply exP.mk
          exact rfl
          apply exP.mk
          exact rfl
          apply exP.mk
          exact rfl
          refine tN okn ?_
          apply exP.mk
          exact rfl
          apply exP.mk
          exact rfl
          apply exP.mk
          exact rfl
          refine tN okn ?_
          apply exP.mk
          exact rfl
          apply exP.mk
          exact rfl
          apply exP.mk
          exact rfl
          apply exP.mk
          exact rfl
          refine tN okn ?_
          apply exP.mk
          exact rfl
          apply exP.mk
          exact rfl
          apply exP.mk
          exact rfl
          apply exP.mk
          exact rfl
          apply exP.mk
          exact rfl
          apply exP.mk
          refine callP.mk _ _ _ (rInts_c _ _ okd okd) trivial nofun trivial ?_
          exact rfl
          apply exP.mk
          exact rfl
          refine tN okn ?_; refine callW.mk [] 13 _ _ _ (ElectPlace_c _ _ okd) rfl rfl trivial nofun ?_; refine callW.mk [] 13 _ _ _ (sElectPlace_c _ _ okd) rfl rfl trivial nofun ?_; iterate 2 refine tN okn ?_
          refine callW.mk [] 13 _ _ _ (ElectTime_c _ _ okd) rfl rfl trivial nofun ?_; refine callW.mk [] 13 _ _ _ (sElectTime_c _ _ okd) rfl rfl trivial nofun ?_; iterate 3 refine tN okn ?_
          refine tY oky ?_; rotate_left
          all_goals exact dv0 rfl trivial
        · have f6 := f3 g
          have f7 : ¬ (vwW d.1.1 d.1.2 d.2 = 0) := by omega
          have f8 := fun h => f7 (f5.2 h)
          refine callW.mk [] 13 _ _ _ (rInts_c _ _ okd okd) rfl rfl trivial nofun ?_; refine tN okn ?_; refine callW.mk [] 13 _ _ _ (rInts_c _ _ okd okd) rfl rfl trivial nofun ?_; refine tN okn ?_; refine drawP.mk 43 (Z (Z (Z (Z ?_))))
          apply exP.mk
          exact rfl
          apply exP.mk
          exact rfl
          refine tY oky ?_
          apply exP.mk
          exact rfl
          apply exP.mk
          refine callP.mk _ _ _ (rSum_c _ okd okd) trivial nofun trivial ?_
          exact rfl
          apply exP.mk
          refine Z ?_
          exact rfl
          apply exP.mk
          exact rfl
          apply exP.mk
          exact rfl
          apply exP.mk
          exact rfl
          refine tN okn ?_
          apply exP.mk
          exact rfl
          apply exP.mk
          refine callP.mk _ _ _ (rSum_c _ okd okd) trivial nofun trivial ?_
          exact rfl
          apply exP.mk
          refine Z ?_
          exact rfl
          apply exP.mk
          exact rfl
          apply exP.mk
          exact rfl
          apply exP.mk
          exact rfl
          refine tN okn ?_
          apply exP.mk
          exact rfl
          apply exP.mk
          exact rfl
          apply exP.mk
          exact rfl
          refine tY oky ?_
          apply exP.mk
          exact rfl
          apply exP.mk
          exact rfl
          apply exP.mk
          refine callP.mk _ _ _ (rInts_c _ _ okd okd) trivial nofun trivial ?_
          exact rfl
          apply exP.mk
          exact rfl
          apply exP.mk
          exact rfl
          refine tN okn ?_
          apply exP.mk
          exact rfl
          apply exP.mk
          exact rfl
          apply exP.mk
          exact rfl
          refine tN okn ?_
          apply exP.mk
          exact rfl
          apply exP.mk
          exact rfl
          apply exP.mk
          exact rfl
          apply exP.mk
          exact rfl
          apply exP.mk
          exact rfl
          apply exP.mk
          refine callP.mk _ _ _ (rInts_c _ _ okd okd) trivial nofun trivial ?_
          exact rfl
          apply exP.mk
          exact rfl
          refine tN okn ?_; refine callW.mk [] 13 _ _ _ (ElectPlace_c _ _ okd) rfl rfl trivial nofun ?_; refine callW.mk [] 13 _ _ _ (sElectPlace_c _ _ okd) rfl rfl trivial nofun ?_; iterate 2 refine tN okn ?_
          refine callW.mk [] 13 _ _ _ (ElectTime_c _ _ okd) rfl rfl trivial nofun ?_; refine callW.mk [] 13 _ _ _ (sElectTime_c _ _ okd) rfl rfl trivial nofun ?_; iterate 3 refine tN okn ?_
          refine tY oky ?_; rotate_left
          all_goals exact dv0 rfl trivial
      · refine callW.mk [] 13 _ _ _ (rInts_c _ _ okd okd) rfl rfl trivial nofun ?_
        refine tN okn ?_; refine callW.mk [] 13 _ _ _ (rInts_c _ _ okd okd) rfl rfl trivial nofun ?_; refine tN okn ?_; refine drawP.mk 43 (Z (Z (Z (Z ?_))))
        apply exP.mk
        exact rfl
        apply exP.mk
        exact rfl
        refine tN okn ?_; refine callW.mk [] 13 _ _ _ (ElectPlace_c _ _ okd) rfl rfl trivial nofun ?_; refine callW.mk [] 13 _ _ _ (sElectPlace_c _ _ okd) rfl rfl trivial nofun ?_; iterate 2 refine tN okn ?_
        refine callW.mk [] 13 _ _ _ (ElectTime_c _ _ okd) rfl rfl trivial nofun ?_; refine callW.mk [] 13 _ _ _ (sElectTime_c _ _ okd) rfl rfl trivial nofun ?_; iterate 3 refine tN okn ?_
        refine tY oky ?_; rotate_left
        all_goals exact dv0 rfl trivial
end Sx
