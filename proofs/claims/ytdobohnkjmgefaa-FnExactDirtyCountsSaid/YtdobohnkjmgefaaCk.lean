/- Contracts: dirty places counted. -/
import Derived.Test.YtdobohnkjmgefaaCg
import Derived.Test.YtdobohnkjmgefaaMxK
set_option linter.all false
namespace Sx
open Go Go.Proofs
set_option maxRecDepth 100000
set_option maxHeartbeats 4000000
set_option linter.unusedSimpArgs false
theorem DirtyCounts_c (n : Int) (b : Bool) (L : List (List Int)) (hL : L.length ≤ 1099511627775) (hl : ∀ l ∈ L, l.length ≤ 1099511627776) : C 17 [rd n b, intss L] [] (.tuple [.loc 0, pr (chasers n b L)]) [row (cntsR n b L)] false := by
  refine mkC false false Try.func17 rfl ?_
  refine And.intro nofun ?_
  by_cases hc : chasers n b L
  · have hr := hc.1
    have hw : lenOk L := chasers_len hc
    have hb := lng_bd L hw
    have hLl : 1 ≤ L.length := by have := hc.2.2.1; omega
    have hne : L ≠ [] := by rintro rfl; simp at hLl
    have h1 := hb.2.2 hne
    have hd := dirts_len n b L (lng L).toNat
    have hx : ∀ d ∈ dirts n b L (lng L).toNat, bits n d := dirts_bits (by omega)
    rw [cntsR_yes hc]
    refine Z ?_
    refine callW.mk [] 1 _ _ _ (areChasers_c _ _ _ (by first | omega | assumption | (simp; omega) | (simp; done) | exact hl _ (List.getElem_mem _) | exact hx _ (List.getElem_mem _)) (by first | omega | assumption | (simp; omega) | (simp; done) | exact hl _ (List.getElem_mem _) | exact hx _ (List.getElem_mem _))) rfl rfl trivial nofun ?_
    refine tN (by first | omega | assumption | exact fun h => h (by assumption) | exact fun h => h rfl | exact fun h => h Iff.rfl) ?_
    iterate 2 refine Z ?_
    refine drawP.mk 7 (Z (Z (Z (Z ?_))))
    apply exP.mk
    exact rfl
    apply exP.mk
    exact rfl
    apply exP.mk
    exact rfl
    apply exP.mk
    refine callP.mk _ _ _ (longest_c _ (by first | omega | assumption | (simp; omega) | (simp; done) | exact hl _ (List.getElem_mem _) | exact hx _ (List.getElem_mem _)) (by first | omega | assumption | (simp; omega) | (simp; done) | exact hl _ (List.getElem_mem _) | exact hx _ (List.getElem_mem _))) trivial nofun trivial ?_
    exact rfl
    apply exP.mk
    refine callP.mk _ _ _ (dirtyLists_c _ _ (by first | omega | assumption | (simp; omega) | (simp; done) | exact hl _ (List.getElem_mem _) | exact hx _ (List.getElem_mem _)) _ (by first | omega | assumption | (simp; omega) | (simp; done) | exact hl _ (List.getElem_mem _) | exact hx _ (List.getElem_mem _)) (by first | omega | assumption | (simp; omega) | (simp; done) | exact hl _ (List.getElem_mem _) | exact hx _ (List.getElem_mem _)) _ (by first | omega | assumption | (simp; omega) | (simp; done) | exact hl _ (List.getElem_mem _) | exact hx _ (List.getElem_mem _))) (by repeat' first | exact trivial | assumption | exact knownSS | exact knownApp knownSS knownNil | refine And.intro ?_ ?_) nofun (by repeat' first | exact trivial | assumption | exact knownSS | exact knownApp knownSS knownNil | refine And.intro ?_ ?_) ?_
    exact rfl
    apply exP.mk
    refine lm ?_
    exact rfl
    apply exP.mk
    exact rfl
    rotate_left
    refine loop_up (β := Nat) (fun k => [(23, i64 k), (6, .loc 1)]) (fun k => [(1, row (((dirts n b L (lng L).toNat).take k).map List.sum))]) [1] (fun k => k ≤ (dirts n b L (lng L).toNat).length) (fun k => (dirts n b L (lng L).toNat).length - k) (0) ?_ ?_ ?_
    · omega
    · refine weak.mk [1] [0, 1] rfl rfl ?_ ?_
      repeat' first | exact trivial | exact rfl | exact Iff.rfl | assumption | exact pureI | exact (show _ = _ by omega) | exact (show _ ≤ _ by omega) | exact (show _ < _ by omega) | exact (show ¬ _ by omega) | refine And.intro ?_ ?_
    · rintro k hk R hR
      by_cases hkn : k < (dirts n b L (lng L).toNat).length
      · obtain ⟨d, hdk⟩ : ∃ d, (dirts n b L (lng L).toNat)[k] = d := ⟨_, rfl⟩
        have hbd : bits n d := by rw [← hdk]; exact hx _ (List.getElem_mem _)
        have hbs := sum_bd (l := d) (M := 1) (by omega) hbd.1
        refine tY (by first | omega | assumption | exact rfl | exact Iff.rfl) ?_
        iterate 2 refine Z ?_
        refine jkm (by omega) ?_
        refine gmv (by omega) hdk ?_
        refine lm ?_
        rotate_left
        refine loop_up (β := Nat) (fun j => [(29, i64 j), (9, i64 ((d.take j).sum))]) (fun j => []) [] (fun j => j ≤ d.length) (fun j => d.length - j) (0) ?_ ?_ ?_
        · omega
        · refine weak.mk [] [0, 1] rfl rfl ?_ ?_
          repeat' first | exact trivial | exact rfl | exact Iff.rfl | assumption | exact pureI | exact (show _ = _ by omega) | exact (show _ ≤ _ by omega) | exact (show _ < _ by omega) | exact (show ¬ _ by omega) | refine And.intro ?_ ?_
        · rintro j hj R2 hR2
          have h3 := hbs j hj
          by_cases hjn : j < d.length
          · have h4 := hbs (j + 1) hjn
            rw [sum_snoc hjn] at h4
            refine tY (by first | omega | assumption | exact rfl | exact Iff.rfl) ?_
            iterate 2 refine Z ?_
            refine jkm (by omega) ?_
            refine gm (by omega) ?_
            iterate 2 refine nw (by omega) (by omega) ?_
            rotate_left
            refine hR2 (j + 1) _ _ ?_ ?_
            rotate_left
            refine weak.mk [] [0, 1] rfl rfl ?_ ?_
            repeat' first | exact trivial | exact rfl | exact Iff.rfl | assumption | exact pureI | exact (show _ = _ by omega) | exact (show _ ≤ _ by omega) | exact (show _ < _ by omega) | exact (show ¬ _ by omega) | refine And.intro ?_ ?_
            rotate_right
            · exact ⟨by omega, by omega⟩
            · rw [sum_snoc hjn]
          · refine tN (by first | omega | assumption | exact fun h => h (by assumption) | exact fun h => h rfl | exact fun h => h Iff.rfl) ?_
            iterate 10 refine Z ?_
            refine leP.mk (by first | (simp [big]; omega) | (simp [big]; done)) ?_
            refine ea ?_
            refine nw (by omega) (by omega) ?_
            rotate_left
            refine hR (k + 1) _ _ ?_ ?_
            rotate_left
            refine weak.mk [] [0, 3] rfl rfl ?_ ?_
            repeat' first | exact trivial | exact rfl | exact Iff.rfl | assumption | exact pureI | exact (show _ = _ by omega) | exact (show _ ≤ _ by omega) | exact (show _ < _ by omega) | exact (show ¬ _ by omega) | refine And.intro ?_ ?_
            rotate_right
            · exact ⟨by omega, by omega⟩
            · have e2 : d.take j = d := List.take_of_length_le (by omega)
              rw [cnts_snoc hkn, hdk, e2]
      · refine tN (by first | omega | assumption | exact fun h => h (by assumption) | exact fun h => h rfl | exact fun h => h Iff.rfl) ?_
        rotate_left
        refine doneV.mk [] [1] rfl rfl ?_ ?_ ?_
        repeat' first | exact trivial | exact rfl | exact Iff.rfl | assumption | exact pureI | exact (show _ = _ by omega) | exact (show _ ≤ _ by omega) | exact (show _ < _ by omega) | exact (show ¬ _ by omega) | refine And.intro ?_ ?_
        rw [List.take_of_length_le (by omega)]
  · refine Z ?_
    refine callW.mk [] 1 _ _ _ (areChasers_c _ _ _ (by first | omega | assumption | (simp; omega) | (simp; done) | exact hl _ (List.getElem_mem _)) (by first | omega | assumption | (simp; omega) | (simp; done) | exact hl _ (List.getElem_mem _))) rfl rfl trivial nofun ?_
    refine tY (by first | omega | assumption | exact rfl | exact Iff.rfl) ?_
    rotate_left
    rw [cntsR_no hc]
    refine doneV.mk [1] [1] rfl rfl ?_ ?_ ?_
    repeat' first | exact trivial | exact rfl | exact Iff.rfl | assumption | exact pureI | exact (show _ = _ by omega) | exact (show _ ≤ _ by omega) | exact (show _ < _ by omega) | exact (show ¬ _ by omega) | refine And.intro ?_ ?_
theorem sDirtyCounts_c (n : Int) (b : Bool) (L : List (List Int)) (hL : L.length ≤ 1099511627775) (hl : ∀ l ∈ L, l.length ≤ 1099511627776) : C 14 [rd n b, intss L] [] (.tuple [.loc 0, pr (chasers n b L)]) [row (cntsR n b L)] false := by
  refine mkC false false Try.func14 rfl ?_
  refine And.intro nofun ?_
  by_cases hc : chasers n b L
  · have hr := hc.1
    have hw : lenOk L := chasers_len hc
    have hb := lng_bd L hw
    have hLl : 1 ≤ L.length := by have := hc.2.2.1; omega
    have hne : L ≠ [] := by rintro rfl; simp at hLl
    have h1 := hb.2.2 hne
    have e : (lng L - 1).toNat + 1 = (lng L).toNat := by omega
    have hd := dirts_len n b L ((lng L - 1).toNat + 1)
    have hx : ∀ d ∈ dirts n b L ((lng L - 1).toNat + 1), bits n d := dirts_bits (by omega)
    rw [cntsR_yes hc, ← e]
    iterate 3 refine Z ?_
    refine callW.mk [] 1 _ _ _ (l11Chasers_c _ _ _ (by first | omega | assumption | (simp; omega) | (simp; done) | exact hl _ (List.getElem_mem _) | exact hx _ (List.getElem_mem _)) (by first | omega | assumption | (simp; omega) | (simp; done) | exact hl _ (List.getElem_mem _) | exact hx _ (List.getElem_mem _))) rfl rfl trivial nofun ?_
    refine tN (by first | omega | assumption | exact fun h => h (by assumption) | exact fun h => h rfl | exact fun h => h Iff.rfl) ?_
    refine drawP.mk 6 (Z (Z (Z (Z ?_))))
    apply exP.mk
    exact rfl
    apply exP.mk
    exact rfl
    apply exP.mk
    exact rfl
    apply exP.mk
    refine callP.mk _ _ _ (l11Last_c _ (by first | omega | assumption | (simp; omega) | (simp; done) | exact hl _ (List.getElem_mem _) | exact hx _ (List.getElem_mem _)) (by first | omega | assumption | (simp; omega) | (simp; done) | exact hl _ (List.getElem_mem _) | exact hx _ (List.getElem_mem _)) (by first | omega | assumption | (simp; omega) | (simp; done) | exact hl _ (List.getElem_mem _) | exact hx _ (List.getElem_mem _))) trivial nofun trivial ?_
    exact rfl
    apply exP.mk
    refine callP.mk _ _ _ (l11Dirty_c _ _ (by first | omega | assumption | (simp; omega) | (simp; done) | exact hl _ (List.getElem_mem _) | exact hx _ (List.getElem_mem _)) _ (by first | omega | assumption | (simp; omega) | (simp; done) | exact hl _ (List.getElem_mem _) | exact hx _ (List.getElem_mem _)) (by first | omega | assumption | (simp; omega) | (simp; done) | exact hl _ (List.getElem_mem _) | exact hx _ (List.getElem_mem _)) _ (by first | omega | assumption | (simp; omega) | (simp; done) | exact hl _ (List.getElem_mem _) | exact hx _ (List.getElem_mem _))) (by repeat' first | exact trivial | assumption | exact knownSS | exact knownApp knownSS knownNil | refine And.intro ?_ ?_) nofun (by repeat' first | exact trivial | assumption | exact knownSS | exact knownApp knownSS knownNil | refine And.intro ?_ ?_) ?_
    exact rfl
    apply exP.mk
    exact rfl
    rotate_left
    refine loop_up (β := Nat) (fun k => [(8, i64 k), (6, .loc 1)]) (fun k => [(1, row (((dirts n b L ((lng L - 1).toNat + 1)).take k).map List.sum))]) [1] (fun k => k ≤ (dirts n b L ((lng L - 1).toNat + 1)).length) (fun k => (dirts n b L ((lng L - 1).toNat + 1)).length - k) (0) ?_ ?_ ?_
    · omega
    · refine weak.mk [1] [0, 1] rfl rfl ?_ ?_
      repeat' first | exact trivial | exact rfl | exact Iff.rfl | assumption | exact pureI | exact (show _ = _ by omega) | exact (show _ ≤ _ by omega) | exact (show _ < _ by omega) | exact (show ¬ _ by omega) | refine And.intro ?_ ?_
    · rintro k hk R hR
      by_cases hkn : k < (dirts n b L ((lng L - 1).toNat + 1)).length
      · obtain ⟨d, hdk⟩ : ∃ d, (dirts n b L ((lng L - 1).toNat + 1))[k] = d := ⟨_, rfl⟩
        have hbd : bits n d := by rw [← hdk]; exact hx _ (List.getElem_mem _)
        have hbs := sum_bd (l := d) (M := 1) (by omega) hbd.1
        have hbl := hbd.2
        refine lm ?_
        refine tY (by first | omega | assumption | exact rfl | exact Iff.rfl) ?_
        rotate_left
        refine loop_up (β := Nat) (fun j => [(10, i64 j), (9, i64 ((d.take j).sum))]) (fun j => []) [] (fun j => j ≤ d.length) (fun j => d.length - j) (0) ?_ ?_ ?_
        · omega
        · refine weak.mk [] [0, 1] rfl rfl ?_ ?_
          repeat' first | exact trivial | exact rfl | exact Iff.rfl | assumption | exact pureI | exact (show _ = _ by omega) | exact (show _ ≤ _ by omega) | exact (show _ < _ by omega) | exact (show ¬ _ by omega) | refine And.intro ?_ ?_
        · rintro j hj R2 hR2
          have h3 := hbs j hj
          by_cases hjn : j < d.length
          · have h4 := hbs (j + 1) hjn
            rw [sum_snoc hjn] at h4
            refine Z ?_
            refine tY (by first | omega | assumption | exact rfl | exact Iff.rfl) ?_
            iterate 2 refine Z ?_
            refine jkm (by omega) ?_
            refine gmv (by omega) hdk ?_
            iterate 2 refine Z ?_
            refine jkm (by omega) ?_
            refine gm (by omega) ?_
            iterate 2 refine nw (by omega) (by omega) ?_
            rotate_left
            refine hR2 (j + 1) _ _ ?_ ?_
            rotate_left
            refine weak.mk [] [0, 1] rfl rfl ?_ ?_
            repeat' first | exact trivial | exact rfl | exact Iff.rfl | assumption | exact pureI | exact (show _ = _ by omega) | exact (show _ ≤ _ by omega) | exact (show _ < _ by omega) | exact (show ¬ _ by omega) | refine And.intro ?_ ?_
            rotate_right
            · exact ⟨by omega, by omega⟩
            · rw [sum_snoc hjn]
          · refine Z ?_
            refine tN (by first | omega | assumption | exact fun h => h (by assumption) | exact fun h => h rfl | exact fun h => h Iff.rfl) ?_
            iterate 10 refine Z ?_
            refine leP.mk (by first | (simp [big]; omega) | (simp [big]; done)) ?_
            refine ea ?_
            refine nw (by omega) (by omega) ?_
            rotate_left
            refine hR (k + 1) _ _ ?_ ?_
            rotate_left
            refine weak.mk [] [0, 3] rfl rfl ?_ ?_
            repeat' first | exact trivial | exact rfl | exact Iff.rfl | assumption | exact pureI | exact (show _ = _ by omega) | exact (show _ ≤ _ by omega) | exact (show _ < _ by omega) | exact (show ¬ _ by omega) | refine And.intro ?_ ?_
            rotate_right
            · exact ⟨by omega, by omega⟩
            · have e2 : d.take j = d := List.take_of_length_le (by omega)
              rw [cnts_snoc hkn, hdk, e2]
      · refine lm ?_
        refine tN (by first | omega | assumption | exact fun h => h (by assumption) | exact fun h => h rfl | exact fun h => h Iff.rfl) ?_
        rotate_left
        refine doneV.mk [] [1] rfl rfl ?_ ?_ ?_
        repeat' first | exact trivial | exact rfl | exact Iff.rfl | assumption | exact pureI | exact (show _ = _ by omega) | exact (show _ ≤ _ by omega) | exact (show _ < _ by omega) | exact (show ¬ _ by omega) | refine And.intro ?_ ?_
        rw [List.take_of_length_le (by omega)]
  · iterate 3 refine Z ?_
    refine callW.mk [] 1 _ _ _ (l11Chasers_c _ _ _ (by first | omega | assumption | (simp; omega) | (simp; done) | exact hl _ (List.getElem_mem _)) (by first | omega | assumption | (simp; omega) | (simp; done) | exact hl _ (List.getElem_mem _))) rfl rfl trivial nofun ?_
    refine tY (by first | omega | assumption | exact rfl | exact Iff.rfl) ?_
    rotate_left
    rw [cntsR_no hc]
    refine doneV.mk [1] [1] rfl rfl ?_ ?_ ?_
    repeat' first | exact trivial | exact rfl | exact Iff.rfl | assumption | exact pureI | exact (show _ = _ by omega) | exact (show _ ≤ _ by omega) | exact (show _ < _ by omega) | exact (show ¬ _ by omega) | refine And.intro ?_ ?_
theorem FnExactDirtyCounts_c (n : Int) (b : Bool) (L : List (List Int)) (hL : L.length ≤ 9223372036854775807) (hl : ∀ l ∈ L, l.length ≤ 9223372036854775807) : C 3 [rd n b, intss L] [] .tt [] false := by
  refine mkC false false Try.func3 rfl ?_
  refine And.intro nofun ?_
  by_cases hs : szSS L 1048576 < 0
  · refine Z ?_
    refine callW.mk [] 1 _ _ _ (szIntSS_c _ (by first | omega | assumption | (simp; omega) | (simp; done) | exact hl _ (List.getElem_mem _)) (by first | omega | assumption | (simp; omega) | (simp; done) | exact hl _ (List.getElem_mem _)) _ (by first | omega | assumption | (simp; omega) | (simp; done) | exact hl _ (List.getElem_mem _)) (by first | omega | assumption | (simp; omega) | (simp; done) | exact hl _ (List.getElem_mem _))) rfl rfl trivial nofun ?_
    refine tY (by first | omega | assumption | exact rfl | exact Iff.rfl) ?_
    rotate_left
    all_goals exact dv0 rfl trivial
  · obtain ⟨h1, h2⟩ := szSS_ok hs
    have hd := @cntsR_len n b L
    have h3 : ∀ l ∈ L, l.length ≤ 1099511627776 := fun l h => by have := h2 l h; omega
    refine Z ?_
    refine callW.mk [] 1 _ _ _ (szIntSS_c _ (by first | omega | assumption | (simp; omega) | (simp; done) | exact hl _ (List.getElem_mem _) | exact h2 _ (List.getElem_mem _) | exact h3 _ (List.getElem_mem _)) (by first | omega | assumption | (simp; omega) | (simp; done) | exact hl _ (List.getElem_mem _) | exact h2 _ (List.getElem_mem _) | exact h3 _ (List.getElem_mem _)) _ (by first | omega | assumption | (simp; omega) | (simp; done) | exact hl _ (List.getElem_mem _) | exact h2 _ (List.getElem_mem _) | exact h3 _ (List.getElem_mem _)) (by first | omega | assumption | (simp; omega) | (simp; done) | exact hl _ (List.getElem_mem _) | exact h2 _ (List.getElem_mem _) | exact h3 _ (List.getElem_mem _))) rfl rfl trivial nofun ?_
    refine tN (by first | omega | assumption | exact fun h => h (by assumption) | exact fun h => h rfl | exact fun h => h Iff.rfl) ?_
    refine callW.mk [] 1 _ _ _ (toRoad_c _ _) rfl rfl trivial nofun ?_
    refine callW.mk [] 1 _ _ _ (toIntSS_c _ (by first | omega | assumption | (simp; omega) | (simp; done) | exact hl _ (List.getElem_mem _) | exact h2 _ (List.getElem_mem _) | exact h3 _ (List.getElem_mem _)) (by first | omega | assumption | (simp; omega) | (simp; done) | exact hl _ (List.getElem_mem _) | exact h2 _ (List.getElem_mem _) | exact h3 _ (List.getElem_mem _))) rfl rfl trivial nofun ?_
    refine callW.mk [] 2 _ _ _ (sDirtyCounts_c _ _ _ (by first | omega | assumption | (simp; omega) | (simp; done) | exact hl _ (List.getElem_mem _) | exact h2 _ (List.getElem_mem _) | exact h3 _ (List.getElem_mem _)) (by first | omega | assumption | (simp; omega) | (simp; done) | exact hl _ (List.getElem_mem _) | exact h2 _ (List.getElem_mem _) | exact h3 _ (List.getElem_mem _))) rfl rfl (by repeat' first | exact trivial | assumption | exact knownSS | exact knownApp knownSS knownNil | refine And.intro ?_ ?_) nofun ?_
    refine callW.mk [] 3 _ _ _ (toIntSS_c _ (by first | omega | assumption | (simp; omega) | (simp; done) | exact hl _ (List.getElem_mem _) | exact h2 _ (List.getElem_mem _) | exact h3 _ (List.getElem_mem _)) (by first | omega | assumption | (simp; omega) | (simp; done) | exact hl _ (List.getElem_mem _) | exact h2 _ (List.getElem_mem _) | exact h3 _ (List.getElem_mem _))) rfl rfl (by repeat' first | exact trivial | assumption | exact knownSS | exact knownApp knownSS knownNil | refine And.intro ?_ ?_) nofun ?_
    refine callW.mk [] 4 _ _ _ (toRoad_c _ _) rfl rfl (by repeat' first | exact trivial | assumption | exact knownSS | exact knownApp knownSS knownNil | refine And.intro ?_ ?_) nofun ?_
    refine callW.mk [] 4 _ _ _ (DirtyCounts_c _ _ _ (by first | omega | assumption | (simp; omega) | (simp; done) | exact hl _ (List.getElem_mem _) | exact h2 _ (List.getElem_mem _) | exact h3 _ (List.getElem_mem _)) (by first | omega | assumption | (simp; omega) | (simp; done) | exact hl _ (List.getElem_mem _) | exact h2 _ (List.getElem_mem _) | exact h3 _ (List.getElem_mem _))) rfl rfl (by repeat' first | exact trivial | assumption | exact knownSS | exact knownApp knownSS knownNil | refine And.intro ?_ ?_) nofun ?_
    refine callW.mk [] 5 _ _ _ (eqIntS_c _ _ (by first | omega | assumption | (simp; omega) | (simp; done) | exact hl _ (List.getElem_mem _) | exact h2 _ (List.getElem_mem _) | exact h3 _ (List.getElem_mem _)) (by first | omega | assumption | (simp; omega) | (simp; done) | exact hl _ (List.getElem_mem _) | exact h2 _ (List.getElem_mem _) | exact h3 _ (List.getElem_mem _))) rfl rfl (by repeat' first | exact trivial | assumption | exact knownSS | exact knownApp knownSS knownNil | refine And.intro ?_ ?_) nofun ?_
    iterate 2 refine tN (by first | omega | assumption | exact fun h => h (by assumption) | exact fun h => h rfl | exact fun h => h Iff.rfl) ?_
    refine callW.mk [] 5 _ _ _ (toIntSS_c _ (by first | omega | assumption | (simp; omega) | (simp; done) | exact hl _ (List.getElem_mem _) | exact h2 _ (List.getElem_mem _) | exact h3 _ (List.getElem_mem _)) (by first | omega | assumption | (simp; omega) | (simp; done) | exact hl _ (List.getElem_mem _) | exact h2 _ (List.getElem_mem _) | exact h3 _ (List.getElem_mem _))) rfl rfl (by repeat' first | exact trivial | assumption | exact knownSS | exact knownApp knownSS knownNil | refine And.intro ?_ ?_) nofun ?_
    refine callW.mk [] 6 _ _ _ (eqIntSS_c _ _ (by first | omega | assumption | (simp; omega) | (simp; done) | exact hl _ (List.getElem_mem _) | exact h2 _ (List.getElem_mem _) | exact h3 _ (List.getElem_mem _)) (by first | omega | assumption | (simp; omega) | (simp; done) | exact hl _ (List.getElem_mem _) | exact h2 _ (List.getElem_mem _) | exact h3 _ (List.getElem_mem _)) (by first | omega | assumption | (simp; omega) | (simp; done) | exact hl _ (List.getElem_mem _) | exact h2 _ (List.getElem_mem _) | exact h3 _ (List.getElem_mem _)) (by first | omega | assumption | (simp; omega) | (simp; done) | exact hl _ (List.getElem_mem _) | exact h2 _ (List.getElem_mem _) | exact h3 _ (List.getElem_mem _))) rfl rfl (by repeat' first | exact trivial | assumption | exact knownSS | exact knownApp knownSS knownNil | refine And.intro ?_ ?_) nofun ?_
    refine tN (by first | omega | assumption | exact fun h => h (by assumption) | exact fun h => h rfl | exact fun h => h Iff.rfl) ?_
    refine callW.mk [3] 6 _ _ _ (markIntSS_c _ (by first | omega | assumption | (simp; omega) | (simp; done) | exact hl _ (List.getElem_mem _) | exact h2 _ (List.getElem_mem _) | exact h3 _ (List.getElem_mem _)) (by first | omega | assumption | (simp; omega) | (simp; done) | exact hl _ (List.getElem_mem _) | exact h2 _ (List.getElem_mem _) | exact h3 _ (List.getElem_mem _)) _ (by first | omega | assumption | (simp; omega) | (simp; done) | exact hl _ (List.getElem_mem _) | exact h2 _ (List.getElem_mem _) | exact h3 _ (List.getElem_mem _)) (by first | omega | assumption | (simp; omega) | (simp; done) | exact hl _ (List.getElem_mem _) | exact h2 _ (List.getElem_mem _) | exact h3 _ (List.getElem_mem _))) rfl rfl (by repeat' first | exact trivial | assumption | exact knownSS | exact knownApp knownSS knownNil | refine And.intro ?_ ?_) nofun ?_
    refine tN (by first | omega | assumption | exact fun h => h (by assumption) | exact fun h => h rfl | exact fun h => h Iff.rfl) ?_
    refine callW.mkH [3] [] 6 _ _ _ (eqIntS_c _ _ (by first | omega | assumption | (simp; omega) | (simp; done) | exact hl _ (List.getElem_mem _) | exact h2 _ (List.getElem_mem _) | exact h3 _ (List.getElem_mem _)) (by first | omega | assumption | (simp; omega) | (simp; done) | exact hl _ (List.getElem_mem _) | exact h2 _ (List.getElem_mem _) | exact h3 _ (List.getElem_mem _))) rfl rfl (by repeat' first | exact trivial | assumption | exact knownSS | exact knownApp knownSS knownNil | refine And.intro ?_ ?_) nofun ?_
    iterate 2 refine tN (by first | omega | assumption | exact fun h => h (by assumption) | exact fun h => h rfl | exact fun h => h Iff.rfl) ?_
    refine callW.mkH [3] [4] 6 _ _ _ (markIntS_c _ (by first | omega | assumption | (simp; omega) | (simp; done) | exact hl _ (List.getElem_mem _) | exact h2 _ (List.getElem_mem _) | exact h3 _ (List.getElem_mem _)) _ (by first | omega | assumption | (simp; omega) | (simp; done) | exact hl _ (List.getElem_mem _) | exact h2 _ (List.getElem_mem _) | exact h3 _ (List.getElem_mem _)) (by first | omega | assumption | (simp; omega) | (simp; done) | exact hl _ (List.getElem_mem _) | exact h2 _ (List.getElem_mem _) | exact h3 _ (List.getElem_mem _))) rfl rfl (by repeat' first | exact trivial | assumption | exact knownSS | exact knownApp knownSS knownNil | refine And.intro ?_ ?_) nofun ?_
    refine callW.mkH [3] [] 6 _ _ _ (heldIntS_c _ (by first | omega | assumption | (simp; omega) | (simp; done) | exact hl _ (List.getElem_mem _) | exact h2 _ (List.getElem_mem _) | exact h3 _ (List.getElem_mem _)) _ (by first | omega | assumption | (simp; omega) | (simp; done) | exact hl _ (List.getElem_mem _) | exact h2 _ (List.getElem_mem _) | exact h3 _ (List.getElem_mem _)) (by first | omega | assumption | (simp; omega) | (simp; done) | exact hl _ (List.getElem_mem _) | exact h2 _ (List.getElem_mem _) | exact h3 _ (List.getElem_mem _))) rfl rfl (by repeat' first | exact trivial | assumption | exact knownSS | exact knownApp knownSS knownNil | refine And.intro ?_ ?_) nofun ?_
    iterate 2 refine tN (by first | omega | assumption | exact fun h => h (by assumption) | exact fun h => h rfl | exact fun h => h Iff.rfl) ?_
    refine callW.mkH [3] [] 6 _ _ _ (toRoad_c _ _) rfl rfl (by repeat' first | exact trivial | assumption | exact knownSS | exact knownApp knownSS knownNil | refine And.intro ?_ ?_) nofun ?_
    refine callW.mkH [3] [] 6 _ _ _ (toIntSS_c _ (by first | omega | assumption | (simp; omega) | (simp; done) | exact hl _ (List.getElem_mem _) | exact h2 _ (List.getElem_mem _) | exact h3 _ (List.getElem_mem _)) (by first | omega | assumption | (simp; omega) | (simp; done) | exact hl _ (List.getElem_mem _) | exact h2 _ (List.getElem_mem _) | exact h3 _ (List.getElem_mem _))) rfl rfl (by repeat' first | exact trivial | assumption | exact knownSS | exact knownApp knownSS knownNil | refine And.intro ?_ ?_) nofun ?_
    refine callW.mkH [3] [] 7 _ _ _ (DirtyCounts_c _ _ _ (by first | omega | assumption | (simp; omega) | (simp; done) | exact hl _ (List.getElem_mem _) | exact h2 _ (List.getElem_mem _) | exact h3 _ (List.getElem_mem _)) (by first | omega | assumption | (simp; omega) | (simp; done) | exact hl _ (List.getElem_mem _) | exact h2 _ (List.getElem_mem _) | exact h3 _ (List.getElem_mem _))) rfl rfl (by repeat' first | exact trivial | assumption | exact knownSS | exact knownApp knownSS knownNil | refine And.intro ?_ ?_) nofun ?_
    refine callW.mkH [3] [] 8 _ _ _ (eqIntS_c _ _ (by first | omega | assumption | (simp; omega) | (simp; done) | exact hl _ (List.getElem_mem _) | exact h2 _ (List.getElem_mem _) | exact h3 _ (List.getElem_mem _)) (by first | omega | assumption | (simp; omega) | (simp; done) | exact hl _ (List.getElem_mem _) | exact h2 _ (List.getElem_mem _) | exact h3 _ (List.getElem_mem _))) rfl rfl (by repeat' first | exact trivial | assumption | exact knownSS | exact knownApp knownSS knownNil | refine And.intro ?_ ?_) nofun ?_
    iterate 2 refine tN (by first | omega | assumption | exact fun h => h (by assumption) | exact fun h => h rfl | exact fun h => h Iff.rfl) ?_
    refine callW.mkH [3] [] 8 _ _ _ (heldIntS_c _ (by first | omega | assumption | (simp; omega) | (simp; done) | exact hl _ (List.getElem_mem _) | exact h2 _ (List.getElem_mem _) | exact h3 _ (List.getElem_mem _)) _ (by first | omega | assumption | (simp; omega) | (simp; done) | exact hl _ (List.getElem_mem _) | exact h2 _ (List.getElem_mem _) | exact h3 _ (List.getElem_mem _)) (by first | omega | assumption | (simp; omega) | (simp; done) | exact hl _ (List.getElem_mem _) | exact h2 _ (List.getElem_mem _) | exact h3 _ (List.getElem_mem _))) rfl rfl (by repeat' first | exact trivial | assumption | exact knownSS | exact knownApp knownSS knownNil | refine And.intro ?_ ?_) nofun ?_
    iterate 2 refine tN (by first | omega | assumption | exact fun h => h (by assumption) | exact fun h => h rfl | exact fun h => h Iff.rfl) ?_
    rotate_left
    refine doneV.mk [] [] rfl rfl ?_ ?_ ?_
    repeat' first | exact trivial | exact rfl | exact Iff.rfl | assumption | exact pureI | exact (show _ = _ by omega) | exact (show _ ≤ _ by omega) | exact (show _ < _ by omega) | exact (show ¬ _ by omega) | refine And.intro ?_ ?_
end Sx
