/- Contracts: sensors that see the walker. -/
import Derived.Test.YtdobohnkjmgefaaCf
import Derived.Test.YtdobohnkjmgefaaMxK
set_option linter.all false
namespace Sx
open Go Go.Proofs
set_option maxRecDepth 100000
set_option maxHeartbeats 4000000
set_option linter.unusedSimpArgs false
set_option linter.unusedSectionVars false
variable [Glb]
theorem seen_c (n : Int) (b : Bool) (hr : road n b) (S : List (Int × Int)) (hS : sensOk n S) : C 119 [rd n b, sens S] [] (.loc 0) [row (seenL n b S)] false := by
  have hn := hr.1
  have hn2 := hr.2.1
  have hS1 := hS.1
  have hS2 := hS.2
  have hrep : (List.replicate n.toNat (0 : Int)).length = n.toNat := by simp
  refine mkC false false Try.func119 rfl ?_
  refine And.intro nofun ?_
  iterate 4 refine Z ?_
  refine jn (by omega) (by omega) ?_
  refine ixb (by omega) (by omega) ?_
  iterate 2 refine Z ?_
  refine erep0 ?_
  refine lm ?_
  rotate_left
  refine loop_up (β := Nat) (fun p => [(14, i64 p)]) (fun p => [(1, row (seenK n b S p 0))]) [] (fun p => p ≤ n.toNat) (fun p => n.toNat - p) (0) ?_ ?_ ?_
  · omega
  · refine weak.mk [] [0, 1] rfl rfl ?_ ?_
    repeat' first | exact trivial | exact rfl | exact Iff.rfl | assumption | exact pureI | exact (show _ = _ by omega) | exact (show _ ≤ _ by omega) | exact (show _ < _ by omega) | exact (show ¬ _ by omega) | refine And.intro ?_ ?_
    rw [← seenK_00]
  · rintro p hp R hR
    have hlen := seenK_len n b S p 0
    by_cases hpn : p < n.toNat
    · refine tY (by first | omega | assumption | exact rfl | exact Iff.rfl) ?_
      refine lm ?_
      rotate_left
      refine loop_up (β := Nat) (fun k => [(19, i64 k)]) (fun k => [(1, row (seenK n b S p k))]) [] (fun k => k ≤ S.length) (fun k => S.length - k) (0) ?_ ?_ ?_
      · omega
      · refine weak.mk [] [0, 1] rfl rfl ?_ ?_
        repeat' first | exact trivial | exact rfl | exact Iff.rfl | assumption | exact pureI | exact (show _ = _ by omega) | exact (show _ ≤ _ by omega) | exact (show _ < _ by omega) | exact (show ¬ _ by omega) | refine And.intro ?_ ?_
      · rintro k hk R2 hR2
        have hlen2 := seenK_len n b S p k
        by_cases hkn : k < S.length
        · have hsk := hS1 _ (List.getElem_mem hkn)
          have hg := seenK_at (n := n) (b := b) (S := S) (p := p) (k := k) (by omega)
          have hbd := seenC_bd n b (S.take k) p
          have htk : (S.take k).length = k := by simp; omega
          refine tY (by first | omega | assumption | exact rfl | exact Iff.rfl) ?_
          iterate 2 refine Z ?_
          refine jkm (by omega) ?_
          refine gm (by omega) ?_
          iterate 5 refine Z ?_
          refine drawP.mk 8 (Z (Z (Z (Z ?_))))
          apply exP.mk
          exact rfl
          apply exP.mk
          refine Z ?_
          exact rfl
          apply exP.mk
          exact rfl
          apply exP.mk
          exact rfl
          apply exP.mk
          refine callP.mk _ _ _ (gap_c _ _ _ _ (by first | omega | assumption | (simp; omega) | (simp; done) | exact hS1 _ (List.getElem_mem _)) (by first | omega | assumption | (simp; omega) | (simp; done) | exact hS1 _ (List.getElem_mem _)) (by first | omega | assumption | (simp; omega) | (simp; done) | exact hS1 _ (List.getElem_mem _))) trivial nofun trivial ?_
          exact rfl
          apply exP.mk
          refine Z ?_
          exact rfl
          apply exP.mk
          exact rfl
          apply exP.mk
          exact rfl
          refine twoP.mk (fun _ => ?_) (fun _ => ?_)
          iterate 2 refine Z ?_
          refine jkm (by omega) ?_
          refine gmv (by omega) hg ?_
          refine nw (by omega) (by omega) ?_
          iterate 2 refine Z ?_
          refine jkm (by omega) ?_
          iterate 2 refine Z ?_
          refine gmv (by omega) hg ?_
          refine Z ?_
          refine eset' ?_
          refine nw (by omega) (by omega) ?_
          rotate_left
          refine nw (by omega) (by omega) ?_
          rotate_left
          · rename_i h1
            refine hR2 (k + 1) _ _ ?_ ?_
            rotate_left
            refine weak.mk [] [0, 1] rfl rfl ?_ ?_
            repeat' first | exact trivial | exact rfl | exact Iff.rfl | assumption | exact pureI | exact (show _ = _ by omega) | exact (show _ ≤ _ by omega) | exact (show _ < _ by omega) | exact (show ¬ _ by omega) | refine And.intro ?_ ?_
            rotate_right
            · exact ⟨by omega, by omega⟩
            · rw [seenK_set hkn h1]
          · rename_i h1
            refine hR2 (k + 1) _ _ ?_ ?_
            rotate_left
            refine weak.mk [] [0, 1] rfl rfl ?_ ?_
            repeat' first | exact trivial | exact rfl | exact Iff.rfl | assumption | exact pureI | exact (show _ = _ by omega) | exact (show _ ≤ _ by omega) | exact (show _ < _ by omega) | exact (show ¬ _ by omega) | refine And.intro ?_ ?_
            rotate_right
            · exact ⟨by omega, by omega⟩
            · rw [seenK_skip hkn h1]
        · refine tN (by first | omega | assumption | exact fun h => h (by assumption) | exact fun h => h rfl | exact fun h => h Iff.rfl) ?_
          refine nw (by omega) (by omega) ?_
          rotate_left
          refine hR (p + 1) _ _ ?_ ?_
          rotate_left
          refine weak.mk [] [0, 1] rfl rfl ?_ ?_
          repeat' first | exact trivial | exact rfl | exact Iff.rfl | assumption | exact pureI | exact (show _ = _ by omega) | exact (show _ ≤ _ by omega) | exact (show _ < _ by omega) | exact (show ¬ _ by omega) | refine And.intro ?_ ?_
          rotate_right
          · exact ⟨by omega, by omega⟩
          · rw [seenK_next n b S p hkn]
    · refine tN (by first | omega | assumption | exact fun h => h (by assumption) | exact fun h => h rfl | exact fun h => h Iff.rfl) ?_
      rotate_left
      refine doneV.mk [] [1] rfl rfl ?_ ?_ ?_
      repeat' first | exact trivial | exact rfl | exact Iff.rfl | assumption | exact pureI | exact (show _ = _ by omega) | exact (show _ ≤ _ by omega) | exact (show _ < _ by omega) | exact (show ¬ _ by omega) | refine And.intro ?_ ?_
      rw [seenK_all b S hpn]
theorem l9Seen_c (n : Int) (b : Bool) (hr : road n b) (S : List (Int × Int)) (hS : sensOk n S) : C 214 [rd n b, sens S] [] (.loc 0) [row (seenL n b S)] false := by
  have hn := hr.1
  have hn2 := hr.2.1
  have hS1 := hS.1
  have hS2 := hS.2
  refine mkC false false Try.func214 rfl ?_
  refine And.intro nofun ?_
  iterate 4 refine Z ?_
  refine jn (by omega) (by omega) ?_
  refine ixb (by omega) (by omega) ?_
  iterate 2 refine Z ?_
  refine erep0 ?_
  rotate_left
  refine loop_up (β := Nat) (fun p => [(6, i64 p)]) (fun p => [(1, row (seenK n b S p 0))]) [] (fun p => p ≤ n.toNat) (fun p => n.toNat - p) (0) ?_ ?_ ?_
  · omega
  · refine weak.mk [] [0, 1] rfl rfl ?_ ?_
    repeat' first | exact trivial | exact rfl | exact Iff.rfl | assumption | exact pureI | exact (show _ = _ by omega) | exact (show _ ≤ _ by omega) | exact (show _ < _ by omega) | exact (show ¬ _ by omega) | refine And.intro ?_ ?_
    rw [← seenK_00]
  · rintro p hp R hR
    have hlen := seenK_len n b S p 0
    by_cases hpn : p < n.toNat
    · refine Z ?_
      refine tY (by first | omega | assumption | exact rfl | exact Iff.rfl) ?_
      rotate_left
      refine loop_up (β := Nat) (fun k => [(7, i64 k)]) (fun k => [(1, row (seenK n b S p k))]) [] (fun k => k ≤ S.length) (fun k => S.length - k) (0) ?_ ?_ ?_
      · omega
      · refine weak.mk [] [0, 1] rfl rfl ?_ ?_
        repeat' first | exact trivial | exact rfl | exact Iff.rfl | assumption | exact pureI | exact (show _ = _ by omega) | exact (show _ ≤ _ by omega) | exact (show _ < _ by omega) | exact (show ¬ _ by omega) | refine And.intro ?_ ?_
      · rintro k hk R2 hR2
        have hlen2 := seenK_len n b S p k
        by_cases hkn : k < S.length
        · have hsk := hS1 _ (List.getElem_mem hkn)
          have hg := seenK_at (n := n) (b := b) (S := S) (p := p) (k := k) (by omega)
          have hbd := seenC_bd n b (S.take k) p
          have htk : (S.take k).length = k := by simp; omega
          refine lm ?_
          refine tY (by first | omega | assumption | exact rfl | exact Iff.rfl) ?_
          refine drawP.mk 14 (Z (Z (Z (Z ?_))))
          apply exP.mk
          exact rfl
          apply exP.mk
          exact rfl
          apply exP.mk
          exact rfl
          apply exP.mk
          iterate 2 refine Z ?_
          refine jkm (by omega) ?_
          exact rfl
          apply exP.mk
          refine Z ?_
          exact rfl
          apply exP.mk
          refine gm (by omega) ?_
          exact rfl
          apply exP.mk
          exact rfl
          apply exP.mk
          refine callP.mk _ _ _ (l2Gap_c _ _ _ _ (by first | omega | assumption | (simp; omega) | (simp; done) | exact hS1 _ (List.getElem_mem _)) (by first | omega | assumption | (simp; omega) | (simp; done) | exact hS1 _ (List.getElem_mem _)) (by first | omega | assumption | (simp; omega) | (simp; done) | exact hS1 _ (List.getElem_mem _))) trivial nofun trivial ?_
          exact rfl
          apply exP.mk
          exact rfl
          apply exP.mk
          exact rfl
          apply exP.mk
          iterate 2 refine Z ?_
          refine jkm (by omega) ?_
          exact rfl
          apply exP.mk
          refine Z ?_
          exact rfl
          apply exP.mk
          refine gm (by omega) ?_
          exact rfl
          apply exP.mk
          exact rfl
          refine twoP.mk (fun _ => ?_) (fun _ => ?_)
          iterate 2 refine Z ?_
          refine jkm (by omega) ?_
          refine gmv (by omega) hg ?_
          refine nw (by omega) (by omega) ?_
          iterate 2 refine Z ?_
          refine jkm (by omega) ?_
          iterate 2 refine Z ?_
          refine gmv (by omega) hg ?_
          refine Z ?_
          refine eset' ?_
          refine nw (by omega) (by omega) ?_
          rotate_left
          refine nw (by omega) (by omega) ?_
          rotate_left
          · rename_i h1
            refine hR2 (k + 1) _ _ ?_ ?_
            rotate_left
            refine weak.mk [] [0, 1] rfl rfl ?_ ?_
            repeat' first | exact trivial | exact rfl | exact Iff.rfl | assumption | exact pureI | exact (show _ = _ by omega) | exact (show _ ≤ _ by omega) | exact (show _ < _ by omega) | exact (show ¬ _ by omega) | refine And.intro ?_ ?_
            rotate_right
            · exact ⟨by omega, by omega⟩
            · rw [seenK_set hkn h1]
          · rename_i h1
            refine hR2 (k + 1) _ _ ?_ ?_
            rotate_left
            refine weak.mk [] [0, 1] rfl rfl ?_ ?_
            repeat' first | exact trivial | exact rfl | exact Iff.rfl | assumption | exact pureI | exact (show _ = _ by omega) | exact (show _ ≤ _ by omega) | exact (show _ < _ by omega) | exact (show ¬ _ by omega) | refine And.intro ?_ ?_
            rotate_right
            · exact ⟨by omega, by omega⟩
            · rw [seenK_skip hkn h1]
        · refine lm ?_
          refine tN (by first | omega | assumption | exact fun h => h (by assumption) | exact fun h => h rfl | exact fun h => h Iff.rfl) ?_
          refine nw (by omega) (by omega) ?_
          rotate_left
          refine hR (p + 1) _ _ ?_ ?_
          rotate_left
          refine weak.mk [] [0, 1] rfl rfl ?_ ?_
          repeat' first | exact trivial | exact rfl | exact Iff.rfl | assumption | exact pureI | exact (show _ = _ by omega) | exact (show _ ≤ _ by omega) | exact (show _ < _ by omega) | exact (show ¬ _ by omega) | refine And.intro ?_ ?_
          rotate_right
          · exact ⟨by omega, by omega⟩
          · rw [seenK_next n b S p hkn]
    · refine Z ?_
      refine tN (by first | omega | assumption | exact fun h => h (by assumption) | exact fun h => h rfl | exact fun h => h Iff.rfl) ?_
      rotate_left
      refine doneV.mk [] [1] rfl rfl ?_ ?_ ?_
      repeat' first | exact trivial | exact rfl | exact Iff.rfl | assumption | exact pureI | exact (show _ = _ by omega) | exact (show _ ≤ _ by omega) | exact (show _ < _ by omega) | exact (show ¬ _ by omega) | refine And.intro ?_ ?_
      rw [seenK_all b S hpn]
theorem WalkerSeen1_c (l : List Int) (p : Int) (hp : 0 ≤ p ∧ p < (l.length : Int)) : C 121 [i64 p, .pim 1 [ints l] 0 0] [] (i64 (l.getD p.toNat 0)) [] false := by
  refine mkC false false Try.func121 rfl ?_
  refine And.intro nofun ?_
  have hg : l[p.toNat]'(by omega) = l.getD p.toNat 0 := by rw [List.getD_eq_getElem?_getD, List.getElem?_eq_getElem (by omega)]; rfl
  refine getP.mk _ rfl ?_
  iterate 2 refine Z ?_
  refine jnm (by omega) (by omega) ?_
  refine gmv (by omega) hg ?_
  rotate_left
  refine dv0 rfl ?_
  exact ⟨rfl, rfl⟩
theorem mapped_c1 {f s1 j1 t1 : Nat} {e1 : List AV} (g : Int → Int) (l : List Int) (hl : l.length ≤ 1099511627776) (h : ∀ x ∈ l, C f [i64 x, .pim s1 e1 j1 t1] [] (i64 (g x)) [] false) : C 120 [ints l, .fn (.func f) [] [.pim s1 e1 j1 t1]] [] (.loc 0) [row (l.map g)] false := by
  refine mkC false false Try.func120 rfl ?_
  refine And.intro nofun ?_
  iterate 2 refine Z ?_
  refine lm ?_
  rotate_left
  refine loop_up (β := Nat) (fun k => [(11, i64 k), (5, .loc 0)]) (fun k => [(0, row ((l.take k).map g))]) [1] (fun k => k ≤ l.length) (fun k => l.length - k) (0) ?_ ?_ ?_
  · omega
  · refine weak.mk [1] [0] rfl rfl ?_ ?_
    repeat' first | exact trivial | exact rfl | exact Iff.rfl | assumption | exact pureI | exact (show _ = _ by omega) | exact (show _ ≤ _ by omega) | exact (show _ < _ by omega) | exact (show ¬ _ by omega) | refine And.intro ?_ ?_
  · rintro k hk R hR
    by_cases hkn : k < l.length
    · refine tY (by first | omega | assumption | exact rfl | exact Iff.rfl) ?_
      iterate 2 refine Z ?_
      refine jkm (by omega) ?_
      refine gm (by omega) ?_
      refine callW.mk [] 1 _ _ _ (h l[k] (List.getElem_mem _)) rfl rfl (by repeat' first | exact trivial | assumption | exact knownSS | exact knownApp knownSS knownNil | refine And.intro ?_ ?_) nofun ?_
      iterate 10 refine Z ?_
      refine leP.mk (by first | (simp [big]; omega) | (simp [big]; done)) ?_
      refine ea ?_
      refine nw (by omega) (by omega) ?_
      rotate_left
      refine hR (k + 1) _ _ ?_ ?_
      rotate_left
      refine weak.mk [] [2] rfl rfl ?_ ?_
      repeat' first | exact trivial | exact rfl | exact Iff.rfl | assumption | exact pureI | exact (show _ = _ by omega) | exact (show _ ≤ _ by omega) | exact (show _ < _ by omega) | exact (show ¬ _ by omega) | refine And.intro ?_ ?_
      rotate_right
      · exact ⟨by omega, by omega⟩
      · rw [take_snoc hkn, List.map_append]; rfl
    · refine tN (by first | omega | assumption | exact fun h => h (by assumption) | exact fun h => h rfl | exact fun h => h Iff.rfl) ?_
      rotate_left
      refine doneV.mk [] [0] rfl rfl ?_ ?_ ?_
      repeat' first | exact trivial | exact rfl | exact Iff.rfl | assumption | exact pureI | exact (show _ = _ by omega) | exact (show _ ≤ _ by omega) | exact (show _ < _ by omega) | exact (show ¬ _ by omega) | refine And.intro ?_ ?_
      rw [List.take_of_length_le (by omega)]
theorem WalkerSeen_c (y : Yd) (hy : fitY 1099511627776 y) : C 26 [yv y] [] (.tuple [.loc 0, pr (good y)]) [row (watchR y)] false := by
  refine mkC false false Try.func26 rfl ?_
  refine And.intro nofun ?_
  by_cases hg : good y
  · have hr := hg.1.1
    have hS := hg.2.2.1
    have hw := hg.2.1
    have hlen := seenL_len y.n y.b y.S
    rw [watchR_yes hg]
    refine Z ?_
    refine callW.mk [] 1 _ _ _ (IsYard_c _ (by first | omega | assumption | (simp; omega) | (simp; done))) rfl rfl trivial nofun ?_
    refine tN (by first | omega | assumption | exact fun h => h (by assumption) | exact fun h => h rfl | exact fun h => h Iff.rfl) ?_
    refine Z ?_
    refine And.intro (Nat.le_of_ble_eq_true rfl) ?_
    refine Z ?_
    refine callW.mk [] 1 _ _ _ (seen_c _ _ (by first | omega | assumption | (simp; omega) | (simp; done)) _ (by first | omega | assumption | (simp; omega) | (simp; done))) rfl rfl trivial nofun ?_
    iterate 6 refine Z ?_
    refine callW.mk [] 3 _ _ _ ((mapped_c1 (fun p => (seenL y.n y.b y.S).getD p.toNat 0) y.w (by omega) (fun x hx => WalkerSeen1_c _ x (by have := hw.2.1 x hx; rw [hlen]; omega)))) rfl rfl (by repeat' first | exact trivial | assumption | exact knownSS | exact knownApp knownSS knownNil | refine And.intro ?_ ?_) nofun ?_
    rotate_left
    refine doneV.mk [] [3] rfl rfl ?_ ?_ ?_
    repeat' first | exact trivial | exact rfl | exact Iff.rfl | assumption | exact pureI | exact (show _ = _ by omega) | exact (show _ ≤ _ by omega) | exact (show _ < _ by omega) | exact (show ¬ _ by omega) | refine And.intro ?_ ?_
  · refine Z ?_
    refine callW.mk [] 1 _ _ _ (IsYard_c _ (by first | omega | assumption | (simp; omega) | (simp; done))) rfl rfl trivial nofun ?_
    refine tY (by first | omega | assumption | exact rfl | exact Iff.rfl) ?_
    rotate_left
    rw [watchR_no hg]
    refine doneV.mk [1] [1] rfl rfl ?_ ?_ ?_
    repeat' first | exact trivial | exact rfl | exact Iff.rfl | assumption | exact pureI | exact (show _ = _ by omega) | exact (show _ ≤ _ by omega) | exact (show _ < _ by omega) | exact (show ¬ _ by omega) | refine And.intro ?_ ?_
theorem l12Watched_c (y : Yd) (hy : fitY 1099511627776 y) (hg : good y) : C 116 [yv y] [] (.loc 0) [row (watchL y)] false := by
  have hr := hg.1.1
  have hS := hg.2.2.1
  have hw := hg.2.1
  have hwl := hy.1
  have hlen := seenL_len y.n y.b y.S
  refine mkC false false Try.func116 rfl ?_
  refine And.intro nofun ?_
  iterate 4 refine Z ?_
  refine And.intro (Nat.le_of_ble_eq_true rfl) ?_
  refine Z ?_
  refine callW.mk [] 1 _ _ _ (l9Seen_c _ _ (by first | omega | assumption | (simp; omega) | (simp; done)) _ (by first | omega | assumption | (simp; omega) | (simp; done))) rfl rfl trivial nofun ?_
  rotate_left
  refine loop_up (β := Nat) (fun k => [(5, i64 k), (3, .loc 2)]) (fun k => [(2, row ((y.w.take k).map fun p => (seenL y.n y.b y.S).getD p.toNat 0))]) [1] (fun k => k ≤ y.w.length) (fun k => y.w.length - k) (0) ?_ ?_ ?_
  · omega
  · refine weak.mk [1] [0, 1, 2] rfl rfl ?_ ?_
    repeat' first | exact trivial | exact rfl | exact Iff.rfl | assumption | exact pureI | exact (show _ = _ by omega) | exact (show _ ≤ _ by omega) | exact (show _ < _ by omega) | exact (show ¬ _ by omega) | refine And.intro ?_ ?_
  · rintro k hk R hR
    by_cases hkn : k < y.w.length
    · have hwk := hw.2.1 _ (List.getElem_mem hkn)
      have hg2 : (seenL y.n y.b y.S)[(y.w[k]).toNat]'(by rw [hlen]; omega) = (seenL y.n y.b y.S).getD (y.w[k]).toNat 0 := by rw [List.getD_eq_getElem?_getD, List.getElem?_eq_getElem (by rw [hlen]; omega)]; rfl
      refine Z ?_
      refine lm ?_
      refine tY (by first | omega | assumption | exact rfl | exact Iff.rfl) ?_
      iterate 3 refine Z ?_
      refine jkm (by omega) ?_
      refine gm (by omega) ?_
      iterate 2 refine Z ?_
      refine jnm (by omega) (by omega) ?_
      refine gmv (by omega) hg2 ?_
      iterate 10 refine Z ?_
      refine leP.mk (by first | (simp [big]; omega) | (simp [big]; done)) ?_
      refine ea ?_
      refine nw (by omega) (by omega) ?_
      rotate_left
      refine hR (k + 1) _ _ ?_ ?_
      rotate_left
      refine weak.mk [] [0, 1, 4] rfl rfl ?_ ?_
      repeat' first | exact trivial | exact rfl | exact Iff.rfl | assumption | exact pureI | exact (show _ = _ by omega) | exact (show _ ≤ _ by omega) | exact (show _ < _ by omega) | exact (show ¬ _ by omega) | refine And.intro ?_ ?_
      rotate_right
      · exact ⟨by omega, by omega⟩
      · rw [take_snoc hkn, List.map_append]; rfl
    · refine Z ?_
      refine lm ?_
      refine tN (by first | omega | assumption | exact fun h => h (by assumption) | exact fun h => h rfl | exact fun h => h Iff.rfl) ?_
      rotate_left
      refine doneV.mk [] [2] rfl rfl ?_ ?_ ?_
      repeat' first | exact trivial | exact rfl | exact Iff.rfl | assumption | exact pureI | exact (show _ = _ by omega) | exact (show _ ≤ _ by omega) | exact (show _ < _ by omega) | exact (show ¬ _ by omega) | refine And.intro ?_ ?_
      rw [List.take_of_length_le (by omega)]; rfl
theorem sWalkerSeen_c (y : Yd) (hy : fitY 1099511627776 y) : C 24 [yv y] [] (.tuple [.loc 0, pr (good y)]) [row (watchR y)] false := by
  refine mkC false false Try.func24 rfl ?_
  refine And.intro nofun ?_
  by_cases hg : good y
  · rw [watchR_yes hg]
    refine Z ?_
    refine callW.mk [] 1 _ _ _ (l12Good_c _ (by first | omega | assumption | (simp; omega) | (simp; done))) rfl rfl trivial nofun ?_
    refine tN (by first | omega | assumption | exact fun h => h (by assumption) | exact fun h => h rfl | exact fun h => h Iff.rfl) ?_
    refine callW.mk [] 1 _ _ _ (l12Watched_c _ (by first | omega | assumption | (simp; omega) | (simp; done)) (by first | omega | assumption | (simp; omega) | (simp; done))) rfl rfl trivial nofun ?_
    rotate_left
    refine doneV.mk [] [1] rfl rfl ?_ ?_ ?_
    repeat' first | exact trivial | exact rfl | exact Iff.rfl | assumption | exact pureI | exact (show _ = _ by omega) | exact (show _ ≤ _ by omega) | exact (show _ < _ by omega) | exact (show ¬ _ by omega) | refine And.intro ?_ ?_
  · refine Z ?_
    refine callW.mk [] 1 _ _ _ (l12Good_c _ (by first | omega | assumption | (simp; omega) | (simp; done))) rfl rfl trivial nofun ?_
    refine tY (by first | omega | assumption | exact rfl | exact Iff.rfl) ?_
    iterate 2 refine Z ?_
    rotate_left
    rw [watchR_no hg]
    refine doneV.mk [1] [1] rfl rfl ?_ ?_ ?_
    repeat' first | exact trivial | exact rfl | exact Iff.rfl | assumption | exact pureI | exact (show _ = _ by omega) | exact (show _ ≤ _ by omega) | exact (show _ < _ by omega) | exact (show ¬ _ by omega) | refine And.intro ?_ ?_
theorem FnExactWalkerSeen_c (y : Yd) (hy : fitY 9223372036854775807 y) : C 4 [yv y] [] .tt [] false := by
  have hl := @watchR_len y
  refine mkC false false Try.func4 rfl ?_
  refine And.intro nofun ?_
  by_cases hs : szY y 1048576 < 0
  · refine Z ?_
    refine callW.mk [] 1 _ _ _ (szYard_c _ (by first | omega | assumption | (simp; omega) | (simp; done))) rfl rfl trivial nofun ?_
    refine tY (by first | omega | assumption | exact rfl | exact Iff.rfl) ?_
    rotate_left
    all_goals exact dv0 rfl trivial
  · have hf := szY_ok hs
    have h1 := hf.1
    have h2 := hf.2.1
    have h3 := hf.2.2
    have hf2 : fitY 1099511627776 y := ⟨by omega, by omega, by omega⟩
    refine Z ?_
    refine callW.mk [] 1 _ _ _ (szYard_c _ (by first | omega | assumption | (simp; omega) | (simp; done))) rfl rfl trivial nofun ?_
    refine tN (by first | omega | assumption | exact fun h => h (by assumption) | exact fun h => h rfl | exact fun h => h Iff.rfl) ?_
    refine callW.mk [] 1 _ _ _ (toYard_c _ (by first | omega | assumption | (simp; omega) | (simp; done))) rfl rfl trivial nofun ?_
    refine callW.mk [] 4 _ _ _ (sWalkerSeen_c _ (by first | omega | assumption | (simp; omega) | (simp; done))) rfl rfl trivial nofun ?_
    refine callW.mk [] 5 _ _ _ (toYard_c _ (by first | omega | assumption | (simp; omega) | (simp; done))) rfl rfl trivial nofun ?_
    iterate 5 refine Z ?_
    refine callW.mk [] 9 _ _ _ (WalkerSeen_c _ (by first | omega | assumption | (simp; omega) | (simp; done))) rfl rfl trivial nofun ?_
    refine callW.mk [] 10 _ _ _ (eqIntS_c _ _ (by first | omega | assumption | (simp; omega) | (simp; done)) (by first | omega | assumption | (simp; omega) | (simp; done))) rfl rfl trivial nofun ?_
    iterate 2 refine tN (by first | omega | assumption | exact fun h => h (by assumption) | exact fun h => h rfl | exact fun h => h Iff.rfl) ?_
    refine drawP.mk 5 (Z (Z (Z (Z ?_))))
    apply exP.mk
    exact rfl
    apply exP.mk
    exact rfl
    apply exP.mk
    refine callP.mk _ _ _ (toYard_c _ (by first | omega | assumption | (simp; omega) | (simp; done))) trivial nofun trivial ?_
    exact rfl
    apply exP.mk
    refine callP.mk _ _ _ (eqYard_cP _ _ _ _ _ _ _ _ _ _ _ _ (by first | omega | assumption | (simp; omega) | (simp; done)) (by first | omega | assumption | (simp; omega) | (simp; done)) (by first | omega | assumption | (simp; omega) | (simp; done)) (by first | omega | assumption | (simp; omega) | (simp; done)) (by first | omega | assumption | (simp; omega) | (simp; done)) (by first | omega | assumption | (simp; omega) | (simp; done))) trivial nofun trivial ?_
    exact rfl
    apply exP.mk
    exact rfl
    refine tN (by first | omega | assumption | exact fun h => h (by assumption) | exact fun h => h rfl | exact fun h => h Iff.rfl) ?_
    refine callW.mk [5, 6, 7] 10 _ _ _ (markYard_c _ _ _ _ _ _ (by first | omega | assumption | (simp; omega) | (simp; done)) (by first | omega | assumption | (simp; omega) | (simp; done)) (by first | omega | assumption | (simp; omega) | (simp; done))) rfl rfl trivial nofun ?_
    refine tN (by first | omega | assumption | exact fun h => h (by assumption) | exact fun h => h rfl | exact fun h => h Iff.rfl) ?_
    refine callW.mk [] 10 _ _ _ (eqIntS_c _ _ (by first | omega | assumption | (simp; omega) | (simp; done)) (by first | omega | assumption | (simp; omega) | (simp; done))) rfl rfl trivial nofun ?_
    iterate 2 refine tN (by first | omega | assumption | exact fun h => h (by assumption) | exact fun h => h rfl | exact fun h => h Iff.rfl) ?_
    refine callW.mk [9] 10 _ _ _ (markIntS_c _ (by first | omega | assumption | (simp; omega) | (simp; done)) _ (by first | omega | assumption | (simp; omega) | (simp; done)) (by first | omega | assumption | (simp; omega) | (simp; done))) rfl rfl trivial nofun ?_
    refine callW.mk [] 10 _ _ _ (heldIntS_c _ (by first | omega | assumption | (simp; omega) | (simp; done)) _ (by first | omega | assumption | (simp; omega) | (simp; done)) (by first | omega | assumption | (simp; omega) | (simp; done))) rfl rfl trivial nofun ?_
    iterate 2 refine tN (by first | omega | assumption | exact fun h => h (by assumption) | exact fun h => h rfl | exact fun h => h Iff.rfl) ?_
    refine callW.mk [] 10 _ _ _ (toYard_c _ (by first | omega | assumption | (simp; omega) | (simp; done))) rfl rfl trivial nofun ?_
    refine callW.mk [] 13 _ _ _ (WalkerSeen_c _ (by first | omega | assumption | (simp; omega) | (simp; done))) rfl rfl trivial nofun ?_
    refine callW.mk [] 14 _ _ _ (eqIntS_c _ _ (by first | omega | assumption | (simp; omega) | (simp; done)) (by first | omega | assumption | (simp; omega) | (simp; done))) rfl rfl trivial nofun ?_
    iterate 2 refine tN (by first | omega | assumption | exact fun h => h (by assumption) | exact fun h => h rfl | exact fun h => h Iff.rfl) ?_
    refine callW.mk [] 14 _ _ _ (heldIntS_c _ (by first | omega | assumption | (simp; omega) | (simp; done)) _ (by first | omega | assumption | (simp; omega) | (simp; done)) (by first | omega | assumption | (simp; omega) | (simp; done))) rfl rfl trivial nofun ?_
    iterate 2 refine tN (by first | omega | assumption | exact fun h => h (by assumption) | exact fun h => h rfl | exact fun h => h Iff.rfl) ?_
    rotate_left
    refine doneV.mk [] [] rfl rfl ?_ ?_ ?_
    repeat' first | exact trivial | exact rfl | exact Iff.rfl | assumption | exact pureI | exact (show _ = _ by omega) | exact (show _ ≤ _ by omega) | exact (show _ < _ by omega) | exact (show ¬ _ by omega) | refine And.intro ?_ ?_
end Sx
