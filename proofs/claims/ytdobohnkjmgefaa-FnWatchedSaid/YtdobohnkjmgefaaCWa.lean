/- Contracts: the law of the watched walk. -/
import Derived.Test.YtdobohnkjmgefaaCDc
import Derived.Test.YtdobohnkjmgefaaCVa
import Derived.Test.YtdobohnkjmgefaaCl
import Derived.Test.YtdobohnkjmgefaaCx
import Derived.Test.YtdobohnkjmgefaaMxW
set_option linter.all false
namespace Sx
open Go Go.Proofs
set_option maxRecDepth 100000
set_option maxHeartbeats 8000000
set_option linter.unusedSimpArgs false
set_option linter.unusedSectionVars false
variable [Glb]
theorem isGuarded_c (n : Int) (b : Bool) (S : List (Int × Int)) (hS : S.length ≤ 1099511627776) : C 136 [rd n b, sens S] [] (pr (lineP n b ∧ sensOk n S)) [] false := by
  refine mkC false false Try.func136 rfl ?_
  refine And.intro nofun ?_
  by_cases h : lineP n b
  · have hr := h.1
    refine Z ?_
    refine callW.mk [] 1 _ _ _ (isLine_c _ _) rfl rfl trivial nofun ?_
    refine tY (by first | omega | assumption | exact rfl | exact Iff.rfl) ?_
    refine callW.mk [] 1 _ _ _ (areSensors_c _ _ (by first | omega | assumption | (simp; omega) | (simp; done) | exact trivial) _ (by first | omega | assumption | (simp; omega) | (simp; done) | exact trivial)) rfl rfl trivial nofun ?_
    rotate_left
    refine doneV.mk [] [] rfl rfl ?_ ?_ ?_
    repeat' first | exact trivial | exact rfl | exact Iff.rfl | assumption | exact pureI | exact (show _ = _ by omega) | exact (show _ ≤ _ by omega) | exact (show _ < _ by omega) | exact (show ¬ _ by omega) | refine And.intro ?_ ?_
    exact ⟨fun g => ⟨h, g⟩, fun g => g.2⟩
  · refine Z ?_
    refine callW.mk [] 1 _ _ _ (isLine_c _ _) rfl rfl trivial nofun ?_
    refine tN (by first | omega | assumption | exact fun h => h (by assumption) | exact fun h => h rfl | exact fun h => h Iff.rfl) ?_
    rotate_left
    refine doneV.mk [] [] rfl rfl ?_ ?_ ?_
    repeat' first | exact trivial | exact rfl | exact Iff.rfl | assumption | exact pureI | exact (show _ = _ by omega) | exact (show _ ≤ _ by omega) | exact (show _ < _ by omega) | exact (show ¬ _ by omega) | refine And.intro ?_ ?_
    exact fun g => h g.1
theorem Min_c (l : List Int) (h0 : 0 < l.length) (hl : l.length ≤ 1099511627776) : CE 137 [ints l] [] (fun e : Int => ∀ x ∈ l, e ≤ x) (fun e => i64 e) (fun _ => []) false := by
  refine mkE false false Try.func137 rfl ?_
  refine And.intro nofun ?_
  refine lm ?_
  refine tN (by first | omega | assumption | exact fun h => h (by assumption) | exact fun h => h rfl | exact fun h => h Iff.rfl) ?_
  iterate 2 refine Z ?_
  refine idxN.mk 0 (by omega) (by simp; omega) rfl ?_
  refine gm (by omega) ?_
  rotate_left
  refine loop_up (β := Nat × Int) (fun (k, m) => [(3, i64 m), (4, i64 k)]) (fun (k, m) => []) [] (fun (k, m) => (1 ≤ k ∧ k ≤ l.length) ∧ ∀ (i : Nat) (h : i < l.length), i < k → m ≤ l[i]) (fun (k, m) => l.length - k) ((1, l[0])) ?_ ?_ ?_
  · refine ⟨⟨by omega, by omega⟩, fun i h hi => ?_⟩
    obtain rfl : i = 0 := by omega
    exact Int.le_refl _
  · refine weak.mk [] [] rfl rfl ?_ ?_
    repeat' first | exact trivial | exact rfl | exact Iff.rfl | assumption | exact pureI | exact (show _ = _ by omega) | exact (show _ ≤ _ by omega) | exact (show _ < _ by omega) | exact (show ¬ _ by omega) | refine And.intro ?_ ?_
  · rintro ⟨k, m⟩ ⟨hk, hm⟩ R hR
    by_cases hkn : k < l.length
    · refine lm ?_
      refine tY (by first | omega | assumption | exact rfl | exact Iff.rfl) ?_
      iterate 2 refine Z ?_
      refine jkm (by omega) ?_
      refine gm (by omega) ?_
      refine nr ?_
      refine nw (by omega) (by omega) ?_
      rotate_left
      refine hR ((k + 1, min m l[k])) _ _ ?_ ?_
      rotate_left
      refine weak.mk [] [] rfl rfl ?_ ?_
      repeat' first | exact trivial | exact rfl | exact Iff.rfl | assumption | exact pureI | exact (show _ = _ by omega) | exact (show _ ≤ _ by omega) | exact (show _ < _ by omega) | exact (show ¬ _ by omega) | refine And.intro ?_ ?_
      rotate_right
      refine ⟨⟨by omega, fun i h hi => ?_⟩, by show l.length - (k + 1) < l.length - k; omega⟩
      by_cases e : i = k
      · subst e; omega
      · have := hm i h (by omega); omega
    · refine lm ?_
      refine tN (by first | omega | assumption | exact fun h => h (by assumption) | exact fun h => h rfl | exact fun h => h Iff.rfl) ?_
      rotate_left
      refine doneE.mk (m) ?_ ?_
      rotate_left
      focus
        refine doneV.mk [] [] rfl rfl ?_ ?_ ?_
        repeat' first | exact trivial | exact rfl | exact Iff.rfl | assumption | exact pureI | exact (show _ = _ by omega) | exact (show _ ≤ _ by omega) | exact (show _ < _ by omega) | exact (show ¬ _ by omega) | refine And.intro ?_ ?_
      rotate_right
      intro x hx
      obtain ⟨i, hi, rfl⟩ := List.mem_iff_getElem.1 hx
      exact hm i hi (by omega)
theorem SeenBy_c (n : Int) (b : Bool) (S : List (Int × Int)) (h : lineP n b ∧ sensOk n S) : C 48 [rd n b, sens S] [] (.tuple [.loc 0, .tt]) [row (seenL n b S)] false := by
  have hr := h.1.1
  have hS := h.2
  have hSl : S.length ≤ 1099511627776 := by have := hS.2; omega
  refine mkC false false Try.func48 rfl ?_
  refine And.intro nofun ?_
  refine Z ?_
  refine callW.mk [] 1 _ _ _ (isGuarded_c _ _ _ (by first | omega | assumption | (simp; omega) | (simp; done) | exact trivial)) rfl rfl trivial nofun ?_
  refine tN (by first | omega | assumption | exact fun h => h (by assumption) | exact fun h => h rfl | exact fun h => h Iff.rfl) ?_
  refine callW.mk [] 1 _ _ _ (seen_c _ _ (by first | omega | assumption | (simp; omega) | (simp; done) | exact trivial) _ (by first | omega | assumption | (simp; omega) | (simp; done) | exact trivial)) rfl rfl trivial nofun ?_
  rotate_left
  refine doneV.mk [] [1] rfl rfl ?_ ?_ ?_
  repeat' first | exact trivial | exact rfl | exact Iff.rfl | assumption | exact pureI | exact (show _ = _ by omega) | exact (show _ ≤ _ by omega) | exact (show _ < _ by omega) | exact (show ¬ _ by omega) | refine And.intro ?_ ?_
theorem StrengthOf_c (n : Int) (b : Bool) (S : List (Int × Int)) (h : lineP n b ∧ sensOk n S) : CE 49 [rd n b, sens S] [] (fun e : Int => ∀ x ∈ seenL n b S, e ≤ x) (fun e => .tuple [i64 e, .tt]) (fun _ => []) false := by
  have hr := h.1.1
  have hS := h.2
  have hSl : S.length ≤ 1099511627776 := by have := hS.2; omega
  have hlen := seenL_len n b S
  refine mkE false false Try.func49 rfl ?_
  refine And.intro nofun ?_
  refine Z ?_
  refine callW.mk [] 1 _ _ _ (isGuarded_c _ _ _ (by first | omega | assumption | (simp; omega) | (simp; done) | exact trivial)) rfl rfl trivial nofun ?_
  refine tN (by first | omega | assumption | exact fun h => h (by assumption) | exact fun h => h rfl | exact fun h => h Iff.rfl) ?_
  refine callW.mk [] 1 _ _ _ (seen_c _ _ (by first | omega | assumption | (simp; omega) | (simp; done) | exact trivial) _ (by first | omega | assumption | (simp; omega) | (simp; done) | exact trivial)) rfl rfl trivial nofun ?_
  refine callW.mkE [] [] 2 _ _ _ _ (Min_c _ (by first | omega | assumption | (simp; omega) | (simp; done) | exact trivial) (by first | omega | assumption | (simp; omega) | (simp; done) | exact trivial)) rfl rfl trivial nofun (fun _ _ => ?_)
  rotate_left
  rename_i e he
  refine doneE.mk (e) ?_ ?_
  rotate_left
  focus
    refine doneV.mk [] [] rfl rfl ?_ ?_ ?_
    repeat' first | exact trivial | exact rfl | exact Iff.rfl | assumption | exact pureI | exact (show _ = _ by omega) | exact (show _ ≤ _ by omega) | exact (show _ < _ by omega) | exact (show ¬ _ by omega) | refine And.intro ?_ ?_
  rotate_right
  exact he
theorem FnWatched_c (L : List UInt8) (hL : L.length ≤ 9223372036854775807) : C 8 [.sl 1 (L.map i8)] [] .tt [] false := by
  have sd1 : ∀ y j, fitY 1099511627776 (wkR y j) := fun y j => wkR_fit j
  have sd2 : ∀ y : Yd, fitY 100 y → fitY 1099511627776 y := fun y h => ⟨by omega, by omega, by omega⟩
  have sd3 : ∀ y : Yd, fitY 100 y → (watchR y).length ≤ 1099511627776 := fun y h => by have := @watchR_len y; omega
  refine mkC false false Try.func8 rfl ?_
  refine And.intro nofun ?_
  by_cases hb : 65536 < (L.length : Int)
  · refine callW.mk [] 0 _ _ _ (vBig_c _ (by first | omega | assumption | (simp; omega) | (simp; done) | exact trivial | (apply sd1 <;> first | omega | assumption) | (apply sd2 <;> first | omega | assumption) | (apply sd3 <;> first | omega | assumption))) rfl rfl trivial nofun ?_
    refine tY (by first | omega | assumption | exact rfl | exact Iff.rfl) ?_
    rotate_left
    refine doneV.mk [] [] rfl rfl ?_ ?_ ?_
    repeat' first | exact trivial | exact rfl | exact Iff.rfl | assumption | exact pureI | exact (show _ = _ by omega) | exact (show _ ≤ _ by omega) | exact (show _ < _ by omega) | exact (show ¬ _ by omega) | refine And.intro ?_ ?_
  · refine callW.mk [] 0 _ _ _ (vBig_c _ (by first | omega | assumption | (simp; omega) | (simp; done) | exact trivial | (apply sd1 <;> first | omega | assumption) | (apply sd2 <;> first | omega | assumption) | (apply sd3 <;> first | omega | assumption))) rfl rfl trivial nofun ?_
    refine tN (by first | omega | assumption | exact fun h => h (by assumption) | exact fun h => h rfl | exact fun h => h Iff.rfl) ?_
    refine callW.mkE [] [] 0 _ _ _ _ (DrawWalkerSeen_c _ (by first | omega | assumption | (simp; omega) | (simp; done) | exact trivial | (apply sd1 <;> first | omega | assumption) | (apply sd2 <;> first | omega | assumption) | (apply sd3 <;> first | omega | assumption))) rfl rfl trivial nofun (fun _ _ => ?_)
    iterate 5 refine Z ?_
    refine callW.mk [] 4 _ _ _ (WalkerSeen_c _ (by first | omega | assumption | (simp; omega) | (simp; done) | exact trivial | (apply sd1 <;> first | omega | assumption) | (apply sd2 <;> first | omega | assumption) | (apply sd3 <;> first | omega | assumption))) rfl rfl trivial nofun ?_
    refine callW.mk [] 5 _ _ _ (sWalkerSeen_c _ (by first | omega | assumption | (simp; omega) | (simp; done) | exact trivial | (apply sd1 <;> first | omega | assumption) | (apply sd2 <;> first | omega | assumption) | (apply sd3 <;> first | omega | assumption))) rfl rfl trivial nofun ?_
    refine tN (by first | omega | assumption | exact fun h => h (by assumption) | exact fun h => h rfl | exact fun h => h Iff.rfl) ?_
    refine callW.mk [] 6 _ _ _ (vInts_c _ _ (by first | omega | assumption | (simp; omega) | (simp; done) | exact trivial | (apply sd1 <;> first | omega | assumption) | (apply sd2 <;> first | omega | assumption) | (apply sd3 <;> first | omega | assumption)) (by first | omega | assumption | (simp; omega) | (simp; done) | exact trivial | (apply sd1 <;> first | omega | assumption) | (apply sd2 <;> first | omega | assumption) | (apply sd3 <;> first | omega | assumption))) rfl rfl trivial nofun ?_
    refine tN (by first | omega | assumption | exact fun h => h (by assumption) | exact fun h => h rfl | exact fun h => h Iff.rfl) ?_
    refine twoN (fun _ => ?_) (fun _ => ?_)
    refine callW.mk [] 6 _ _ _ (sIsYard_c _ (by first | omega | assumption | (simp; omega) | (simp; done) | exact trivial | (apply sd1 <;> first | omega | assumption) | (apply sd2 <;> first | omega | assumption) | (apply sd3 <;> first | omega | assumption))) rfl rfl trivial nofun ?_
    rotate_left
    refine Z ?_
    refine And.intro (Nat.le_of_ble_eq_true rfl) ?_
    refine Z ?_
    rotate_left
    · rename_i y hf hg
      refine dv0 rfl ?_
      exact hg
    · rename_i y hf hg
      have hls : lineP y.n y.b ∧ sensOk y.n y.S := ⟨hg.1, hg.2.2.1⟩
      have hlen := watch_len y
      have hsl := seenL_len y.n y.b y.S
      have hw := hg.2.1.1
      have hr := hg.1.1
      have hsS := hg.2.2.1.2
      rw [watchR_yes hg]
      refine callW.mk [] 6 _ _ _ (SeenBy_c _ _ _ (by first | omega | assumption | (simp; omega) | (simp; done) | exact trivial | (apply sd1 <;> first | omega | assumption) | (apply sd2 <;> first | omega | assumption) | (apply sd3 <;> first | omega | assumption))) rfl rfl trivial nofun ?_
      refine Z ?_
      refine And.intro (Nat.le_of_ble_eq_true rfl) ?_
      refine Z ?_
      refine callW.mkE [] [] 7 _ _ _ _ (StrengthOf_c _ _ _ (by first | omega | assumption | (simp; omega) | (simp; done) | exact trivial | (apply sd1 <;> first | omega | assumption) | (apply sd2 <;> first | omega | assumption) | (apply sd3 <;> first | omega | assumption))) rfl rfl trivial nofun (fun _ _ => ?_)
      refine lm ?_
      refine Z ?_
      refine lm ?_
      refine tN (by first | omega | assumption | exact fun h => h (by assumption) | exact fun h => h rfl | exact fun h => h Iff.rfl) ?_
      rotate_left
      rename_i st hst
      refine loop_up (β := Nat) (fun k => [(12, i64 k), (2, .unk)]) (fun k => []) [] (fun k => k ≤ y.w.length) (fun k => y.w.length - k) (0) ?_ ?_ ?_
      · omega
      · refine weak.mk [] [0, 1, 2, 3, 4, 5, 6] rfl rfl ?_ ?_
        repeat' first | exact trivial | exact rfl | exact Iff.rfl | assumption | exact pureI | exact (show _ = _ by omega) | exact (show _ ≤ _ by omega) | exact (show _ < _ by omega) | exact (show ¬ _ by omega) | refine And.intro ?_ ?_
      · rintro k hk R hR
        by_cases hkn : k < y.w.length
        · have hwk := hg.2.1.2.1 _ (List.getElem_mem hkn)
          have hsk : (y.w[k]).toNat < (seenL y.n y.b y.S).length := by omega
          have f1 := watch_get hg hkn
          have f2 := seenL_get hsk
          have f3 := hst _ (List.getElem_mem hsk)
          have f4 := seenC_bd y.n y.b y.S (y.w[k]).toNat
          rw [f2] at f3
          refine lm ?_
          refine tY (by first | omega | assumption | exact rfl | exact Iff.rfl) ?_
          refine drawP.mk 21 (Z (Z (Z (Z ?_))))
          apply exP.mk
          exact rfl
          apply exP.mk
          exact rfl
          apply exP.mk
          iterate 2 refine Z ?_
          refine jkm (by omega) ?_
          exact rfl
          apply exP.mk
          refine gmv (by omega) f1 ?_
          exact rfl
          apply exP.mk
          exact rfl
          apply exP.mk
          refine Z ?_
          exact rfl
          apply exP.mk
          exact rfl
          apply exP.mk
          exact rfl
          apply exP.mk
          iterate 2 refine Z ?_
          refine jkm (by omega) ?_
          exact rfl
          apply exP.mk
          refine gm (by omega) ?_
          exact rfl
          apply exP.mk
          iterate 2 refine Z ?_
          refine jnm (by omega) (by omega) ?_
          exact rfl
          apply exP.mk
          refine gmv (by omega) f2 ?_
          exact rfl
          apply exP.mk
          exact rfl
          apply exP.mk
          exact rfl
          refine tN (by first | omega | assumption | exact fun h => h (by assumption) | exact fun h => h rfl | exact fun h => h Iff.rfl) ?_
          apply exP.mk
          exact rfl
          apply exP.mk
          exact rfl
          apply exP.mk
          iterate 2 refine Z ?_
          refine jkm (by omega) ?_
          exact rfl
          apply exP.mk
          refine gmv (by omega) f1 ?_
          exact rfl
          apply exP.mk
          exact rfl
          apply exP.mk
          exact rfl
          refine tN (by first | omega | assumption | exact fun h => h (by assumption) | exact fun h => h rfl | exact fun h => h Iff.rfl) ?_
          refine nw (by omega) (by omega) ?_
          rotate_left
          refine hR (k + 1) _ _ ?_ ?_
          rotate_left
          refine weak.mk [] [0, 1, 2, 3, 4, 5, 6] rfl rfl ?_ ?_
          repeat' first | exact trivial | exact rfl | exact Iff.rfl | assumption | exact pureI | exact (show _ = _ by omega) | exact (show _ ≤ _ by omega) | exact (show _ < _ by omega) | exact (show ¬ _ by omega) | refine And.intro ?_ ?_
          rotate_right
          exact ⟨by omega, by omega⟩
        · by_cases hm : wkOk y ⟨3, y.w[0], 2, 0⟩
          · have hmg := wkR_good hm
            have hml := more_len hm
            refine lm ?_
            refine tN (by first | omega | assumption | exact fun h => h (by assumption) | exact fun h => h rfl | exact fun h => h Iff.rfl) ?_
            refine drawP.mkS (Z (Z ?_))
            refine Z ?_
            apply exP.mk
            exact rfl
            apply exP.mk
            refine Z ?_
            exact rfl
            apply exP.mk
            exact rfl
            apply exP.mk
            iterate 2 refine Z ?_
            refine idxN.mk 0 (by omega) (by simp; omega) rfl ?_
            exact rfl
            apply exP.mk
            refine gm (by omega) ?_
            exact rfl
            apply exP.mk
            iterate 10 refine Z ?_
            exact rfl
            refine BothP.mk ?_ ?_
            refine callW.mk [] 7 _ _ _ (WorkYard_c _ (by first | omega | assumption | (simp; omega) | (simp; done) | exact trivial | (apply sd1 <;> first | omega | assumption) | (apply sd2 <;> first | omega | assumption) | (apply sd3 <;> first | omega | assumption) | exact hst _ (List.getElem_mem _)) _ _ _ _) rfl rfl trivial nofun ?_
            refine Z ?_
            apply exP.mk
            exact rfl
            apply exP.mk
            exact rfl
            apply exP.mk
            exact rfl
            iterate 11 refine Z ?_
            apply exP.mk
            exact rfl
            refine tN (by first | omega | assumption | exact fun h => h (by assumption) | exact fun h => h rfl | exact fun h => h Iff.rfl) ?_
            refine callW.mk [] 11 _ _ _ (WalkerSeen_c _ (by first | omega | assumption | (simp; omega) | (simp; done) | exact trivial | (apply sd1 <;> first | omega | assumption) | (apply sd2 <;> first | omega | assumption) | (apply sd3 <;> first | omega | assumption) | exact hst _ (List.getElem_mem _))) rfl rfl trivial nofun ?_
            rotate_left
            iterate 3 refine Z ?_
            refine And.intro ?_ ?_
            refine Z ?_
            exact rfl
            refine Z ?_
            refine And.intro ?_ ?_
            iterate 2 refine Z ?_
            refine idxN.mk 0 (by omega) (by simp; omega) rfl ?_
            exact rfl
            refine And.intro ?_ ?_
            refine gm (by omega) ?_
            exact rfl
            refine And.intro ?_ ?_
            iterate 10 refine Z ?_
            exact rfl
            refine callW.mk [] 8 _ _ _ (WorkYard_c _ (by first | omega | assumption | (simp; omega) | (simp; done) | exact trivial | (apply sd1 <;> first | omega | assumption) | (apply sd2 <;> first | omega | assumption) | (apply sd3 <;> first | omega | assumption) | exact hst _ (List.getElem_mem _)) _ _ _ _) rfl rfl trivial nofun ?_
            refine Z ?_
            apply exP.mk
            exact rfl
            apply exP.mk
            exact rfl
            apply exP.mk
            exact rfl
            iterate 6 refine Z ?_
            apply exP.mk
            exact rfl
            refine tN (by first | omega | assumption | exact fun h => h (by assumption) | exact fun h => h rfl | exact fun h => h Iff.rfl) ?_
            refine callW.mk [] 11 _ _ _ (WalkerSeen_c _ (by first | omega | assumption | (simp; omega) | (simp; done) | exact trivial | (apply sd1 <;> first | omega | assumption) | (apply sd2 <;> first | omega | assumption) | (apply sd3 <;> first | omega | assumption) | exact hst _ (List.getElem_mem _))) rfl rfl trivial nofun ?_
            rotate_left
            all_goals rw [watchR_yes hmg]
            · refine loop_up (β := Nat) (fun t => [(17, i64 t), (2, .unk)]) (fun t => []) [] (fun t => t ≤ y.w.length) (fun t => y.w.length - t) (0) ?_ ?_ ?_
              · omega
              · refine weak.mk [] [0, 1, 2, 3, 4, 5, 6, 7, 8, 9, 10, 11] rfl rfl ?_ ?_
                repeat' first | exact trivial | exact rfl | exact Iff.rfl | assumption | exact pureI | exact (show _ = _ by omega) | exact (show _ ≤ _ by omega) | exact (show _ < _ by omega) | exact (show ¬ _ by omega) | refine And.intro ?_ ?_
              · rintro t ht R2 hR2
                by_cases htn : t < y.w.length
                · have hge := more_ge hm htn
                  refine tY (by first | omega | assumption | exact rfl | exact Iff.rfl) ?_
                  refine lm ?_
                  refine tY (by first | omega | assumption | exact rfl | exact Iff.rfl) ?_
                  refine drawP.mkS (Z (Z ?_))
                  refine Z ?_
                  apply exP.mk
                  exact rfl
                  apply exP.mk
                  exact rfl
                  apply exP.mk
                  iterate 2 refine Z ?_
                  refine jkm (by omega) ?_
                  exact rfl
                  apply exP.mk
                  refine gm (by omega) ?_
                  exact rfl
                  apply exP.mk
                  exact rfl
                  apply exP.mk
                  exact rfl
                  apply exP.mk
                  iterate 2 refine Z ?_
                  refine jkm (by omega) ?_
                  exact rfl
                  apply exP.mk
                  refine gm (by omega) ?_
                  exact rfl
                  apply exP.mk
                  exact rfl
                  refine tN (by first | omega | assumption | exact fun h => h (by assumption) | exact fun h => h rfl | exact fun h => h Iff.rfl) ?_
                  refine nw (by omega) (by omega) ?_
                  rotate_left
                  refine hR2 (t + 1) _ _ ?_ ?_
                  rotate_left
                  refine weak.mk [] [0, 1, 2, 3, 4, 5, 6, 7, 8, 9, 10, 11] rfl rfl ?_ ?_
                  repeat' first | exact trivial | exact rfl | exact Iff.rfl | assumption | exact pureI | exact (show _ = _ by omega) | exact (show _ ≤ _ by omega) | exact (show _ < _ by omega) | exact (show ¬ _ by omega) | refine And.intro ?_ ?_
                  rotate_right
                  exact ⟨by omega, by omega⟩
                · have f5 := seenC_bd y.n y.b y.S (y.w[0]).toNat
                  have f6 := watch_get hg (k := 0) (by omega)
                  have f7 := more_0 (by omega) hm
                  rw [f6] at f7
                  refine tY (by first | omega | assumption | exact rfl | exact Iff.rfl) ?_
                  refine lm ?_
                  refine tN (by first | omega | assumption | exact fun h => h (by assumption) | exact fun h => h rfl | exact fun h => h Iff.rfl) ?_
                  refine drawP.mk 12 (Z (Z (Z (Z ?_))))
                  apply exP.mk
                  exact rfl
                  apply exP.mk
                  exact rfl
                  refine tY (by first | omega | assumption | exact rfl | exact Iff.rfl) ?_
                  apply exP.mk
                  exact rfl
                  apply exP.mk
                  iterate 2 refine Z ?_
                  refine idxN.mk 0 (by omega) (by simp; omega) rfl ?_
                  exact rfl
                  apply exP.mk
                  refine gmv (by omega) f7 ?_
                  exact rfl
                  apply exP.mk
                  exact rfl
                  apply exP.mk
                  iterate 2 refine Z ?_
                  refine idxN.mk 0 (by omega) (by simp; omega) rfl ?_
                  exact rfl
                  apply exP.mk
                  refine gmv (by omega) f6 ?_
                  exact rfl
                  apply exP.mk
                  refine nw (by omega) (by omega) ?_
                  exact rfl
                  apply exP.mk
                  exact rfl
                  apply exP.mk
                  exact rfl
                  rotate_left
                  refine doneV.mk [] [] rfl rfl ?_ ?_ ?_
                  repeat' first | exact trivial | exact rfl | exact Iff.rfl | assumption | exact pureI | exact (show _ = _ by omega) | exact (show _ ≤ _ by omega) | exact (show _ < _ by omega) | exact (show ¬ _ by omega) | refine And.intro ?_ ?_
            · refine loop_up (β := Nat) (fun t => [(17, i64 t), (2, .unk)]) (fun t => []) [] (fun t => t ≤ y.w.length) (fun t => y.w.length - t) (0) ?_ ?_ ?_
              · omega
              · refine weak.mk [] [0, 1, 2, 3, 4, 5, 6, 7, 8, 9, 10, 11] rfl rfl ?_ ?_
                repeat' first | exact trivial | exact rfl | exact Iff.rfl | assumption | exact pureI | exact (show _ = _ by omega) | exact (show _ ≤ _ by omega) | exact (show _ < _ by omega) | exact (show ¬ _ by omega) | refine And.intro ?_ ?_
              · rintro t ht R2 hR2
                by_cases htn : t < y.w.length
                · have hge := more_ge hm htn
                  refine tY (by first | omega | assumption | exact rfl | exact Iff.rfl) ?_
                  refine lm ?_
                  refine tY (by first | omega | assumption | exact rfl | exact Iff.rfl) ?_
                  refine drawP.mkS (Z (Z ?_))
                  refine Z ?_
                  apply exP.mk
                  exact rfl
                  apply exP.mk
                  exact rfl
                  apply exP.mk
                  iterate 2 refine Z ?_
                  refine jkm (by omega) ?_
                  exact rfl
                  apply exP.mk
                  refine gm (by omega) ?_
                  exact rfl
                  apply exP.mk
                  exact rfl
                  apply exP.mk
                  exact rfl
                  apply exP.mk
                  iterate 2 refine Z ?_
                  refine jkm (by omega) ?_
                  exact rfl
                  apply exP.mk
                  refine gm (by omega) ?_
                  exact rfl
                  apply exP.mk
                  exact rfl
                  refine tN (by first | omega | assumption | exact fun h => h (by assumption) | exact fun h => h rfl | exact fun h => h Iff.rfl) ?_
                  refine nw (by omega) (by omega) ?_
                  rotate_left
                  refine hR2 (t + 1) _ _ ?_ ?_
                  rotate_left
                  refine weak.mk [] [0, 1, 2, 3, 4, 5, 6, 7, 8, 9, 10, 11] rfl rfl ?_ ?_
                  repeat' first | exact trivial | exact rfl | exact Iff.rfl | assumption | exact pureI | exact (show _ = _ by omega) | exact (show _ ≤ _ by omega) | exact (show _ < _ by omega) | exact (show ¬ _ by omega) | refine And.intro ?_ ?_
                  rotate_right
                  exact ⟨by omega, by omega⟩
                · have f5 := seenC_bd y.n y.b y.S (y.w[0]).toNat
                  have f6 := watch_get hg (k := 0) (by omega)
                  have f7 := more_0 (by omega) hm
                  rw [f6] at f7
                  refine tY (by first | omega | assumption | exact rfl | exact Iff.rfl) ?_
                  refine lm ?_
                  refine tN (by first | omega | assumption | exact fun h => h (by assumption) | exact fun h => h rfl | exact fun h => h Iff.rfl) ?_
                  refine drawP.mk 12 (Z (Z (Z (Z ?_))))
                  apply exP.mk
                  exact rfl
                  apply exP.mk
                  exact rfl
                  refine tY (by first | omega | assumption | exact rfl | exact Iff.rfl) ?_
                  apply exP.mk
                  exact rfl
                  apply exP.mk
                  iterate 2 refine Z ?_
                  refine idxN.mk 0 (by omega) (by simp; omega) rfl ?_
                  exact rfl
                  apply exP.mk
                  refine gmv (by omega) f7 ?_
                  exact rfl
                  apply exP.mk
                  exact rfl
                  apply exP.mk
                  iterate 2 refine Z ?_
                  refine idxN.mk 0 (by omega) (by simp; omega) rfl ?_
                  exact rfl
                  apply exP.mk
                  refine gmv (by omega) f6 ?_
                  exact rfl
                  apply exP.mk
                  refine nw (by omega) (by omega) ?_
                  exact rfl
                  apply exP.mk
                  exact rfl
                  apply exP.mk
                  exact rfl
                  rotate_left
                  refine doneV.mk [] [] rfl rfl ?_ ?_ ?_
                  repeat' first | exact trivial | exact rfl | exact Iff.rfl | assumption | exact pureI | exact (show _ = _ by omega) | exact (show _ ≤ _ by omega) | exact (show _ < _ by omega) | exact (show ¬ _ by omega) | refine And.intro ?_ ?_
          · refine lm ?_
            refine tN (by first | omega | assumption | exact fun h => h (by assumption) | exact fun h => h rfl | exact fun h => h Iff.rfl) ?_
            refine drawP.mkS (Z (Z ?_))
            refine Z ?_
            apply exP.mk
            exact rfl
            apply exP.mk
            refine Z ?_
            exact rfl
            apply exP.mk
            exact rfl
            apply exP.mk
            iterate 2 refine Z ?_
            refine idxN.mk 0 (by omega) (by simp; omega) rfl ?_
            exact rfl
            apply exP.mk
            refine gm (by omega) ?_
            exact rfl
            apply exP.mk
            iterate 10 refine Z ?_
            exact rfl
            refine BothP.mk ?_ ?_
            refine callW.mk [] 7 _ _ _ (WorkYard_c _ (by first | omega | assumption | (simp; omega) | (simp; done) | exact trivial | (apply sd1 <;> first | omega | assumption) | (apply sd2 <;> first | omega | assumption) | (apply sd3 <;> first | omega | assumption) | exact hst _ (List.getElem_mem _)) _ _ _ _) rfl rfl trivial nofun ?_
            refine Z ?_
            apply exP.mk
            exact rfl
            apply exP.mk
            exact rfl
            apply exP.mk
            exact rfl
            iterate 11 refine Z ?_
            apply exP.mk
            exact rfl
            refine tY (by first | omega | assumption | exact rfl | exact Iff.rfl) ?_
            rotate_left
            iterate 3 refine Z ?_
            refine And.intro ?_ ?_
            refine Z ?_
            exact rfl
            refine Z ?_
            refine And.intro ?_ ?_
            iterate 2 refine Z ?_
            refine idxN.mk 0 (by omega) (by simp; omega) rfl ?_
            exact rfl
            refine And.intro ?_ ?_
            refine gm (by omega) ?_
            exact rfl
            refine And.intro ?_ ?_
            iterate 10 refine Z ?_
            exact rfl
            refine callW.mk [] 8 _ _ _ (WorkYard_c _ (by first | omega | assumption | (simp; omega) | (simp; done) | exact trivial | (apply sd1 <;> first | omega | assumption) | (apply sd2 <;> first | omega | assumption) | (apply sd3 <;> first | omega | assumption) | exact hst _ (List.getElem_mem _)) _ _ _ _) rfl rfl trivial nofun ?_
            refine Z ?_
            apply exP.mk
            exact rfl
            apply exP.mk
            exact rfl
            apply exP.mk
            exact rfl
            iterate 6 refine Z ?_
            apply exP.mk
            exact rfl
            refine tY (by first | omega | assumption | exact rfl | exact Iff.rfl) ?_
            rotate_left
            all_goals refine dv0 rfl ?_
            all_goals exact trivial
end Sx
