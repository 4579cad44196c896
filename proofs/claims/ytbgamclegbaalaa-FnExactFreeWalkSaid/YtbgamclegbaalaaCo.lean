/- Contracts: the first free walk, said. -/
import Derived.Test.YtbgamclegbaalaaCj
set_option linter.all false
namespace Sx
open Go Go.Proofs
set_option maxRecDepth 100000
set_option maxHeartbeats 4000000
set_option linter.unusedSimpArgs false
theorem all_lt {q : Nat} (p : Nat → Prop) : (∀ r, r < q + 1 → ¬ p r) ↔ (∀ r, r < q → ¬ p r) ∧ ¬ p q :=
  ⟨fun h => ⟨fun r hr => h r (by omega), h q (by omega)⟩, fun h r hr => by
    by_cases e : r = q
    · subst e; exact h.2
    · exact h.1 r (by omega)⟩
theorem fwN_next {n : Int} {b : Bool} {L : List (List Int)} {T t q : Nat} {l : List Int} (hl : fwN n b L T t = some l) (hq : q < n.toNat) (h : nextP n b L T t l q) (hno : ∀ p, p < q → ¬ nextP n b L T t l p) : fwN n b L T (t + 1) = some (l ++ [(q : Int)]) := by
  unfold fwN; rw [hl, Option.bind_some, nextQ_some hq h hno]; rfl
theorem fwN_end {n : Int} {b : Bool} {L : List (List Int)} {T t : Nat} {l : List Int} (hl : fwN n b L T t = some l) (hno : ∀ p, p < n.toNat → ¬ nextP n b L T t l p) : fwN n b L T (t + 1) = none := by
  unfold fwN; rw [hl, Option.bind_some, nextQ_none hno]; rfl
theorem sFreeWalk_c (n : Int) (b : Bool) (L : List (List Int)) (hL : L.length ≤ 1099511627775) (hl : ∀ l ∈ L, l.length ≤ 1099511627776) : C 50 [rd n b, intss L] [] (.tuple [.loc 0, pr (fwOk n b L)]) [row (fwR n b L)] false := by
  refine mkC true false Try.func50 rfl ?_
  refine And.intro nofun ?_
  by_cases hc : chasers n b L
  · have hr := hc.1
    have hn := hr.1
    have hn2 := hr.2.1
    have hw : lenOk L := chasers_len hc
    have hb := lng_bd L hw
    have hLl : 1 ≤ L.length := by have := hc.2.2.1; omega
    have hne : L ≠ [] := by rintro rfl; simp at hLl
    have h1 := hb.2.2 hne
    obtain ⟨T, hT⟩ : ∃ T : Nat, lng L = T + 1 := ⟨(lng L - 1).toNat, by omega⟩
    have hT3 : T ≤ 60 := by omega
    have hlen : (wtab n b L T 1 0).length = T + 1 := wtab_len 0
    have hways := l11Ways_c n b hr L hL hLl hw T hT 1 (by omega)
    iterate 3 refine Z ?_
    refine callW.mk [] 1 _ _ _ (l11Chasers_c _ _ _ (by first | omega | assumption | (simp; omega) | (simp; done) | exact hl _ (List.getElem_mem _)) (by first | omega | assumption | (simp; omega) | (simp; done) | exact hl _ (List.getElem_mem _))) rfl rfl trivial nofun ?_
    refine tN (by first | omega | assumption | exact fun h => h (by assumption) | exact fun h => h rfl | exact fun h => h Iff.rfl) ?_
    refine callW.mk [] 1 _ _ _ (hways) rfl rfl (by repeat' first | exact trivial | assumption | exact knownSS | exact knownApp knownSS knownNil | refine And.intro ?_ ?_) nofun ?_
    rotate_left
    refine loop_up (β := (Nat × List Int)) (fun s => [(8, i64 s.1), (6, .loc 2), (4, .unk), (5, .unk)]) (fun s => [(2, row s.2)]) [1] (fun s => s.1 ≤ T + 1 ∧ fwN n b L T s.1 = some s.2) (fun s => T + 1 - s.1) ((0, [])) ?_ ?_ ?_
    · exact ⟨by omega, rfl⟩
    · refine weak.mk [1] [0, 1, 2] rfl rfl ?_ ?_
      repeat' first | exact trivial | exact rfl | exact Iff.rfl | assumption | exact pureI | exact (show _ = _ by omega) | exact (show _ ≤ _ by omega) | exact (show _ < _ by omega) | exact (show ¬ _ by omega) | refine And.intro ?_ ?_
    · rintro ⟨t, l⟩ ⟨ht, hl⟩ R hR
      have ht : t ≤ T + 1 := ht
      have hl : fwN n b L T t = some l := hl
      have hll : l.length = t := fwN_len hl
      have hin : ∀ x ∈ l, 0 ≤ x ∧ x < n := fwN_in hl
      by_cases htT : t < T + 1
      · refine lm ?_
        refine tY (by first | omega | assumption | exact rfl | exact Iff.rfl) ?_
        rotate_left
        refine loop_up (β := Nat) (fun q => [(9, i64 q)]) (fun q => []) [] (fun q => q ≤ n.toNat ∧ ∀ p, p < q → ¬ nextP n b L T t l p) (fun q => n.toNat - q) (0) ?_ ?_ ?_
        · exact ⟨by omega, nofun⟩
        · refine weak.mk [] [0, 1, 2] rfl rfl ?_ ?_
          repeat' first | exact trivial | exact rfl | exact Iff.rfl | assumption | exact pureI | exact (show _ = _ by omega) | exact (show _ ≤ _ by omega) | exact (show _ < _ by omega) | exact (show ¬ _ by omega) | refine And.intro ?_ ?_
        · rintro q ⟨hq, hno⟩ R2 hR2
          have hat : (wtab n b L T 1 0)[t]'(by omega) = wrow n b L T 1 t n.toNat := by rw [wtab_get, if_neg (by omega)]
          have hal : (wrow n b L T 1 t n.toNat).length = n.toNat := wrow_len
          by_cases hqn : q < n.toNat
          · have hag : (wrow n b L T 1 t n.toNat)[q]'(by omega) = wy n b L T 1 t q := wrow_get _
            by_cases ht0 : t = 0
            · subst ht0
              refine drawP.mk 44 (Z (Z (Z (Z ?_))))
              apply exP.mk
              exact rfl
              apply exP.mk
              refine Z ?_
              exact rfl
              apply exP.mk
              exact rfl
              apply exP.mk
              exact rfl
              apply exP.mk
              exact rfl
              refine tY (by first | omega | assumption | exact rfl | exact Iff.rfl) ?_
              apply exP.mk
              exact rfl
              apply exP.mk
              exact rfl
              apply exP.mk
              iterate 2 refine Z ?_
              refine idxN.mk 0 (by omega) (by simp; omega) rfl ?_
              exact rfl
              apply exP.mk
              refine gmv (by omega) hat ?_
              exact rfl
              apply exP.mk
              exact rfl
              apply exP.mk
              refine omv (by omega) hat ?_
              iterate 2 refine Z ?_
              refine jkm (by omega) ?_
              exact rfl
              apply exP.mk
              refine omv (by omega) hat ?_
              refine gmv (by omega) hag ?_
              exact rfl
              apply exP.mk
              exact rfl
              apply exP.mk
              exact rfl
              refine twoP.mk (fun _ => ?_) (fun _ => ?_)
              refine nw (by omega) (by omega) ?_
              rotate_left
              apply exP.mk
              exact rfl
              apply exP.mk
              exact rfl
              apply exP.mk
              exact rfl
              refine tN (by first | omega | assumption | exact fun h => h (by assumption) | exact fun h => h rfl | exact fun h => h Iff.rfl) ?_
              refine Z ?_
              refine tN (by first | omega | assumption | exact fun h => h (by assumption) | exact fun h => h rfl | exact fun h => h Iff.rfl) ?_
              iterate 10 refine Z ?_
              refine leP.mk (by first | (simp [big]; omega) | (simp [big]; done)) ?_
              refine ea ?_
              refine nw (by omega) (by omega) ?_
              rotate_left
              · rename_i h1
                refine hR2 (q + 1) _ _ ?_ ?_
                rotate_left
                refine weak.mk [] [0, 1, 2] rfl rfl ?_ ?_
                repeat' first | exact trivial | exact rfl | exact Iff.rfl | assumption | exact pureI | exact (show _ = _ by omega) | exact (show _ ≤ _ by omega) | exact (show _ < _ by omega) | exact (show ¬ _ by omega) | refine And.intro ?_ ?_
                rotate_right
                · exact ⟨⟨by omega, (all_lt _).2 ⟨hno, fun h => h.1 h1⟩⟩, by omega⟩
              · rename_i h1
                refine hR ((0 + 1, l ++ [(q : Int)])) _ _ ?_ ?_
                rotate_left
                refine weak.mk [] [0, 1, 4] rfl rfl ?_ ?_
                repeat' first | exact trivial | exact rfl | exact Iff.rfl | assumption | exact pureI | exact (show _ = _ by omega) | exact (show _ ≤ _ by omega) | exact (show _ < _ by omega) | exact (show ¬ _ by omega) | refine And.intro ?_ ?_
                rotate_right
                · exact ⟨⟨by omega, fwN_next hl hqn ⟨h1, .inl rfl⟩ hno⟩, by omega⟩
            · obtain ⟨t, rfl⟩ : ∃ p, t = p + 1 := ⟨t - 1, by omega⟩
              have hlt : l[t]'(by omega) = l.getD t 0 := by rw [List.getD_eq_getElem?_getD, List.getElem?_eq_getElem (by omega)]; rfl
              have hlb := hin _ (List.getElem_mem (show t < l.length by omega))
              refine drawP.mk 44 (Z (Z (Z (Z ?_))))
              apply exP.mk
              exact rfl
              apply exP.mk
              refine Z ?_
              exact rfl
              apply exP.mk
              exact rfl
              apply exP.mk
              exact rfl
              apply exP.mk
              exact rfl
              refine tY (by first | omega | assumption | exact rfl | exact Iff.rfl) ?_
              apply exP.mk
              exact rfl
              apply exP.mk
              exact rfl
              apply exP.mk
              iterate 2 refine Z ?_
              refine jpm (by omega) ?_
              exact rfl
              apply exP.mk
              refine gmv (by omega) hat ?_
              exact rfl
              apply exP.mk
              exact rfl
              apply exP.mk
              refine omv (by omega) hat ?_
              iterate 2 refine Z ?_
              refine jkm (by omega) ?_
              exact rfl
              apply exP.mk
              refine omv (by omega) hat ?_
              refine gmv (by omega) hag ?_
              exact rfl
              apply exP.mk
              exact rfl
              apply exP.mk
              exact rfl
              refine twoP.mk (fun _ => ?_) (fun _ => ?_)
              refine nw (by omega) (by omega) ?_
              rotate_left
              apply exP.mk
              exact rfl
              apply exP.mk
              exact rfl
              apply exP.mk
              exact rfl
              refine tY (by first | omega | assumption | exact rfl | exact Iff.rfl) ?_
              apply exP.mk
              exact rfl
              apply exP.mk
              exact rfl
              apply exP.mk
              exact rfl
              apply exP.mk
              refine nw (by omega) (by omega) ?_
              exact rfl
              apply exP.mk
              iterate 2 refine Z ?_
              refine jnm (by omega) (by simp; omega) ?_
              exact rfl
              apply exP.mk
              refine gmv (by omega) hlt ?_
              exact rfl
              apply exP.mk
              exact rfl
              apply exP.mk
              refine callP.mk _ _ _ (l2Gap_c _ _ _ _ (by first | omega | assumption | (simp; omega) | (simp; done) | exact hl _ (List.getElem_mem _) | exact hin _ (List.getElem_mem _)) (by first | omega | assumption | (simp; omega) | (simp; done) | exact hl _ (List.getElem_mem _) | exact hin _ (List.getElem_mem _)) (by first | omega | assumption | (simp; omega) | (simp; done) | exact hl _ (List.getElem_mem _) | exact hin _ (List.getElem_mem _))) (by repeat' first | exact trivial | assumption | exact knownSS | exact knownApp knownSS knownNil | refine And.intro ?_ ?_) nofun trivial ?_
              exact rfl
              apply exP.mk
              exact rfl
              apply exP.mk
              exact rfl
              refine twoP.mk (fun _ => ?_) (fun _ => ?_)
              refine nw (by omega) (by omega) ?_
              rotate_left
              apply exP.mk
              exact rfl
              apply exP.mk
              exact rfl
              apply exP.mk
              refine nw (by omega) (by omega) ?_
              exact rfl
              apply exP.mk
              refine callP.mk _ _ _ (l11At_c _ _ (by first | omega | assumption | (simp; omega) | (simp; done) | exact hl _ (List.getElem_mem _) | exact hin _ (List.getElem_mem _)) (by first | omega | assumption | (simp; omega) | (simp; done) | exact hl _ (List.getElem_mem _) | exact hin _ (List.getElem_mem _)) (by first | omega | assumption | (simp; omega) | (simp; done) | exact hl _ (List.getElem_mem _) | exact hin _ (List.getElem_mem _))) (by repeat' first | exact trivial | assumption | exact knownSS | exact knownApp knownSS knownNil | refine And.intro ?_ ?_) nofun trivial ?_
              exact rfl
              apply exP.mk
              exact rfl
              apply exP.mk
              exact rfl
              apply exP.mk
              refine callP.mk _ _ _ (l11At_c _ _ (by first | omega | assumption | (simp; omega) | (simp; done) | exact hl _ (List.getElem_mem _) | exact hin _ (List.getElem_mem _)) (by first | omega | assumption | (simp; omega) | (simp; done) | exact hl _ (List.getElem_mem _) | exact hin _ (List.getElem_mem _)) (by first | omega | assumption | (simp; omega) | (simp; done) | exact hl _ (List.getElem_mem _) | exact hin _ (List.getElem_mem _))) (by repeat' first | exact trivial | assumption | exact knownSS | exact knownApp knownSS knownNil | refine And.intro ?_ ?_) nofun trivial ?_
              exact rfl
              apply exP.mk
              exact rfl
              apply exP.mk
              exact rfl
              apply exP.mk
              refine nw (by omega) (by omega) ?_
              exact rfl
              apply exP.mk
              iterate 2 refine Z ?_
              refine jnm (by omega) (by simp; omega) ?_
              exact rfl
              apply exP.mk
              refine gmv (by omega) hlt ?_
              exact rfl
              apply exP.mk
              exact rfl
              apply exP.mk
              refine callP.mk _ _ _ (l11Passes_c _ _ (by first | omega | assumption | (simp; omega) | (simp; done) | exact hl _ (List.getElem_mem _) | exact hin _ (List.getElem_mem _)) (by first | omega | assumption | (simp; omega) | (simp; done) | exact hl _ (List.getElem_mem _) | exact hin _ (List.getElem_mem _)) _ _) (by repeat' first | exact trivial | assumption | exact knownSS | exact knownApp knownSS knownNil | refine And.intro ?_ ?_) nofun trivial ?_
              exact rfl
              refine twoP.mk (fun _ => ?_) (fun _ => ?_)
              refine nw (by omega) (by omega) ?_
              rotate_left
              refine Z ?_
              refine tN (by first | omega | assumption | exact fun h => h (by assumption) | exact fun h => h rfl | exact fun h => h Iff.rfl) ?_
              iterate 10 refine Z ?_
              refine leP.mk (by first | (simp [big]; omega) | (simp [big]; done)) ?_
              refine ea ?_
              refine nw (by omega) (by omega) ?_
              rotate_left
              · rename_i h1
                refine hR2 (q + 1) _ _ ?_ ?_
                rotate_left
                refine weak.mk [] [0, 1, 2] rfl rfl ?_ ?_
                repeat' first | exact trivial | exact rfl | exact Iff.rfl | assumption | exact pureI | exact (show _ = _ by omega) | exact (show _ ≤ _ by omega) | exact (show _ < _ by omega) | exact (show ¬ _ by omega) | refine And.intro ?_ ?_
                rotate_right
                · exact ⟨⟨by omega, (all_lt _).2 ⟨hno, fun h => h.1 h1⟩⟩, by omega⟩
              · rename_i h1 h2
                refine hR2 (q + 1) _ _ ?_ ?_
                rotate_left
                refine weak.mk [] [0, 1, 2] rfl rfl ?_ ?_
                repeat' first | exact trivial | exact rfl | exact Iff.rfl | assumption | exact pureI | exact (show _ = _ by omega) | exact (show _ ≤ _ by omega) | exact (show _ < _ by omega) | exact (show ¬ _ by omega) | refine And.intro ?_ ?_
                rotate_right
                · exact ⟨⟨by omega, (all_lt _).2 ⟨hno, fun h => h.2.elim (by omega) fun h => absurd (show gap n b (l.getD t 0) q ≤ 1 from h.1) (by omega)⟩⟩, by omega⟩
              · rename_i h1 h2 h3
                refine hR2 (q + 1) _ _ ?_ ?_
                rotate_left
                refine weak.mk [] [0, 1, 2] rfl rfl ?_ ?_
                repeat' first | exact trivial | exact rfl | exact Iff.rfl | assumption | exact pureI | exact (show _ = _ by omega) | exact (show _ ≤ _ by omega) | exact (show _ < _ by omega) | exact (show ¬ _ by omega) | refine And.intro ?_ ?_
                rotate_right
                · exact ⟨⟨by omega, (all_lt _).2 ⟨hno, fun h => h.2.elim (by omega) fun h => h.2 h3⟩⟩, by omega⟩
              · rename_i h1 h2 h3
                refine hR ((t + 1 + 1, l ++ [(q : Int)])) _ _ ?_ ?_
                rotate_left
                refine weak.mk [] [0, 1, 4] rfl rfl ?_ ?_
                repeat' first | exact trivial | exact rfl | exact Iff.rfl | assumption | exact pureI | exact (show _ = _ by omega) | exact (show _ ≤ _ by omega) | exact (show _ < _ by omega) | exact (show ¬ _ by omega) | refine And.intro ?_ ?_
                rotate_right
                · exact ⟨⟨by omega, fwN_next hl hqn ⟨h1, .inr ⟨show gap n b (l.getD t 0) q ≤ 1 by omega, h3⟩⟩ hno⟩, by omega⟩
          · refine drawP.mk 44 (Z (Z (Z (Z ?_))))
            apply exP.mk
            exact rfl
            apply exP.mk
            refine Z ?_
            exact rfl
            apply exP.mk
            exact rfl
            apply exP.mk
            exact rfl
            apply exP.mk
            exact rfl
            refine tN (by first | omega | assumption | exact fun h => h (by assumption) | exact fun h => h rfl | exact fun h => h Iff.rfl) ?_
            refine Z ?_
            refine tY (by first | omega | assumption | exact rfl | exact Iff.rfl) ?_
            iterate 2 refine Z ?_
            rotate_left
            have e : q = n.toNat := by omega
            subst e
            have hno := fwOk_no hT (show t + 1 ≤ T + 1 by omega) (fwN_end hl hno)
            rw [fwR_no hno]
            refine doneV.mk [1] [3] rfl rfl ?_ ?_ ?_
            repeat' first | exact trivial | exact rfl | exact Iff.rfl | assumption | exact pureI | exact (show _ = _ by omega) | exact (show _ ≤ _ by omega) | exact (show _ < _ by omega) | exact (show ¬ _ by omega) | refine And.intro ?_ ?_
      · refine lm ?_
        refine tN (by first | omega | assumption | exact fun h => h (by assumption) | exact fun h => h rfl | exact fun h => h Iff.rfl) ?_
        rotate_left
        have e : t = T + 1 := by omega
        subst e
        obtain ⟨e1, e2⟩ := fwR_yes hc hT hl
        rw [e1]
        refine doneV.mk [] [2] rfl rfl ?_ ?_ ?_
        repeat' first | exact trivial | exact rfl | exact Iff.rfl | assumption | exact pureI | exact (show _ = _ by omega) | exact (show _ ≤ _ by omega) | exact (show _ < _ by omega) | exact (show ¬ _ by omega) | refine And.intro ?_ ?_
  · iterate 3 refine Z ?_
    refine callW.mk [] 1 _ _ _ (l11Chasers_c _ _ _ (by first | omega | assumption | (simp; omega) | (simp; done) | exact hl _ (List.getElem_mem _)) (by first | omega | assumption | (simp; omega) | (simp; done) | exact hl _ (List.getElem_mem _))) rfl rfl trivial nofun ?_
    refine tY (by first | omega | assumption | exact rfl | exact Iff.rfl) ?_
    rotate_left
    rw [fwR_no fun h => hc h.1]
    refine doneV.mk [1] [1] rfl rfl ?_ ?_ ?_
    repeat' first | exact trivial | exact rfl | exact Iff.rfl | assumption | exact pureI | exact (show _ = _ by omega) | exact (show _ ≤ _ by omega) | exact (show _ < _ by omega) | exact (show ¬ _ by omega) | refine And.intro ?_ ?_
    exact (show ¬ _ from fun h => hc h.1)
theorem FnExactFreeWalk_c (n : Int) (b : Bool) (L : List (List Int)) (hL : L.length ≤ 9223372036854775807) (hl : ∀ l ∈ L, l.length ≤ 9223372036854775807) : C 13 [rd n b, intss L] [] .tt [] false := by
  refine mkC false false Try.func13 rfl ?_
  refine And.intro nofun ?_
  by_cases hs : szSS L 1048576 < 0
  · refine Z ?_
    refine callW.mk [] 1 _ _ _ (szIntSS_c _ (by first | omega | assumption | (simp; omega) | (simp; done) | exact hl _ (List.getElem_mem _)) (by first | omega | assumption | (simp; omega) | (simp; done) | exact hl _ (List.getElem_mem _)) _ (by first | omega | assumption | (simp; omega) | (simp; done) | exact hl _ (List.getElem_mem _)) (by first | omega | assumption | (simp; omega) | (simp; done) | exact hl _ (List.getElem_mem _))) rfl rfl trivial nofun ?_
    refine tY (by first | omega | assumption | exact rfl | exact Iff.rfl) ?_
    rotate_left
    all_goals exact dv0 rfl trivial
  · obtain ⟨h1, h2⟩ := szSS_ok hs
    have hd := @fwR_len n b L
    have h3 : ∀ l ∈ L, l.length ≤ 1099511627776 := fun l h => by have := h2 l h; omega
    refine Z ?_
    refine callW.mk [] 1 _ _ _ (szIntSS_c _ (by first | omega | assumption | (simp; omega) | (simp; done) | exact hl _ (List.getElem_mem _) | exact h2 _ (List.getElem_mem _) | exact h3 _ (List.getElem_mem _)) (by first | omega | assumption | (simp; omega) | (simp; done) | exact hl _ (List.getElem_mem _) | exact h2 _ (List.getElem_mem _) | exact h3 _ (List.getElem_mem _)) _ (by first | omega | assumption | (simp; omega) | (simp; done) | exact hl _ (List.getElem_mem _) | exact h2 _ (List.getElem_mem _) | exact h3 _ (List.getElem_mem _)) (by first | omega | assumption | (simp; omega) | (simp; done) | exact hl _ (List.getElem_mem _) | exact h2 _ (List.getElem_mem _) | exact h3 _ (List.getElem_mem _))) rfl rfl trivial nofun ?_
    refine tN (by first | omega | assumption | exact fun h => h (by assumption) | exact fun h => h rfl | exact fun h => h Iff.rfl) ?_
    refine callW.mk [] 1 _ _ _ (toRoad_c _ _) rfl rfl trivial nofun ?_
    refine callW.mk [] 1 _ _ _ (toIntSS_c _ (by first | omega | assumption | (simp; omega) | (simp; done) | exact hl _ (List.getElem_mem _) | exact h2 _ (List.getElem_mem _) | exact h3 _ (List.getElem_mem _)) (by first | omega | assumption | (simp; omega) | (simp; done) | exact hl _ (List.getElem_mem _) | exact h2 _ (List.getElem_mem _) | exact h3 _ (List.getElem_mem _))) rfl rfl trivial nofun ?_
    refine callW.mk [] 2 _ _ _ (sFreeWalk_c _ _ _ (by first | omega | assumption | (simp; omega) | (simp; done) | exact hl _ (List.getElem_mem _) | exact h2 _ (List.getElem_mem _) | exact h3 _ (List.getElem_mem _)) (by first | omega | assumption | (simp; omega) | (simp; done) | exact hl _ (List.getElem_mem _) | exact h2 _ (List.getElem_mem _) | exact h3 _ (List.getElem_mem _))) rfl rfl (by repeat' first | exact trivial | assumption | exact knownSS | exact knownApp knownSS knownNil | refine And.intro ?_ ?_) nofun ?_
    refine callW.mk [] 3 _ _ _ (toIntSS_c _ (by first | omega | assumption | (simp; omega) | (simp; done) | exact hl _ (List.getElem_mem _) | exact h2 _ (List.getElem_mem _) | exact h3 _ (List.getElem_mem _)) (by first | omega | assumption | (simp; omega) | (simp; done) | exact hl _ (List.getElem_mem _) | exact h2 _ (List.getElem_mem _) | exact h3 _ (List.getElem_mem _))) rfl rfl (by repeat' first | exact trivial | assumption | exact knownSS | exact knownApp knownSS knownNil | refine And.intro ?_ ?_) nofun ?_
    refine callW.mk [] 4 _ _ _ (toRoad_c _ _) rfl rfl (by repeat' first | exact trivial | assumption | exact knownSS | exact knownApp knownSS knownNil | refine And.intro ?_ ?_) nofun ?_
    refine callW.mk [] 4 _ _ _ (FreeWalk_c _ _ _ (by first | omega | assumption | (simp; omega) | (simp; done) | exact hl _ (List.getElem_mem _) | exact h2 _ (List.getElem_mem _) | exact h3 _ (List.getElem_mem _)) (by first | omega | assumption | (simp; omega) | (simp; done) | exact hl _ (List.getElem_mem _) | exact h2 _ (List.getElem_mem _) | exact h3 _ (List.getElem_mem _))) rfl rfl (by repeat' first | exact trivial | assumption | exact knownSS | exact knownApp knownSS knownNil | refine And.intro ?_ ?_) nofun ?_
    refine callW.mk [] 5 _ _ _ (eqIntS_c _ _ (by first | omega | assumption | (simp; omega) | (simp; done) | exact hl _ (List.getElem_mem _) | exact h2 _ (List.getElem_mem _) | exact h3 _ (List.getElem_mem _)) (by first | omega | assumption | (simp; omega) | (simp; done) | exact hl _ (List.getElem_mem _) | exact h2 _ (List.getElem_mem _) | exact h3 _ (List.getElem_mem _))) rfl rfl (by repeat' first | exact trivial | assumption | exact knownSS | exact knownApp knownSS knownNil | refine And.intro ?_ ?_) nofun ?_
    iterate 2 refine tN (by first | omega | assumption | exact fun h => h (by assumption) | exact fun h => h rfl | exact fun h => h Iff.rfl) ?_
    refine callW.mk [] 5 _ _ _ (toIntSS_c _ (by first | omega | assumption | (simp; omega) | (simp; done) | exact hl _ (List.getElem_mem _) | exact h2 _ (List.getElem_mem _) | exact h3 _ (List.getElem_mem _)) (by first | omega | assumption | (simp; omega) | (simp; done) | exact hl _ (List.getElem_mem _) | exact h2 _ (List.getElem_mem _) | exact h3 _ (List.getElem_mem _))) rfl rfl (by repeat' first | exact trivial | assumption | exact knownSS | exact knownApp knownSS knownNil | refine And.intro ?_ ?_) nofun ?_
    refine callW.mk [] 6 _ _ _ (eqIntSS_c _ _ (by first | omega | assumption | (simp; omega) | (simp; done) | exact hl _ (List.getElem_mem _) | exact h2 _ (List.getElem_mem _) | exact h3 _ (List.getElem_mem _)) (by first | omega | assumption | (simp; omega) | (simp; done) | exact hl _ (List.getElem_mem _) | exact h2 _ (List.getElem_mem _) | exact h3 _ (List.getElem_mem _)) (by first | omega | assumption | (simp; omega) | (simp; done) | exact hl _ (List.getElem_mem _) | exact h2 _ (List.getElem_mem _) | exact h3 _ (List.getElem_mem _)) (by first | omega | assumption | (simp; omega) | (simp; done) | exact hl _ (List.getElem_mem _) | exact h2 _ (List.getElem_mem _) | exact h3 _ (List.getElem_mem _))) rfl rfl (by repeat' first | exact trivial | assumption | exact knownSS | exact knownApp knownSS knownNil | refine And.intro ?_ ?_) nofun ?_
    refine tN (by first | omega | assumption | exact fun h => h (by assumption) | exact fun h => h rfl | exact fun h => h Iff.rfl) ?_
    refine callW.mk [3] 6 _ _ _ (markIntSS_c _ (by first | omega | assumption | (simp; omega) | (simp; done) | exact hl _ (List.getElem_mem _) | exact h2 _ (List.getElem_mem _) | exact h3 _ (List.getElem_mem _)) (by first | omega | assumption | (simp; omega) | (simp; done) | exact hl _ (List.getElem_mem _) | exact h2 _ (List.getElem_mem _) | exact h3 _ (List.getElem_mem _)) _ (by first | omega | assumption | (simp; omega) | (simp; done) | exact hl _ (List.getElem_mem _) | exact h2 _ (List.getElem_mem _) | exact h3 _ (List.getElem_mem _)) (by first | omega | assumption | (simp; omega) | (simp; done) | exact hl _ (List.getElem_mem _) | exact h2 _ (List.getElem_mem _) | exact h3 _ (List.getElem_mem _))) rfl rfl (by repeat' first | exact trivial | assumption | exact knownSS | exact knownApp knownSS knownNil | refine And.intro ?_ ?_) nofun ?_
    refine tN (by first | omega | assumption | exact fun h => h (by assumption) | exact fun h => h rfl | exact fun h => h Iff.rfl) ?_
    refine callW.mkH [3] [] 6 _ _ _ (eqIntS_c _ _ (by first | omega | assumption | (simp; omega) | (simp; done) | exact hl _ (List.getElem_mem _) | exact h2 _ (List.getElem_mem _) | exact h3 _ (List.getElem_mem _)) (by first | omega | assumption | (simp; omega) | (simp; done) | exact hl _ (List.getElem_mem _) | exact h2 _ (List.getElem_mem _) | exact h3 _ (List.getElem_mem _))) rfl rfl (by repeat' first | exact trivial | assumption | exact knownSS | exact knownApp knownSS knownNil | refine And.intro ?_ ?_) nofun ?_
    iterate 2 refine tN (by first | omega | assumption | exact fun h => h (by assumption) | exact fun h => h rfl | exact fun h => h Iff.rfl) ?_
    refine callW.mkH [3] [4] 6 _ _ _ (markIntS_c _ (by first | omega | assumption | (simp; omega) | (simp; done) | exact hl _ (List.getElem_mem _) | exact h2 _ (List.getElem_mem _) | exact h3 _ (List.getElem_mem _)) _ (by first | omega | assumption | (simp; omega) | (simp; done) | exact hl _ (List.getElem_mem _) | exact h2 _ (List.getElem_mem _) | exact h3 _ (List.getElem_mem _)) (by first | omega | assumption | (simp; omega) | (simp; done) | exact hl _ (List.getElem_mem _) | exact h2 _ (List.getElem_mem _) | exact h3 _ (List.getElem_mem _))) rfl rfl (by repeat' first | exact trivial | assumption | exact knownSS | exact knownApp knownSS knownNil | refine And.intro ?_ ?_) nofun ?_
    refine callW.mkH [3] [] 6 _ _ _ (heldIntS_c _ (by first | omega | assumption | (simp; omega) | (simp; done) | exact hl _ (List.getElem_mem _) | exact h2 _ (List.getElem_mem _) | exact h3 _ (List.getElem_mem _)) _ (by first | omega | assumption | (simp; omega) | (simp; done) | exact hl _ (List.getElem_mem _) | exact h2 _ (List.getElem_mem _) | exact h3 _ (List.getElem_mem _)) (by first | omega | assumption | (simp; omega) | (simp; done) | exact hl _ (List.getElem_mem _) | exact h2 _ (List.getElem_mem _) | exact h3 _ (List.getElem_mem _))) rfl rfl (by repeat' first | exact trivial | assumption | exact knownSS | exact knownApp knownSS knownNil | refine And.intro ?_ ?_) nofun ?_
    iterate 2 refine tN (by first | omega | assumption | exact fun h => h (by assumption) | exact fun h => h rfl | exact fun h => h Iff.rfl) ?_
    refine callW.mkH [3] [] 6 _ _ _ (toRoad_c _ _) rfl rfl (by repeat' first | exact trivial | assumption | exact knownSS | exact knownApp knownSS knownNil | refine And.intro ?_ ?_) nofun ?_
    refine callW.mkH [3] [] 6 _ _ _ (toIntSS_c _ (by first | omega | assumption | (simp; omega) | (simp; done) | exact hl _ (List.getElem_mem _) | exact h2 _ (List.getElem_mem _) | exact h3 _ (List.getElem_mem _)) (by first | omega | assumption | (simp; omega) | (simp; done) | exact hl _ (List.getElem_mem _) | exact h2 _ (List.getElem_mem _) | exact h3 _ (List.getElem_mem _))) rfl rfl (by repeat' first | exact trivial | assumption | exact knownSS | exact knownApp knownSS knownNil | refine And.intro ?_ ?_) nofun ?_
    refine callW.mkH [3] [] 7 _ _ _ (FreeWalk_c _ _ _ (by first | omega | assumption | (simp; omega) | (simp; done) | exact hl _ (List.getElem_mem _) | exact h2 _ (List.getElem_mem _) | exact h3 _ (List.getElem_mem _)) (by first | omega | assumption | (simp; omega) | (simp; done) | exact hl _ (List.getElem_mem _) | exact h2 _ (List.getElem_mem _) | exact h3 _ (List.getElem_mem _))) rfl rfl (by repeat' first | exact trivial | assumption | exact knownSS | exact knownApp knownSS knownNil | refine And.intro ?_ ?_) nofun ?_
    refine callW.mkH [3] [] 8 _ _ _ (eqIntS_c _ _ (by first | omega | assumption | (simp; omega) | (simp; done) | exact hl _ (List.getElem_mem _) | exact h2 _ (List.getElem_mem _) | exact h3 _ (List.getElem_mem _)) (by first | omega | assumption | (simp; omega) | (simp; done) | exact hl _ (List.getElem_mem _) | exact h2 _ (List.getElem_mem _) | exact h3 _ (List.getElem_mem _))) rfl rfl (by repeat' first | exact trivial | assumption | exact knownSS | exact knownApp knownSS knownNil | refine And.intro ?_ ?_) nofun ?_
    iterate 2 refine tN (by first | omega | assumption | exact fun h => h (by assumption) | exact fun h => h rfl | exact fun h => h Iff.rfl) ?_
    refine callW.mkH [3] [] 8 _ _ _ (heldIntS_c _ (by first | omega | assumption | (simp; omega) | (simp; done) | exact hl _ (List.getElem_mem _) | exact h2 _ (List.getElem_mem _) | exact h3 _ (List.getElem_mem _)) _ (by first | omega | assumption | (simp; omega) | (simp; done) | exact hl _ (List.getElem_mem _) | exact h2 _ (List.getElem_mem _) | exact h3 _ (List.getElem_mem _)) (by first | omega | assumption | (simp; omega) | (simp; done) | exact hl _ (List.getElem_mem _) | exact h2 _ (List.getElem_mem _) | exact h3 _ (List.getElem_mem _))) rfl rfl (by repeat' first | exact trivial | assumption | exact knownSS | exact knownApp knownSS knownNil | refine And.intro ?_ ?_) nofun ?_
    iterate 2 refine tN (by first | omega | assumption | exact fun h => h (by assumption) | exact fun h => h rfl | exact fun h => h Iff.rfl) ?_
    rotate_left
    refine doneV.mk [] [] rfl rfl ?_ ?_ ?_
    repeat' first | exact trivial | exact rfl | exact Iff.rfl | assumption | exact pureI | exact (show _ = _ by omega) | exact (show _ ≤ _ by omega) | exact (show _ < _ by omega) | exact (show ¬ _ by omega) | refine And.intro ?_ ?_
end Sx
