/- Contracts: the first free walk. -/
import Derived.Test.YtbgamclegbaalaaCi
import Derived.Test.YtbgamclegbaalaaMxJ
set_option linter.all false
namespace Sx
open Go Go.Proofs
set_option maxRecDepth 100000
set_option maxHeartbeats 4000000
set_option linter.unusedSimpArgs false
theorem IndexFuncI_c4 {f s1 j1 t1 s2 j2 t2 s3 j3 t3 s4 j4 t4 : Nat} {e1 e2 e3 e4 : List AV} (p : Int → Prop) [DecidablePred p] (l : List Int) (hL : l.length ≤ 1099511627776) (h : ∀ x ∈ l, C f [i64 x, .pim s1 e1 j1 t1, .pim s2 e2 j2 t2, .pim s3 e3 j3 t3, .pim s4 e4 j4 t4] [] (pr (p x)) [] false) :
    C 127 [ints l, .fn (.func f) [] [.pim s1 e1 j1 t1, .pim s2 e2 j2 t2, .pim s3 e3 j3 t3, .pim s4 e4 j4 t4]] [] (i64 (fIx p l)) [] false := by
  refine mkC false false Try.func127 rfl ?_
  refine And.intro nofun ?_
  refine lm ?_
  rotate_left
  refine loop_up (β := Nat) (fun k => [(8, i64 k), (4, .unk)]) (fun k => []) [] (fun k => k ≤ l.length ∧ ∀ x ∈ l.take k, ¬ p x) (fun k => l.length - k) (0) ?_ ?_ ?_
  · simp
  · refine weak.mk [] [] rfl rfl ?_ ?_
    repeat' first | exact trivial | exact rfl | exact Iff.rfl | assumption | exact pureI | exact (show _ = _ by omega) | exact (show _ ≤ _ by omega) | exact (show _ < _ by omega) | exact (show ¬ _ by omega) | refine And.intro ?_ ?_
  · rintro k ⟨hk, hi⟩ R hR
    refine twoP.mk (fun _ => ?_) (fun _ => ?_)
    iterate 2 refine Z ?_
    refine jkm (by omega) ?_
    refine gm (by omega) ?_
    refine callW.mk [] 0 _ _ _ (h l[k] (List.getElem_mem _)) rfl rfl (by repeat' first | exact trivial | assumption | exact knownSS | exact knownApp knownSS knownNil | refine And.intro ?_ ?_) nofun ?_
    refine twoP.mk (fun _ => ?_) (fun _ => ?_)
    rotate_left
    refine nw (by omega) (by omega) ?_
    iterate 2 rotate_left
    · rename_i h2 h3
      refine dv0 rfl ?_
      exact ⟨rfl, (fIx_here (by omega) hi h3).symm⟩
    · rename_i h2 h3
      refine hR (k + 1) _ _ ?_ ?_
      rotate_left
      refine weak.mk [] [] rfl rfl ?_ ?_
      repeat' first | exact trivial | exact rfl | exact Iff.rfl | assumption | exact pureI | exact (show _ = _ by omega) | exact (show _ ≤ _ by omega) | exact (show _ < _ by omega) | exact (show ¬ _ by omega) | refine And.intro ?_ ?_
      rotate_right
      exact ⟨⟨by omega, (all_take (by omega)).2 ⟨hi, h3⟩⟩, by omega⟩
    · rename_i h2
      rw [take_all h2] at hi
      refine dv0 rfl ?_
      exact ⟨rfl, (fIx_no hi).symm⟩
theorem ContainsFuncI_c4 {f s1 j1 t1 s2 j2 t2 s3 j3 t3 s4 j4 t4 : Nat} {e1 e2 e3 e4 : List AV} (p : Int → Prop) [DecidablePred p] (l : List Int) (hL : l.length ≤ 1099511627776) (h : ∀ x ∈ l, C f [i64 x, .pim s1 e1 j1 t1, .pim s2 e2 j2 t2, .pim s3 e3 j3 t3, .pim s4 e4 j4 t4] [] (pr (p x)) [] false) :
    C 107 [ints l, .fn (.func f) [] [.pim s1 e1 j1 t1, .pim s2 e2 j2 t2, .pim s3 e3 j3 t3, .pim s4 e4 j4 t4]] [] (pr (0 ≤ fIx p l)) [] false := by
  refine mkC false false Try.func107 rfl ?_
  refine And.intro nofun ?_
  refine callW.mk [] 0 _ _ _ ((IndexFuncI_c4 p l hL h)) rfl rfl (by repeat' first | exact trivial | assumption | exact knownSS | exact knownApp knownSS knownNil | refine And.intro ?_ ?_) nofun ?_
  rotate_left
  refine dv0 rfl ?_
  exact Iff.rfl
theorem FreeWalk1_c (n : Int) (b : Bool) (L : List (List Int)) (hL : L.length ≤ 1099511627775) (hw : lenOk L) (T t k : Nat) (ht : t + 1 ≤ T) (hT : T ≤ 61) (M : List (List Prop)) (hM : M.length = T + 1) (hMt : M[t + 1]'(by omega) = arow n b L T (t + 1) n.toNat) (q : Int) (hq : 0 ≤ q ∧ q < n) :
    C 109 [i64 q, .pim 1 [.sl 1 (M.map trs)] 0 0, .pim 1 [i64 t] 0 0, .pim 1 [intss L] 0 0, .pim 1 [i64 k] 0 0] [] (pr (aliv n b L T (t + 1) q.toNat ∧ ¬ caught (plAt L t) (plAt L ((t : Int) + 1)) k q)) [] false := by
  have hrl : (arow n b L T (t + 1) n.toNat).length = n.toNat := arow_len
  have hrg : (arow n b L T (t + 1) n.toNat)[q.toNat]'(by omega) = aliv n b L T (t + 1) q.toNat := arow_get _
  refine mkC false false Try.func109 rfl ?_
  refine And.intro nofun ?_
  refine drawP.mk 22 (Z (Z (Z (Z ?_))))
  apply exP.mk
  refine getP.mk _ rfl ?_
  exact rfl
  apply exP.mk
  refine getP.mk _ rfl ?_
  exact rfl
  apply exP.mk
  refine nw (by omega) (by omega) ?_
  exact rfl
  apply exP.mk
  iterate 2 refine Z ?_
  refine jpm (by omega) ?_
  exact rfl
  apply exP.mk
  refine gmv (by omega) hMt ?_
  exact rfl
  apply exP.mk
  exact rfl
  apply exP.mk
  iterate 2 refine Z ?_
  refine jnm (by omega) (by omega) ?_
  exact rfl
  apply exP.mk
  refine gmv (by omega) hrg ?_
  exact rfl
  apply exP.mk
  exact rfl
  refine twoN (fun _ => ?_) (fun _ => ?_)
  apply exP.mk
  refine getP.mk _ rfl ?_
  exact rfl
  apply exP.mk
  refine getP.mk _ rfl ?_
  exact rfl
  apply exP.mk
  refine callP.mk _ _ _ (placesAt_c _ _ (by first | omega | assumption | (simp; omega) | (simp; done)) (by first | omega | assumption | (simp; omega) | (simp; done)) (by first | omega | assumption | (simp; omega) | (simp; done))) trivial nofun trivial ?_
  exact rfl
  apply exP.mk
  refine getP.mk _ rfl ?_
  exact rfl
  apply exP.mk
  refine getP.mk _ rfl ?_
  exact rfl
  apply exP.mk
  refine nw (by omega) (by omega) ?_
  exact rfl
  apply exP.mk
  refine callP.mk _ _ _ (placesAt_c _ _ (by first | omega | assumption | (simp; omega) | (simp; done)) (by first | omega | assumption | (simp; omega) | (simp; done)) (by first | omega | assumption | (simp; omega) | (simp; done))) trivial nofun trivial ?_
  exact rfl
  apply exP.mk
  refine getP.mk _ rfl ?_
  exact rfl
  apply exP.mk
  exact rfl
  apply exP.mk
  refine callP.mk _ _ _ (catches_c _ _ (by first | omega | assumption | (simp; omega) | (simp; done)) (by first | omega | assumption | (simp; omega) | (simp; done)) _ _) trivial nofun trivial ?_
  exact rfl
  apply exP.mk
  exact rfl
  apply exP.mk
  exact rfl
  rotate_left
  apply exP.mk
  exact rfl
  rotate_left
  · rename_i h1
    refine dv0 rfl ?_
    exact (show _ ↔ _ from ⟨fun h => ⟨h1, h⟩, fun h => h.2⟩)
  · rename_i h1
    refine dv0 rfl ?_
    exact (show ¬ _ from fun h => h.1 h1)
theorem FreeWalk_c (n : Int) (b : Bool) (L : List (List Int)) (hL : L.length ≤ 1099511627775) (hl : ∀ l ∈ L, l.length ≤ 1099511627776) : C 51 [rd n b, intss L] [] (.tuple [.loc 0, pr (fwOk n b L)]) [row (fwR n b L)] false := by
  refine mkC true false Try.func51 rfl ?_
  refine And.intro nofun ?_
  by_cases hc : chasers n b L
  · have hr := hc.1
    have hn := hr.1
    have hn2 := hr.2.1
    have hw : lenOk L := chasers_len hc
    have hb := lng_bd L hw
    have hLl : 1 ≤ L.length := by have := hc.2.2.1; omega
    have hne : L ≠ [] := by rintro rfl; simp at hLl
    have h1 := hb.2.2 hne
    obtain ⟨T, hT⟩ : ∃ T : Nat, lng L = T + 1 := ⟨(lng L - 1).toNat, by omega⟩
    have hT3 : T ≤ 60 := by omega
    iterate 2 refine Z ?_
    refine callW.mk [] 2 _ _ _ (areChasers_c _ _ _ (by first | omega | assumption | (simp; omega) | (simp; done) | exact hl _ (List.getElem_mem _)) (by first | omega | assumption | (simp; omega) | (simp; done) | exact hl _ (List.getElem_mem _))) rfl rfl trivial nofun ?_
    refine tN (by first | omega | assumption | exact fun h => h (by assumption) | exact fun h => h rfl | exact fun h => h Iff.rfl) ?_
    refine callW.mk [] 2 _ _ _ (longest_c _ (by first | omega | assumption | (simp; omega) | (simp; done) | exact hl _ (List.getElem_mem _)) (by first | omega | assumption | (simp; omega) | (simp; done) | exact hl _ (List.getElem_mem _))) rfl rfl trivial nofun ?_
    iterate 2 refine Z ?_
    refine jn (by omega) (by omega) ?_
    refine ixb (by omega) (by omega) ?_
    iterate 2 refine Z ?_
    refine erepS ?_
    iterate 5 refine Z ?_
    refine nw (by omega) (by omega) ?_
    iterate 5 refine Z ?_
    rotate_left
    refine loop_up (β := Nat) (fun u => [(8, .prow 4 0 0)]) (fun u => [(2, .row .nest 1 ((atab n b L T u).map trs)), (3, .row .var 1 [.loc 2]), (4, .row .var 1 [i64 ((u : Int) - 1)])]) [] (fun u => u ≤ T + 1) (fun u => u) (T+1) ?_ ?_ ?_
    · omega
    · refine weak.mk [] [0, 1, 2, 3, 4] rfl rfl ?_ ?_
      repeat' first | exact trivial | exact rfl | exact Iff.rfl | assumption | exact pureI | exact (show _ = _ by omega) | exact (show _ ≤ _ by omega) | exact (show _ < _ by omega) | exact (show ¬ _ by omega) | refine And.intro ?_ ?_
      rw [hT, show ((T : Int) + 1).toNat = T + 1 by omega, ← atab_all]; simp [trs]
    · rintro u hu R hR
      have hlen : (atab n b L T u).length = T + 1 := atab_len u
      have hkn := knownTr (M := atab n b L T u)
      by_cases h0 : u = 0
      · subst h0
        have hkn := knownTr (M := atab n b L T 0)
        refine tN (by first | omega | assumption | exact fun h => h (by assumption) | exact fun h => h rfl | exact fun h => h Iff.rfl) ?_
        iterate 2 refine Z ?_
        rotate_left
        refine loop_up (β := (Nat × List Int)) (fun s => [(69, i64 s.1), (11, .loc 5), (4, .unk), (5, .unk)]) (fun s => [(5, row s.2)]) [1] (fun s => s.1 ≤ T + 1 ∧ fwN n b L T s.1 = some s.2) (fun s => T + 1 - s.1) ((0, [])) ?_ ?_ ?_
        · exact ⟨by omega, rfl⟩
        · refine weak.mk [1] [0, 1, 2, 3, 4, 5] rfl rfl ?_ ?_
          repeat' first | exact trivial | exact rfl | exact Iff.rfl | assumption | exact pureI | exact (show _ = _ by omega) | exact (show _ ≤ _ by omega) | exact (show _ < _ by omega) | exact (show ¬ _ by omega) | refine And.intro ?_ ?_
        · rintro ⟨t, l⟩ ⟨ht, hl⟩ R hR
          have ht : t ≤ T + 1 := ht
          have hl : fwN n b L T t = some l := hl
          have hll : l.length = t := fwN_len hl
          have hin : ∀ x ∈ l, 0 ≤ x ∧ x < n := fwN_in hl
          by_cases htT : t < T + 1
          · refine tY (by first | omega | assumption | exact rfl | exact Iff.rfl) ?_
            refine Z ?_
            refine nw (by omega) (by omega) ?_
            rotate_left
            refine loop_up (β := (Nat × Int)) (fun s => [(14, i64 ((s.1 : Int) - 1)), (13, i64 s.2)]) (fun s => []) [] (fun s => s.1 ≤ n.toNat ∧ nxI n b L T t l s.1 s.2) (fun s => s.1) ((n.toNat, -1)) ?_ ?_ ?_
            · exact ⟨by omega, nxI_0⟩
            · refine weak.mk [] [0, 1, 2, 3, 4, 5] rfl rfl ?_ ?_
              repeat' first | exact trivial | exact rfl | exact Iff.rfl | assumption | exact pureI | exact (show _ = _ by omega) | exact (show _ ≤ _ by omega) | exact (show _ < _ by omega) | exact (show ¬ _ by omega) | refine And.intro ?_ ?_
            · rintro ⟨q, m⟩ ⟨hq, hm⟩ R2 hR2
              have hq : q ≤ n.toNat := hq
              have hm : nxI n b L T t l q m := hm
              by_cases hq0 : q = 0
              · subst hq0
                have hmb := nxI_bd hm
                refine tN (by first | omega | assumption | exact fun h => h (by assumption) | exact fun h => h rfl | exact fun h => h Iff.rfl) ?_
                refine twoP.mk (fun _ => ?_) (fun _ => ?_)
                rotate_left
                iterate 10 refine Z ?_
                refine leP.mk (by first | (simp [big]; omega) | (simp [big]; done)) ?_
                refine ea ?_
                refine nw (by omega) (by omega) ?_
                rotate_left
                · rename_i h1
                  have hno := fwOk_no hT (show t + 1 ≤ T + 1 by omega) (nxI_none hm h1 hl)
                  rw [fwR_no hno]
                  refine doneV.mk [1] [6] rfl rfl ?_ ?_ ?_
                  repeat' first | exact trivial | exact rfl | exact Iff.rfl | assumption | exact pureI | exact (show _ = _ by omega) | exact (show _ ≤ _ by omega) | exact (show _ < _ by omega) | exact (show ¬ _ by omega) | refine And.intro ?_ ?_
                · rename_i h1
                  refine hR ((t + 1, l ++ [m])) _ _ ?_ ?_
                  rotate_left
                  refine weak.mk [] [0, 1, 2, 3, 4, 7] rfl rfl ?_ ?_
                  repeat' first | exact trivial | exact rfl | exact Iff.rfl | assumption | exact pureI | exact (show _ = _ by omega) | exact (show _ ≤ _ by omega) | exact (show _ < _ by omega) | exact (show ¬ _ by omega) | refine And.intro ?_ ?_
                  rotate_right
                  · exact ⟨⟨by omega, nxI_some hm h1 hl⟩, by omega⟩
              · obtain ⟨q, rfl⟩ : ∃ p, q = p + 1 := ⟨q - 1, by omega⟩
                rw [show ((((q + 1, m) : Nat × Int).1 : Int) - 1) = (q : Int) by show ((q + 1 : Nat) : Int) - 1 = q; omega]
                have hat : (atab n b L T 0)[t]'(by omega) = arow n b L T t n.toNat := by rw [atab_get, if_neg (by omega)]
                have hal : (arow n b L T t n.toNat).length = n.toNat := arow_len
                have hag : (arow n b L T t n.toNat)[q]'(by omega) = aliv n b L T t q := arow_get _
                by_cases ht0 : t = 0
                · subst ht0
                  refine tY (by first | omega | assumption | exact rfl | exact Iff.rfl) ?_
                  iterate 2 refine Z ?_
                  refine idxN.mk 0 (by omega) (by simp; omega) rfl ?_
                  refine gmv (by omega) hat ?_
                  refine omv (by omega) hat ?_
                  iterate 2 refine Z ?_
                  refine jkm (by omega) ?_
                  refine omv (by omega) hat ?_
                  refine gmv (by omega) hag ?_
                  refine twoN (fun _ => ?_) (fun _ => ?_)
                  refine nw (by omega) (by omega) ?_
                  rotate_left
                  refine drawP.mk 29 (Z (Z (Z (Z ?_))))
                  apply exP.mk
                  exact rfl
                  apply exP.mk
                  exact rfl
                  apply exP.mk
                  exact rfl
                  refine tY (by first | omega | assumption | exact rfl | exact Iff.rfl) ?_
                  refine nw (by omega) (by omega) ?_
                  rotate_left
                  · rename_i h1
                    refine hR2 ((q, m)) _ _ ?_ ?_
                    rotate_left
                    refine weak.mk [] [0, 1, 2, 3, 4, 5] rfl rfl ?_ ?_
                    repeat' first | exact trivial | exact rfl | exact Iff.rfl | assumption | exact pureI | exact (show _ = _ by omega) | exact (show _ ≤ _ by omega) | exact (show _ < _ by omega) | exact (show ¬ _ by omega) | refine And.intro ?_ ?_
                    rotate_right
                    · exact ⟨⟨by omega, nxI_no hm fun h => h1 h.1⟩, by omega⟩
                  · rename_i h1
                    refine hR2 ((q, (q : Int))) _ _ ?_ ?_
                    rotate_left
                    refine weak.mk [] [0, 1, 2, 3, 4, 5] rfl rfl ?_ ?_
                    repeat' first | exact trivial | exact rfl | exact Iff.rfl | assumption | exact pureI | exact (show _ = _ by omega) | exact (show _ ≤ _ by omega) | exact (show _ < _ by omega) | exact (show ¬ _ by omega) | refine And.intro ?_ ?_
                    rotate_right
                    · exact ⟨⟨by omega, nxI_yes (by omega) ⟨h1, .inl rfl⟩⟩, by omega⟩
                · obtain ⟨t, rfl⟩ : ∃ p, t = p + 1 := ⟨t - 1, by omega⟩
                  have hlt : l[t]'(by omega) = l.getD t 0 := by rw [List.getD_eq_getElem?_getD, List.getElem?_eq_getElem (by omega)]; rfl
                  have hlb := hin _ (List.getElem_mem (show t < l.length by omega))
                  have hcp : aliv n b L T (t + 1) q → (caught (plAt L (((t + 1 : Nat) : Int) - 1)) (plAt L ((t + 1 : Nat) : Int)) (l.getD t 0) q ↔ passes (plAt L (((t + 1 : Nat) : Int) - 1)) (plAt L ((t + 1 : Nat) : Int)) (l.getD t 0) q) := fun ha => by
                    rw [caught_iff (by simp)]
                    exact ⟨fun h => h.resolve_left fun h2 => ha (wy_zero (by omega) h2), .inr⟩
                  refine tY (by first | omega | assumption | exact rfl | exact Iff.rfl) ?_
                  iterate 2 refine Z ?_
                  refine jpm (by omega) ?_
                  refine gmv (by omega) hat ?_
                  refine omv (by omega) hat ?_
                  iterate 2 refine Z ?_
                  refine jkm (by omega) ?_
                  refine omv (by omega) hat ?_
                  refine gmv (by omega) hag ?_
                  refine twoN (fun _ => ?_) (fun _ => ?_)
                  refine nw (by omega) (by omega) ?_
                  rotate_left
                  refine drawP.mk 29 (Z (Z (Z (Z ?_))))
                  apply exP.mk
                  exact rfl
                  apply exP.mk
                  exact rfl
                  apply exP.mk
                  exact rfl
                  refine tN (by first | omega | assumption | exact fun h => h (by assumption) | exact fun h => h rfl | exact fun h => h Iff.rfl) ?_
                  apply exP.mk
                  exact rfl
                  apply exP.mk
                  exact rfl
                  apply exP.mk
                  exact rfl
                  apply exP.mk
                  refine nw (by omega) (by omega) ?_
                  exact rfl
                  apply exP.mk
                  iterate 2 refine Z ?_
                  refine jnm (by omega) (by simp; omega) ?_
                  exact rfl
                  apply exP.mk
                  refine gmv (by omega) hlt ?_
                  exact rfl
                  apply exP.mk
                  exact rfl
                  apply exP.mk
                  refine callP.mk _ _ _ (gap_c _ _ _ _ (by first | omega | assumption | (simp; omega) | (simp; done) | exact hl _ (List.getElem_mem _) | exact hin _ (List.getElem_mem _)) (by first | omega | assumption | (simp; omega) | (simp; done) | exact hl _ (List.getElem_mem _) | exact hin _ (List.getElem_mem _)) (by first | omega | assumption | (simp; omega) | (simp; done) | exact hl _ (List.getElem_mem _) | exact hin _ (List.getElem_mem _))) (by repeat' first | exact trivial | assumption | exact knownSS | exact knownApp knownSS knownNil | refine And.intro ?_ ?_) nofun trivial ?_
                  exact rfl
                  apply exP.mk
                  exact rfl
                  apply exP.mk
                  exact rfl
                  refine twoP.mk (fun _ => ?_) (fun _ => ?_)
                  apply exP.mk
                  exact rfl
                  apply exP.mk
                  exact rfl
                  apply exP.mk
                  refine nw (by omega) (by omega) ?_
                  exact rfl
                  apply exP.mk
                  refine callP.mk _ _ _ (placesAt_c _ _ (by first | omega | assumption | (simp; omega) | (simp; done) | exact hl _ (List.getElem_mem _) | exact hin _ (List.getElem_mem _)) (by first | omega | assumption | (simp; omega) | (simp; done) | exact hl _ (List.getElem_mem _) | exact hin _ (List.getElem_mem _)) (by first | omega | assumption | (simp; omega) | (simp; done) | exact hl _ (List.getElem_mem _) | exact hin _ (List.getElem_mem _))) (by repeat' first | exact trivial | assumption | exact knownSS | exact knownApp knownSS knownNil | refine And.intro ?_ ?_) nofun trivial ?_
                  exact rfl
                  apply exP.mk
                  exact rfl
                  apply exP.mk
                  exact rfl
                  apply exP.mk
                  refine callP.mk _ _ _ (placesAt_c _ _ (by first | omega | assumption | (simp; omega) | (simp; done) | exact hl _ (List.getElem_mem _) | exact hin _ (List.getElem_mem _)) (by first | omega | assumption | (simp; omega) | (simp; done) | exact hl _ (List.getElem_mem _) | exact hin _ (List.getElem_mem _)) (by first | omega | assumption | (simp; omega) | (simp; done) | exact hl _ (List.getElem_mem _) | exact hin _ (List.getElem_mem _))) (by repeat' first | exact trivial | assumption | exact knownSS | exact knownApp knownSS knownNil | refine And.intro ?_ ?_) nofun trivial ?_
                  exact rfl
                  apply exP.mk
                  exact rfl
                  apply exP.mk
                  exact rfl
                  apply exP.mk
                  refine nw (by omega) (by omega) ?_
                  exact rfl
                  apply exP.mk
                  iterate 2 refine Z ?_
                  refine jnm (by omega) (by simp; omega) ?_
                  exact rfl
                  apply exP.mk
                  refine gmv (by omega) hlt ?_
                  exact rfl
                  apply exP.mk
                  exact rfl
                  apply exP.mk
                  refine callP.mk _ _ _ (catches_c _ _ (by first | omega | assumption | (simp; omega) | (simp; done) | exact hl _ (List.getElem_mem _) | exact hin _ (List.getElem_mem _)) (by first | omega | assumption | (simp; omega) | (simp; done) | exact hl _ (List.getElem_mem _) | exact hin _ (List.getElem_mem _)) _ _) (by repeat' first | exact trivial | assumption | exact knownSS | exact knownApp knownSS knownNil | refine And.intro ?_ ?_) nofun trivial ?_
                  exact rfl
                  apply exP.mk
                  exact rfl
                  refine twoN (fun _ => ?_) (fun _ => ?_)
                  refine nw (by omega) (by omega) ?_
                  rotate_left
                  refine nw (by omega) (by omega) ?_
                  rotate_left
                  refine nw (by omega) (by omega) ?_
                  rotate_left
                  · rename_i h1
                    refine hR2 ((q, m)) _ _ ?_ ?_
                    rotate_left
                    refine weak.mk [] [0, 1, 2, 3, 4, 5] rfl rfl ?_ ?_
                    repeat' first | exact trivial | exact rfl | exact Iff.rfl | assumption | exact pureI | exact (show _ = _ by omega) | exact (show _ ≤ _ by omega) | exact (show _ < _ by omega) | exact (show ¬ _ by omega) | refine And.intro ?_ ?_
                    rotate_right
                    · exact ⟨⟨by omega, nxI_no hm fun h => h1 h.1⟩, by omega⟩
                  · rename_i h1 h2 h3
                    refine hR2 ((q, (q : Int))) _ _ ?_ ?_
                    rotate_left
                    refine weak.mk [] [0, 1, 2, 3, 4, 5] rfl rfl ?_ ?_
                    repeat' first | exact trivial | exact rfl | exact Iff.rfl | assumption | exact pureI | exact (show _ = _ by omega) | exact (show _ ≤ _ by omega) | exact (show _ < _ by omega) | exact (show ¬ _ by omega) | refine And.intro ?_ ?_
                    rotate_right
                    · exact ⟨⟨by omega, nxI_yes (by omega) ⟨h1, .inr ⟨h2, fun h => h3 ((hcp h1).2 h)⟩⟩⟩, by omega⟩
                  · rename_i h1 h2 h3
                    refine hR2 ((q, m)) _ _ ?_ ?_
                    rotate_left
                    refine weak.mk [] [0, 1, 2, 3, 4, 5] rfl rfl ?_ ?_
                    repeat' first | exact trivial | exact rfl | exact Iff.rfl | assumption | exact pureI | exact (show _ = _ by omega) | exact (show _ ≤ _ by omega) | exact (show _ < _ by omega) | exact (show ¬ _ by omega) | refine And.intro ?_ ?_
                    rotate_right
                    · exact ⟨⟨by omega, nxI_no hm fun h => h.2.elim (by omega) fun h => h.2 ((hcp h1).1 h3)⟩, by omega⟩
                  · rename_i h1 h2
                    refine hR2 ((q, m)) _ _ ?_ ?_
                    rotate_left
                    refine weak.mk [] [0, 1, 2, 3, 4, 5] rfl rfl ?_ ?_
                    repeat' first | exact trivial | exact rfl | exact Iff.rfl | assumption | exact pureI | exact (show _ = _ by omega) | exact (show _ ≤ _ by omega) | exact (show _ < _ by omega) | exact (show ¬ _ by omega) | refine And.intro ?_ ?_
                    rotate_right
                    · exact ⟨⟨by omega, nxI_no hm fun h => h.2.elim (by omega) fun h => h2 h.1⟩, by omega⟩
          · refine tN (by first | omega | assumption | exact fun h => h (by assumption) | exact fun h => h rfl | exact fun h => h Iff.rfl) ?_
            rotate_left
            have e : t = T + 1 := by omega
            subst e
            obtain ⟨e1, e2⟩ := fwR_yes hc hT hl
            rw [e1]
            refine doneV.mk [] [5] rfl rfl ?_ ?_ ?_
            repeat' first | exact trivial | exact rfl | exact Iff.rfl | assumption | exact pureI | exact (show _ = _ by omega) | exact (show _ ≤ _ by omega) | exact (show _ < _ by omega) | exact (show ¬ _ by omega) | refine And.intro ?_ ?_
            all_goals exact e2
      · obtain ⟨t, rfl⟩ : ∃ t, u = t + 1 := ⟨u - 1, by omega⟩
        rw [show (((t + 1 : Nat) : Int) - 1) = (t : Int) by omega]
        refine tY (by first | omega | assumption | exact rfl | exact Iff.rfl) ?_
        refine Z ?_
        rotate_left
        refine loop_up (β := Nat) (fun k => [(31, i64 k)]) (fun k => [(2, .row .nest 1 ((atK n b L T t k).map trs))]) [] (fun k => k ≤ n.toNat) (fun k => n.toNat - k) (0) ?_ ?_ ?_
        · omega
        · refine weak.mk [] [0, 1, 2, 3, 4] rfl rfl ?_ ?_
          repeat' first | exact trivial | exact rfl | exact Iff.rfl | assumption | exact pureI | exact (show _ = _ by omega) | exact (show _ ≤ _ by omega) | exact (show _ < _ by omega) | exact (show ¬ _ by omega) | refine And.intro ?_ ?_
          rw [atK_0 (by omega)]
        · rintro k hk R2 hR2
          have hlen2 : (atK n b L T t k).length = T + 1 := atK_len
          have hkn2 := knownTr (M := atK n b L T t k)
          have hnb := nbrs_len n b k
          have hrl : (arow n b L T t k).length = k := arow_len
          by_cases hkn : k < n.toNat
          · have hat := atK_at (n := n) (b := b) (L := L) (T := T) (t := t) (k := k) (by omega)
            by_cases htT : t < T
            · have hnx := atK_next (n := n) (b := b) (L := L) (T := T) (t := t) (k := k) (by omega)
              have hin : ∀ q ∈ nbrs n b k ++ [(k : Int)], 0 ≤ q ∧ q < n := fun q hq => ((nbrs_self (b := b) (by omega)).1 hq).1
              have hcf := ContainsFuncI_c4 (fun q => aliv n b L T (t + 1) q.toNat ∧ ¬ caught (plAt L t) (plAt L ((t : Int) + 1)) k q) (nbrs n b k ++ [(k : Int)]) (by simp; omega) fun x hx => FreeWalk1_c n b L hL hw T t k (by omega) (by omega) (atK n b L T t k) hlen2 hnx x (hin x hx)
              have hst := aliv_step (n := n) (b := b) (L := L) (T := T) htT (show k < n.toNat by omega)
              refine tY (by first | omega | assumption | exact rfl | exact Iff.rfl) ?_
              iterate 5 refine Z ?_
              refine drawP.mkS (Z (Z ?_))
              refine Z ?_
              apply exP.mk
              exact rfl
              apply exP.mk
              exact rfl
              apply exP.mk
              exact rfl
              refine callW.mk [] 6 _ _ _ (placesAt_c _ _ (by first | omega | assumption | (simp; omega) | (simp; done) | exact hl _ (List.getElem_mem _) | exact hin _ (List.getElem_mem _)) (by first | omega | assumption | (simp; omega) | (simp; done) | exact hl _ (List.getElem_mem _) | exact hin _ (List.getElem_mem _)) (by first | omega | assumption | (simp; omega) | (simp; done) | exact hl _ (List.getElem_mem _) | exact hin _ (List.getElem_mem _))) rfl rfl (by repeat' first | exact trivial | assumption | exact knownSS | exact knownApp knownSS knownNil | refine And.intro ?_ ?_) nofun ?_
              iterate 2 refine Z ?_
              refine callW.mk [] 7 _ _ _ (Contains_c _ (by first | omega | assumption | (simp; omega) | (simp; done) | exact hl _ (List.getElem_mem _) | exact hin _ (List.getElem_mem _)) _) rfl rfl (by repeat' first | exact trivial | assumption | exact knownSS | exact knownApp knownSS knownNil | refine And.intro ?_ ?_) nofun ?_
              refine Z ?_
              apply exP.mk
              exact rfl
              apply exP.mk
              exact rfl
              refine twoN (fun _ => ?_) (fun _ => ?_)
              refine nw (by omega) (by omega) ?_
              refine tY (by first | omega | assumption | exact rfl | exact Iff.rfl) ?_
              refine drawP.mkS (Z (Z ?_))
              refine Z ?_
              apply exP.mk
              exact rfl
              apply exP.mk
              exact rfl
              apply exP.mk
              exact rfl
              apply exP.mk
              exact rfl
              refine BothP.mk ?_ ?_
              refine callW.mk [] 7 _ _ _ (neighbors_c _ _ (by first | omega | assumption | (simp; omega) | (simp; done) | exact hl _ (List.getElem_mem _) | exact hin _ (List.getElem_mem _)) _ (by first | omega | assumption | (simp; omega) | (simp; done) | exact hl _ (List.getElem_mem _) | exact hin _ (List.getElem_mem _))) rfl rfl (by repeat' first | exact trivial | assumption | exact knownSS | exact knownApp knownSS knownNil | refine And.intro ?_ ?_) nofun ?_
              iterate 15 refine Z ?_
              refine lem1 (by omega) ?_
              refine ea ?_
              iterate 2 refine Z ?_
              refine callW.mk [] 10 _ _ _ (hcf) rfl rfl (by repeat' first | exact trivial | assumption | exact knownSS | exact knownApp knownSS knownNil | refine And.intro ?_ ?_) nofun ?_
              refine Z ?_
              apply exP.mk
              exact rfl
              refine drawP.mkS (Z (Z ?_))
              refine Z ?_
              apply exP.mk
              exact rfl
              apply exP.mk
              exact rfl
              apply exP.mk
              exact rfl
              apply exP.mk
              exact rfl
              apply exP.mk
              iterate 2 refine Z ?_
              refine jkm (by omega) ?_
              exact rfl
              apply exP.mk
              refine gmv (by omega) hat ?_
              exact rfl
              apply exP.mk
              exact rfl
              iterate 10 refine Z ?_
              refine And.intro ?_ ?_
              iterate 2 refine Z ?_
              refine jkm (by omega) ?_
              exact rfl
              refine And.intro ?_ ?_
              refine gmv (by omega) hat ?_
              exact rfl
              iterate 3 refine Z ?_
              refine omv (by omega) hat ?_
              iterate 2 refine Z ?_
              refine lem1 (by omega) ?_
              iterate 2 refine er ?_
              iterate 5 refine Z ?_
              refine And.intro ?_ ?_
              iterate 2 refine Z ?_
              refine jn (by omega) (by simp; omega) ?_
              exact rfl
              apply exP.mk
              iterate 2 refine Z ?_
              refine jn (by omega) (by simp; omega) ?_
              exact rfl
              iterate 2 refine Z ?_
              refine ix (by omega) (by simp; omega) ?_
              refine Z ?_
              refine er ?_
              refine Z ?_
              refine nw (by omega) (by omega) ?_
              rotate_left
              iterate 9 refine Z ?_
              refine callW.mk [] 8 _ _ _ (neighbors_c _ _ (by first | omega | assumption | (simp; omega) | (simp; done) | exact hl _ (List.getElem_mem _) | exact hin _ (List.getElem_mem _)) _ (by first | omega | assumption | (simp; omega) | (simp; done) | exact hl _ (List.getElem_mem _) | exact hin _ (List.getElem_mem _))) rfl rfl (by repeat' first | exact trivial | assumption | exact knownSS | exact knownApp knownSS knownNil | refine And.intro ?_ ?_) nofun ?_
              iterate 7 refine Z ?_
              refine lem1 (by omega) ?_
              refine ea ?_
              iterate 2 refine Z ?_
              refine callW.mk [] 10 _ _ _ (hcf) rfl rfl (by repeat' first | exact trivial | assumption | exact knownSS | exact knownApp knownSS knownNil | refine And.intro ?_ ?_) nofun ?_
              refine Z ?_
              apply exP.mk
              exact rfl
              refine drawP.mkS (Z (Z ?_))
              refine Z ?_
              apply exP.mk
              exact rfl
              apply exP.mk
              exact rfl
              apply exP.mk
              exact rfl
              apply exP.mk
              exact rfl
              apply exP.mk
              iterate 2 refine Z ?_
              refine jkm (by omega) ?_
              exact rfl
              apply exP.mk
              refine gmv (by omega) hat ?_
              exact rfl
              apply exP.mk
              exact rfl
              iterate 10 refine Z ?_
              refine And.intro ?_ ?_
              iterate 2 refine Z ?_
              refine jkm (by omega) ?_
              exact rfl
              refine And.intro ?_ ?_
              refine gmv (by omega) hat ?_
              exact rfl
              iterate 3 refine Z ?_
              refine omv (by omega) hat ?_
              iterate 2 refine Z ?_
              refine lem1 (by omega) ?_
              iterate 2 refine er ?_
              iterate 5 refine Z ?_
              refine And.intro ?_ ?_
              iterate 2 refine Z ?_
              refine jn (by omega) (by simp; omega) ?_
              exact rfl
              apply exP.mk
              iterate 2 refine Z ?_
              refine jn (by omega) (by simp; omega) ?_
              exact rfl
              iterate 2 refine Z ?_
              refine ix (by omega) (by simp; omega) ?_
              refine Z ?_
              refine er ?_
              refine Z ?_
              refine nw (by omega) (by omega) ?_
              rotate_left
              refine drawP.mkS (Z (Z ?_))
              refine Z ?_
              apply exP.mk
              exact rfl
              apply exP.mk
              exact rfl
              apply exP.mk
              exact rfl
              apply exP.mk
              exact rfl
              apply exP.mk
              iterate 2 refine Z ?_
              refine jkm (by omega) ?_
              exact rfl
              apply exP.mk
              refine gmv (by omega) hat ?_
              exact rfl
              apply exP.mk
              exact rfl
              iterate 10 refine Z ?_
              refine And.intro ?_ ?_
              iterate 2 refine Z ?_
              refine jkm (by omega) ?_
              exact rfl
              refine And.intro ?_ ?_
              refine gmv (by omega) hat ?_
              exact rfl
              iterate 3 refine Z ?_
              refine omv (by omega) hat ?_
              iterate 2 refine Z ?_
              refine lem1 (by omega) ?_
              iterate 2 refine er ?_
              iterate 5 refine Z ?_
              refine And.intro ?_ ?_
              iterate 2 refine Z ?_
              refine jn (by omega) (by simp; omega) ?_
              exact rfl
              apply exP.mk
              iterate 2 refine Z ?_
              refine jn (by omega) (by simp; omega) ?_
              exact rfl
              iterate 2 refine Z ?_
              refine ix (by omega) (by simp; omega) ?_
              refine Z ?_
              refine er ?_
              refine Z ?_
              refine nw (by omega) (by omega) ?_
              rotate_left
              · rename_i h1
                refine hR2 (k + 1) _ _ ?_ ?_
                rotate_left
                refine weak.mk [] [0, 1, 2, 3, 4] rfl rfl ?_ ?_
                repeat' first | exact trivial | exact rfl | exact Iff.rfl | assumption | exact pureI | exact (show _ = _ by omega) | exact (show _ ≤ _ by omega) | exact (show _ < _ by omega) | exact (show ¬ _ by omega) | refine And.intro ?_ ?_
                rotate_right
                · exact ⟨by omega, by omega⟩
                · exact atK_step rfl (by rw [fIx_ge, hst]; exact ⟨fun h => ⟨h1, h⟩, fun h => h.2⟩)
              · rename_i h1
                refine hR2 (k + 1) _ _ ?_ ?_
                rotate_left
                refine weak.mk [] [0, 1, 2, 3, 4] rfl rfl ?_ ?_
                repeat' first | exact trivial | exact rfl | exact Iff.rfl | assumption | exact pureI | exact (show _ = _ by omega) | exact (show _ ≤ _ by omega) | exact (show _ < _ by omega) | exact (show ¬ _ by omega) | refine And.intro ?_ ?_
                rotate_right
                · exact ⟨by omega, by omega⟩
                · exact atK_step rfl (by rw [fIx_ge, hst]; exact ⟨fun h => ⟨h1, h⟩, fun h => h.2⟩)
              · rename_i h1
                refine hR2 (k + 1) _ _ ?_ ?_
                rotate_left
                refine weak.mk [] [0, 1, 2, 3, 4] rfl rfl ?_ ?_
                repeat' first | exact trivial | exact rfl | exact Iff.rfl | assumption | exact pureI | exact (show _ = _ by omega) | exact (show _ ≤ _ by omega) | exact (show _ < _ by omega) | exact (show ¬ _ by omega) | refine And.intro ?_ ?_
                rotate_right
                · exact ⟨by omega, by omega⟩
                · exact atK_step rfl ⟨fun h => (h h1).elim, fun h => (hst.1 h).1⟩
            · refine tY (by first | omega | assumption | exact rfl | exact Iff.rfl) ?_
              iterate 5 refine Z ?_
              refine drawP.mkS (Z (Z ?_))
              refine Z ?_
              apply exP.mk
              exact rfl
              apply exP.mk
              exact rfl
              apply exP.mk
              exact rfl
              refine callW.mk [] 6 _ _ _ (placesAt_c _ _ (by first | omega | assumption | (simp; omega) | (simp; done) | exact hl _ (List.getElem_mem _)) (by first | omega | assumption | (simp; omega) | (simp; done) | exact hl _ (List.getElem_mem _)) (by first | omega | assumption | (simp; omega) | (simp; done) | exact hl _ (List.getElem_mem _))) rfl rfl (by repeat' first | exact trivial | assumption | exact knownSS | exact knownApp knownSS knownNil | refine And.intro ?_ ?_) nofun ?_
              iterate 2 refine Z ?_
              refine callW.mk [] 7 _ _ _ (Contains_c _ (by first | omega | assumption | (simp; omega) | (simp; done) | exact hl _ (List.getElem_mem _)) _) rfl rfl (by repeat' first | exact trivial | assumption | exact knownSS | exact knownApp knownSS knownNil | refine And.intro ?_ ?_) nofun ?_
              refine Z ?_
              apply exP.mk
              exact rfl
              apply exP.mk
              exact rfl
              refine twoN (fun _ => ?_) (fun _ => ?_)
              refine nw (by omega) (by omega) ?_
              refine tN (by first | omega | assumption | exact fun h => h (by assumption) | exact fun h => h rfl | exact fun h => h Iff.rfl) ?_
              refine drawP.mkS (Z (Z ?_))
              refine Z ?_
              apply exP.mk
              exact rfl
              apply exP.mk
              exact rfl
              apply exP.mk
              exact rfl
              apply exP.mk
              exact rfl
              apply exP.mk
              iterate 2 refine Z ?_
              refine jkm (by omega) ?_
              exact rfl
              apply exP.mk
              refine gmv (by omega) hat ?_
              exact rfl
              apply exP.mk
              exact rfl
              iterate 10 refine Z ?_
              refine And.intro ?_ ?_
              iterate 2 refine Z ?_
              refine jkm (by omega) ?_
              exact rfl
              refine And.intro ?_ ?_
              refine gmv (by omega) hat ?_
              exact rfl
              iterate 3 refine Z ?_
              refine omv (by omega) hat ?_
              iterate 2 refine Z ?_
              refine lem1 (by omega) ?_
              iterate 2 refine er ?_
              iterate 5 refine Z ?_
              refine And.intro ?_ ?_
              iterate 2 refine Z ?_
              refine jn (by omega) (by simp; omega) ?_
              exact rfl
              apply exP.mk
              iterate 2 refine Z ?_
              refine jn (by omega) (by simp; omega) ?_
              exact rfl
              iterate 2 refine Z ?_
              refine ix (by omega) (by simp; omega) ?_
              refine Z ?_
              refine er ?_
              refine Z ?_
              refine nw (by omega) (by omega) ?_
              rotate_left
              refine drawP.mkS (Z (Z ?_))
              refine Z ?_
              apply exP.mk
              exact rfl
              apply exP.mk
              exact rfl
              apply exP.mk
              exact rfl
              apply exP.mk
              exact rfl
              apply exP.mk
              iterate 2 refine Z ?_
              refine jkm (by omega) ?_
              exact rfl
              apply exP.mk
              refine gmv (by omega) hat ?_
              exact rfl
              apply exP.mk
              exact rfl
              iterate 10 refine Z ?_
              refine And.intro ?_ ?_
              iterate 2 refine Z ?_
              refine jkm (by omega) ?_
              exact rfl
              refine And.intro ?_ ?_
              refine gmv (by omega) hat ?_
              exact rfl
              iterate 3 refine Z ?_
              refine omv (by omega) hat ?_
              iterate 2 refine Z ?_
              refine lem1 (by omega) ?_
              iterate 2 refine er ?_
              iterate 5 refine Z ?_
              refine And.intro ?_ ?_
              iterate 2 refine Z ?_
              refine jn (by omega) (by simp; omega) ?_
              exact rfl
              apply exP.mk
              iterate 2 refine Z ?_
              refine jn (by omega) (by simp; omega) ?_
              exact rfl
              iterate 2 refine Z ?_
              refine ix (by omega) (by simp; omega) ?_
              refine Z ?_
              refine er ?_
              refine Z ?_
              refine nw (by omega) (by omega) ?_
              rotate_left
              · refine hR2 (k + 1) _ _ ?_ ?_
                rotate_left
                refine weak.mk [] [0, 1, 2, 3, 4] rfl rfl ?_ ?_
                repeat' first | exact trivial | exact rfl | exact Iff.rfl | assumption | exact pureI | exact (show _ = _ by omega) | exact (show _ ≤ _ by omega) | exact (show _ < _ by omega) | exact (show ¬ _ by omega) | refine And.intro ?_ ?_
                rotate_right
                · exact ⟨by omega, by omega⟩
                · have e : t = T := by omega
                  exact atK_step rfl (by subst e; exact (aliv_last k).symm)
              · refine hR2 (k + 1) _ _ ?_ ?_
                rotate_left
                refine weak.mk [] [0, 1, 2, 3, 4] rfl rfl ?_ ?_
                repeat' first | exact trivial | exact rfl | exact Iff.rfl | assumption | exact pureI | exact (show _ = _ by omega) | exact (show _ ≤ _ by omega) | exact (show _ < _ by omega) | exact (show ¬ _ by omega) | refine And.intro ?_ ?_
                rotate_right
                · exact ⟨by omega, by omega⟩
                · have e : t = T := by omega
                  exact atK_step rfl (by subst e; exact (aliv_last k).symm)
          · refine tN (by first | omega | assumption | exact fun h => h (by assumption) | exact fun h => h rfl | exact fun h => h Iff.rfl) ?_
            iterate 5 refine Z ?_
            refine nw (by omega) (by omega) ?_
            iterate 4 refine Z ?_
            rotate_left
            refine hR (t) _ _ ?_ ?_
            rotate_left
            refine weak.mk [] [0, 1, 2, 3, 5] rfl rfl ?_ ?_
            repeat' first | exact trivial | exact rfl | exact Iff.rfl | assumption | exact pureI | exact (show _ = _ by omega) | exact (show _ ≤ _ by omega) | exact (show _ < _ by omega) | exact (show ¬ _ by omega) | refine And.intro ?_ ?_
            rotate_right
            · exact ⟨by omega, by omega⟩
            · rw [show k = n.toNat by omega, atK_n]
  · iterate 2 refine Z ?_
    refine callW.mk [] 2 _ _ _ (areChasers_c _ _ _ (by first | omega | assumption | (simp; omega) | (simp; done) | exact hl _ (List.getElem_mem _)) (by first | omega | assumption | (simp; omega) | (simp; done) | exact hl _ (List.getElem_mem _))) rfl rfl trivial nofun ?_
    refine tY (by first | omega | assumption | exact rfl | exact Iff.rfl) ?_
    rotate_left
    rw [fwR_no fun h => hc h.1]
    refine doneV.mk [1] [2] rfl rfl ?_ ?_ ?_
    repeat' first | exact trivial | exact rfl | exact Iff.rfl | assumption | exact pureI | exact (show _ = _ by omega) | exact (show _ ≤ _ by omega) | exact (show _ < _ by omega) | exact (show ¬ _ by omega) | refine And.intro ?_ ?_
    exact (show ¬ _ from fun h => hc h.1)
end Sx
