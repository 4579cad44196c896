/- Contracts: crowds are drawn. -/
import Derived.Test.YteaabofmnlbmkaaSyC
import Derived.Test.YteaabofmnlbmkaaCDn
import Derived.Test.YteaabofmnlbmkaaCTd
set_option linter.all false
namespace Sx
open Go Go.Proofs
set_option maxRecDepth 100000
set_option maxHeartbeats 8000000
set_option linter.unusedSimpArgs false
set_option linter.unusedSectionVars false
variable [Glb]
def srtD (n : Int) : List Int → List Int
  | [] => []
  | a :: A => srt n (a :: A)
theorem srtD_eq (n : Int) (A : List Int) : srtD n A = srt n A := by
  cases A with
  | nil => exact (srt_nil n).symm
  | cons a A => rfl
theorem putOldD_c (n : Int) (A : List Int) (x : Int) (hA : (srt n A).length ≤ 1000) (hn : x ∈ srt n A) : C 101 [.loc 0, i64 x] [row (srt n A)] (.loc 0) [row (srt n A)] false := by
  obtain ⟨S, hS⟩ : ∃ S, srt n A = S := ⟨_, rfl⟩
  have hp := srt_pw n A
  rw [hS] at hA hn hp ⊢
  have hS1 : S.length ≤ 1000 := hA
  refine mkC false false Try.func101 rfl ?_; refine And.intro nofun ?_; rotate_left; refine loop_up (β := Nat) (fun k => [(5, i64 k)]) (fun k => []) [] (fun k => k ≤ S.length ∧ ∀ y ∈ S.take k, y < x) (fun k => S.length - k) (0) ?_ ?_ ?_
  · exact ⟨Nat.zero_le _, fun y hy => by simp at hy⟩
  · refine weak.mk [] [0] rfl rfl ?_ ?_
    repeat' first | exact trivial | exact rfl | exact Iff.rfl | assumption | exact pureI | exact (show _ = _ by omega) | exact (show _ ≤ _ by omega) | exact (show _ < _ by omega) | exact (show ¬ _ by omega) | refine And.intro ?_ ?_
  · rintro k ⟨hk, hi⟩ R hR
    have hdx : x ∈ S.drop k := by
      rw [← List.take_append_drop k S, List.mem_append] at hn
      rcases hn with h | h
      · exact absurd (hi x h) (Int.lt_irrefl _)
      · exact h
    by_cases hkl : k < S.length
    · by_cases hlt : S[k] < x
      · have hi2 := (all_take (P := fun y => y < x) hkl).2 ⟨hi, hlt⟩
        refine lm ?_; refine tY oky ?_; iterate 2 refine Z ?_
        refine jkm (by omega) ?_; refine gm (by omega) ?_; refine tY oky ?_; refine nw (by omega) (by omega) ?_; rotate_left; refine hR (k + 1) _ _ ?_ ?_; rotate_left; refine weak.mk [] [0] rfl rfl ?_ ?_
        repeat' first | exact trivial | exact rfl | exact Iff.rfl | assumption | exact pureI | exact (show _ = _ by omega) | exact (show _ ≤ _ by omega) | exact (show _ < _ by omega) | exact (show ¬ _ by omega) | refine And.intro ?_ ?_
        rotate_right
        exact ⟨⟨by omega, hi2⟩, by omega⟩
      · have he : S[k] = x := by
          rw [List.drop_eq_getElem_cons hkl] at hdx
          rcases List.mem_cons.1 hdx with h | h
          · exact h.symm
          · rw [← List.take_append_drop (k + 1) S, List.pairwise_append] at hp
            have := hp.2.2 S[k] (by rw [take_snoc hkl]; exact List.mem_append.2 (.inr (List.mem_singleton.2 rfl))) x h
            exact absurd this hlt
        refine lm ?_; refine tY oky ?_; iterate 2 refine Z ?_
        refine jkm (by omega) ?_; refine gmv (by omega) he ?_; refine tN okn ?_; refine lm ?_; refine tY oky ?_; iterate 2 refine Z ?_
        refine jkm (by omega) ?_; refine gmv (by omega) he ?_; refine tY oky ?_; rotate_left; refine doneV.mk [] [0] rfl rfl ?_ ?_ ?_
        repeat' first | exact trivial | exact rfl | exact Iff.rfl | assumption | exact pureI | exact (show _ = _ by omega) | exact (show _ ≤ _ by omega) | exact (show _ < _ by omega) | exact (show ¬ _ by omega) | refine And.intro ?_ ?_
    · rw [List.drop_of_length_le (by omega)] at hdx
      cases hdx
theorem memI {x : Int} {l : List Int} (h : i64 x ∈ l.map i64) : x ∈ l := by
  obtain ⟨y, hy, e⟩ := List.mem_map.1 h
  have e : y = x := by injection e
  exact e ▸ hy
theorem srt_more {n x : Int} {A : List Int} (hx : 0 ≤ x ∧ x < n) (h : x ∉ srt n A) : (srt n (A ++ [x])).length = (srt n A).length + 1 := by
  have e : srt n (A ++ [x]) = srt n (srt n A ++ [x]) := pw_eq (srt_pw _ _) (srt_pw _ _) fun y => by
    rw [srt_mem, srt_mem, List.mem_append, List.mem_append, srt_mem]
    exact and_congr_right fun g => ⟨fun t => t.elim (fun t => .inl ⟨g, t⟩) .inr, fun t => t.elim (fun t => .inl t.2) .inr⟩
  rw [e, srt_len (List.nodup_append.2 ⟨pw_nodup (srt_pw n A), List.nodup_cons.2 ⟨List.not_mem_nil, List.nodup_nil⟩, fun a ha b hb e => h (by rw [List.mem_singleton] at hb; rw [← hb, ← e]; exact ha)⟩) (fun y hy => by
    rcases List.mem_append.1 hy with g | g
    · exact srt_in n A y g
    · rw [List.mem_singleton.1 g]; exact hx), List.length_append, List.length_singleton]
theorem putD_new (n : Int) (A : List Int) (x : Int) (hx : 0 ≤ x ∧ x < n) (hA : (srt n A).length ≤ 1000) (hn : x ∉ srt n A) : C 101 [ints (srtD n A), i64 x] [] (.loc 0) [row (srtD n (A ++ [x]))] false := by
  rw [srtD_eq, srtD_eq]
  exact putNew_c n A x hx hA hn
theorem putD_old (n : Int) (A : List Int) (x : Int) (hA : (srt n A).length ≤ 1000) (hn : x ∈ srt n A) : C 101 [.loc 0, i64 x] [row (srtD n A)] (.loc 0) [row (srtD n A)] false := by
  rw [srtD_eq]
  exact putOldD_c n A x hA hn
theorem putC_new (n : Int) (l : List Int) (x : Int) (hc : crowd n l) (hx : 0 ≤ x ∧ x < n) (hn : x ∉ l) : C 101 [ints l, i64 x] [] (.loc 0) [row (srt n (l ++ [x]))] false := by
  have hs := srt_self hc.2.1 (rise_pw hc.2.2)
  have hl := hc.1.2
  have := putNew_c n l x hx (by rw [hs]; omega) (by rw [hs]; exact hn)
  rwa [hs] at this
theorem putC_old (n : Int) (l : List Int) (x : Int) (hc : crowd n l) (hn : x ∈ l) : C 101 [.loc 0, i64 x] [row l] (.loc 0) [row l] false := by
  have hs := srt_self hc.2.1 (rise_pw hc.2.2)
  have hl := hc.1.2
  have := putOldD_c n l x (by rw [hs]; omega) (by rw [hs]; exact hn)
  rwa [hs] at this
theorem DrawHelp (n : Int) (A : List Int) (hn : 3 ≤ n ∧ n ≤ 12) (h1 : 1 ≤ (srt n A).length ∧ (srt n A).length ≤ 6) : crowd n (srt n A) := ⟨⟨hn, by omega, by omega⟩, srt_in n A, pw_rise (srt_pw n A)⟩
theorem put_crowd {n x : Int} {l : List Int} (hc : crowd n l) (hx : 0 ≤ x ∧ x < n) (hl : l.length < 6) (hm : x ∉ l) : crowd n (srt n (l ++ [x])) := by
  have hs := srt_self hc.2.1 (rise_pw hc.2.2)
  have := srt_len (n := n) (l := l ++ [x]) (List.nodup_append.2 ⟨pw_nodup (rise_pw hc.2.2), List.nodup_cons.2 ⟨List.not_mem_nil, List.nodup_nil⟩, fun a ha b hb e => hm (by rw [List.mem_singleton] at hb; rw [← hb, ← e]; exact ha)⟩) (fun y hy => by
    rcases List.mem_append.1 hy with h | h
    · exact hc.2.1 y h
    · rw [List.mem_singleton.1 h]; exact hx)
  rw [List.length_append, List.length_singleton] at this
  exact ⟨⟨hc.1.1, by omega, by omega⟩, srt_in n _, pw_rise (srt_pw n _)⟩
theorem crowdB_c (L : List UInt8) (hL : L.length ≤ 1099511627776) (a s : Int) (h0 : 0 ≤ a) (h1 : a ≤ 1099511620000) : CE 74 [.prow 0 0 0] [cur L a s] (fun e : (Int × List Int) × Int × Int => (e.1.2.length ≤ 7 ∧ -1 ≤ e.1.1 ∧ e.1.1 ≤ 13) ∧ a ≤ e.2.1 ∧ e.2.1 ≤ a + 40) (fun e => .agg [i64 e.1.1, .loc 1]) (fun e => [cur L e.2.1 e.2.2, row e.1.2]) true := by
  refine mkE false false Try.func74 rfl ?_; refine And.intro nofun ?_; iterate 14 refine Z ?_
  refine callW.mkE [] [0, 2] 3 _ _ _ _ (among_c _ oka _ _ oka oka _ oka oka) rfl rfl okk (fun _ => ⟨rfl, rfl⟩) (fun _ _ => ?_); iterate 24 refine Z ?_
  refine callW.mkE [] [0, 4] 5 _ _ _ _ (among_c _ oka _ _ oka oka _ oka oka) rfl rfl okk (fun _ => ⟨rfl, rfl⟩) (fun _ _ => ?_); rotate_left
  rename_i e1 h3 e2 h5
  have hn : 3 ≤ e1.1 ∧ e1.1 ≤ 12 := by
    have := memI (l := [6, 8, 5, 7, 12, 9, 3, 4, 10]) h3.1
    simp at this
    omega
  have hk : 1 ≤ e2.1 ∧ e2.1 ≤ 6 := by
    have := memI (l := [3, 2, 4, 1, 5, 6]) h5.1
    simp at this
    omega
  refine loop_up (β := Nat × List Int × Int × Int) (fun (k, A, p, q) => [(4, i64 k)]) (fun (k, A, p, q) => [(0, cur L p q), (3, .row .var 2 [.agg [i64 e1.1, .loc 5]]), (5, row (srtD e1.1 A))]) [1] (fun (k, A, p, q) => (k = e2.1.toNat ∨ 1 ≤ (srt e1.1 A).length) ∧ k + (srt e1.1 A).length ≤ 6 ∧ a ≤ p ∧ p + 4 * (k : Int) ≤ a + 30) (fun (k, A, p, q) => k) ((e2.1.toNat, [], e2.2.1, e2.2.2)) ?_ ?_ ?_
  · refine ⟨.inl rfl, ?_, ?_, ?_⟩
    · rw [srt_nil]; show e2.1.toNat + 0 ≤ 6; omega
    · show a ≤ e2.2.1; omega
    · show e2.2.1 + 4 * ((e2.1.toNat : Nat) : Int) ≤ a + 30; omega
  · refine weak.mk [1] [0, 1, 2, 3, 4, 5] rfl rfl ?_ ?_
    repeat' first | exact trivial | exact rfl | exact Iff.rfl | assumption | exact pureI | exact (show _ = _ by omega) | exact (show _ ≤ _ by omega) | exact (show _ < _ by omega) | exact (show ¬ _ by omega) | refine And.intro ?_ ?_
  · rintro ⟨k, A, p, q⟩ ⟨hi, hk6, hp, hp2⟩ R hR
    by_cases hk0 : 0 < k
    · refine tY oky ?_
      refine drawP.mkS (Z (Z ?_)); refine Z ?_
      apply exP.mk
      refine Z ?_
      exact rfl
      apply exP.mk
      exact rfl
      apply exP.mk
      exact rfl
      apply exP.mk
      refine Z ?_
      exact rfl
      apply exP.mk
      exact rfl
      refine callW.mkE [] [0] 6 _ _ _ _ (pick_c _ oka _ _ oka oka _) rfl rfl okk (fun _ => ⟨rfl, rfl⟩) (fun _ _ => ?_); refine Z ?_; refine And.intro ?_ ?_; refine Z ?_
      exact rfl
      refine Z ?_; rotate_left
      rename_i e hb
      by_cases hm : e.1 ∈ srt e1.1 A
      · have hq := putD_old e1.1 A e.1 (by omega) hm
        refine callW.mk [5] 6 _ _ _ (hq) rfl rfl okk nofun ?_; refine Z ?_
        apply exP.mk
        refine Z ?_
        exact rfl
        iterate 5 refine Z ?_
        refine nw (by omega) (by omega) ?_; rotate_left; refine hR ((k - 1, A, e.2.1, e.2.2)) _ _ ?_ ?_; rotate_left; refine weak.mk [] [0, 1, 2, 3, 4, 5] rfl rfl ?_ ?_
        repeat' first | exact trivial | exact rfl | exact Iff.rfl | assumption | exact pureI | exact (show _ = _ by omega) | exact (show _ ≤ _ by omega) | exact (show _ < _ by omega) | exact (show ¬ _ by omega) | refine And.intro ?_ ?_
        rotate_right
        exact ⟨⟨.inr (List.length_pos_of_mem hm), by omega, by omega, by omega⟩, by show k - 1 < k; omega⟩
      · have hq := putD_new e1.1 A e.1 (by omega) (by omega) hm
        have hl : (srt e1.1 (A ++ [e.1])).length = (srt e1.1 A).length + 1 := srt_more (by omega) hm
        refine callW.mk [] 6 _ _ _ (hq) rfl rfl okk nofun ?_; refine Z ?_
        apply exP.mk
        refine Z ?_
        exact rfl
        iterate 5 refine Z ?_
        refine nw (by omega) (by omega) ?_; rotate_left; refine hR ((k - 1, A ++ [e.1], e.2.1, e.2.2)) _ _ ?_ ?_; rotate_left; refine weak.mk [] [0, 1, 2, 3, 4, 6] rfl rfl ?_ ?_
        repeat' first | exact trivial | exact rfl | exact Iff.rfl | assumption | exact pureI | exact (show _ = _ by omega) | exact (show _ ≤ _ by omega) | exact (show _ < _ by omega) | exact (show ¬ _ by omega) | refine And.intro ?_ ?_
        rotate_right
        exact ⟨⟨.inr (by omega), by omega, by omega, by omega⟩, by show k - 1 < k; omega⟩
    · have hlen : 1 ≤ (srt e1.1 A).length := by omega
      have hc : crowd e1.1 (srtD e1.1 A) := by rw [srtD_eq]; exact DrawHelp e1.1 A hn ⟨hlen, by omega⟩
      have hl6 := hc.1.2
      refine tN okn ?_; refine callW.mkE [] [0] 6 _ _ _ _ (pick_c _ oka _ _ oka oka _) rfl rfl okk (fun _ => ⟨rfl, rfl⟩) (fun _ _ => ?_); refine twoP.mk (fun _ => ?_) (fun _ => ?_); refine Z ?_; refine And.intro (by omega) ?_; refine ntd (by omega) (by omega) (by omega) ?_; refine callW.mk [] 6 _ _ _ (l10Turned_c _ _ _ oka oka) rfl rfl trivial nofun ?_; iterate 6 refine Z ?_
      refine And.intro (by omega) ?_; refine ntm (by omega) ?_; refine twoP.mk (fun _ => ?_) (fun _ => ?_); rotate_left; refine callW.mkE [] [0] 8 _ _ _ _ (pick_c _ oka _ _ oka oka _) rfl rfl okk (fun _ => ⟨rfl, rfl⟩) (fun _ _ => ?_); refine twoP.mk (fun _ => ?_) (fun _ => ?_); iterate 8 refine Z ?_
      refine callW.mkE [] [0, 8] 9 _ _ _ _ (among_c _ oka _ _ oka oka _ oka oka) rfl rfl okk (fun _ => ⟨rfl, rfl⟩) (fun _ _ => ?_); iterate 9 refine Z ?_
      rotate_left; refine twoP.mk (fun _ => ?_) (fun _ => ?_)
      refine drawP.mkS (Z (Z ?_)); refine Z ?_
      apply exP.mk
      refine Z ?_
      exact rfl
      apply exP.mk
      exact rfl
      apply exP.mk
      exact rfl
      iterate 9 refine Z ?_
      refine And.intro ?_ ?_; refine Z ?_
      exact rfl
      iterate 2 refine Z ?_
      refine callW.mkE [] [0, 8] 9 _ _ _ _ (among_c _ oka _ _ oka oka _ oka oka) rfl rfl okk (fun _ => ⟨rfl, rfl⟩) (fun _ _ => ?_); refine Z ?_; refine And.intro ?_ ?_; refine Z ?_
      exact rfl
      iterate 7 refine Z ?_
      refine And.intro ?_ ?_; refine Z ?_
      exact rfl
      iterate 6 refine Z ?_
      refine lem1 (by omega) ?_; refine ea ?_; refine Z ?_
      apply exP.mk
      refine Z ?_
      exact rfl
      iterate 9 refine Z ?_
      rotate_left; refine twoP.mk (fun _ => ?_) (fun _ => ?_)
      iterate 11 refine Z ?_
      rotate_left; refine twoP.mk (fun _ => ?_) (fun _ => ?_)
      iterate 26 refine Z ?_
      rotate_left; iterate 4 refine Z ?_
      rotate_left; refine twoP.mk (fun _ => ?_) (fun _ => ?_)
      refine drawP.mkS (Z (Z ?_)); refine Z ?_
      apply exP.mk
      exact rfl
      apply exP.mk
      exact rfl
      apply exP.mk
      refine Z ?_
      exact rfl
      apply exP.mk
      exact rfl
      refine BothP.mk ?_ ?_; refine callW.mkE [] [0] 6 _ _ _ _ (pick_c _ oka _ _ oka oka _) rfl rfl okk (fun _ => ⟨rfl, rfl⟩) (fun _ _ => ?_); iterate 2 refine Z ?_
      refine BothP.mk ?_ ?_; refine callW.mk [] 6 _ _ _ (l10MirrorX_c _ _ _ oka oka) rfl rfl trivial nofun ?_; iterate 8 refine Z ?_
      rotate_left; iterate 3 refine Z ?_
      refine callW.mk [] 7 _ _ _ (l10MirrorX_c _ _ _ oka oka) rfl rfl trivial nofun ?_; iterate 6 refine Z ?_
      rotate_left; iterate 4 refine Z ?_
      refine And.intro ?_ ?_; refine Z ?_
      exact rfl
      refine Z ?_; refine callW.mkE [] [0] 7 _ _ _ _ (pick_c _ oka _ _ oka oka _) rfl rfl okk (fun _ => ⟨rfl, rfl⟩) (fun _ _ => ?_); iterate 2 refine Z ?_
      refine callW.mk [] 7 _ _ _ (l10MirrorX_c _ _ _ oka oka) rfl rfl trivial nofun ?_; iterate 6 refine Z ?_
      rotate_left; refine callW.mkE [] [0] 6 _ _ _ _ (pick_c _ oka _ _ oka oka _) rfl rfl okk (fun _ => ⟨rfl, rfl⟩) (fun _ _ => ?_)
      refine twoP.mk (fun _ => ?_) (fun _ => ?_); iterate 8 refine Z ?_
      refine callW.mkE [] [0, 6] 7 _ _ _ _ (among_c _ oka _ _ oka oka _ oka oka) rfl rfl okk (fun _ => ⟨rfl, rfl⟩) (fun _ _ => ?_); iterate 9 refine Z ?_
      rotate_left; refine twoP.mk (fun _ => ?_) (fun _ => ?_)
      refine drawP.mkS (Z (Z ?_)); refine Z ?_
      apply exP.mk
      refine Z ?_
      exact rfl
      apply exP.mk
      exact rfl
      apply exP.mk
      exact rfl
      iterate 9 refine Z ?_
      refine And.intro ?_ ?_; refine Z ?_
      exact rfl
      iterate 2 refine Z ?_
      refine callW.mkE [] [0, 6] 7 _ _ _ _ (among_c _ oka _ _ oka oka _ oka oka) rfl rfl okk (fun _ => ⟨rfl, rfl⟩) (fun _ _ => ?_); refine Z ?_; refine And.intro ?_ ?_; refine Z ?_
      exact rfl
      iterate 7 refine Z ?_
      refine And.intro ?_ ?_; refine Z ?_
      exact rfl
      iterate 6 refine Z ?_
      refine lem1 (by omega) ?_; refine ea ?_; refine Z ?_
      apply exP.mk
      refine Z ?_
      exact rfl
      iterate 9 refine Z ?_
      rotate_left; refine twoP.mk (fun _ => ?_) (fun _ => ?_)
      iterate 11 refine Z ?_
      rotate_left; refine twoP.mk (fun _ => ?_) (fun _ => ?_)
      iterate 26 refine Z ?_
      rotate_left; iterate 4 refine Z ?_
      rotate_left
      · rename_i e3 h3 c3 hev
        have htc := trn_crowd (s := e1.1 / 2) hc
        refine loop_up (β := Nat × List Int) (fun (i, l2) => [(6, i64 i), (33, .unk)]) (fun (i, l2) => [(3, .row .var 2 [.agg [i64 e1.1, .loc 5]]), (5, row l2)]) [] (fun (i, l2) => crowd e1.1 l2 ∧ i ≤ (trn e1.1 (e1.1 / 2) (srtD e1.1 A)).length) (fun (i, l2) => (trn e1.1 (e1.1 / 2) (srtD e1.1 A)).length - i) ((0, srtD e1.1 A)) ?_ ?_ ?_
        · exact ⟨hc, Nat.zero_le _⟩
        · refine weak.mk [] [0, 1, 2, 3, 4, 5, 6, 7] rfl rfl ?_ ?_
          repeat' first | exact trivial | exact rfl | exact Iff.rfl | assumption | exact pureI | exact (show _ = _ by omega) | exact (show _ ≤ _ by omega) | exact (show _ < _ by omega) | exact (show ¬ _ by omega) | refine And.intro ?_ ?_
        · rintro ⟨i, l2⟩ ⟨hc2, hi2⟩ R2 hR2
          have hl2 := hc2.1.2
          by_cases hil : i < (trn e1.1 (e1.1 / 2) (srtD e1.1 A)).length
          · have hin := htc.1.2.1 _ (List.getElem_mem hil)
            by_cases h6 : l2.length < 6
            · by_cases hm : (trn e1.1 (e1.1 / 2) (srtD e1.1 A))[i] ∈ l2
              · have hq := putC_old e1.1 l2 (trn e1.1 (e1.1 / 2) (srtD e1.1 A))[i] hc2 hm
                refine Z ?_; refine lm ?_; refine tY oky ?_; refine Z ?_; refine lm ?_; refine tY oky ?_; refine drawP.mkS (Z (Z ?_)); refine Z ?_
                apply exP.mk
                refine Z ?_
                exact rfl
                apply exP.mk
                exact rfl
                apply exP.mk
                refine Z ?_
                exact rfl
                apply exP.mk
                exact rfl
                apply exP.mk
                exact rfl
                apply exP.mk
                iterate 2 refine Z ?_
                refine jkm (by omega) ?_
                exact rfl
                apply exP.mk
                refine gm (by omega) ?_
                exact rfl
                refine callW.mk [5] 8 _ _ _ (hq) rfl rfl okk nofun ?_; refine Z ?_
                apply exP.mk
                refine Z ?_
                exact rfl
                iterate 5 refine Z ?_
                refine nw (by omega) (by omega) ?_; rotate_left; refine hR2 ((i + 1, l2)) _ _ ?_ ?_; rotate_left; refine weak.mk [] [0, 1, 2, 3, 4, 5, 6, 7] rfl rfl ?_ ?_
                repeat' first | exact trivial | exact rfl | exact Iff.rfl | assumption | exact pureI | exact (show _ = _ by omega) | exact (show _ ≤ _ by omega) | exact (show _ < _ by omega) | exact (show ¬ _ by omega) | refine And.intro ?_ ?_
                rotate_right
                exact ⟨⟨hc2, by omega⟩, by show _ - (i + 1) < _ - i; omega⟩
              · have hq := putC_new e1.1 l2 (trn e1.1 (e1.1 / 2) (srtD e1.1 A))[i] hc2 hin hm
                refine Z ?_; refine lm ?_; refine tY oky ?_; refine Z ?_; refine lm ?_; refine tY oky ?_; refine drawP.mkS (Z (Z ?_)); refine Z ?_
                apply exP.mk
                refine Z ?_
                exact rfl
                apply exP.mk
                exact rfl
                apply exP.mk
                refine Z ?_
                exact rfl
                apply exP.mk
                exact rfl
                apply exP.mk
                exact rfl
                apply exP.mk
                iterate 2 refine Z ?_
                refine jkm (by omega) ?_
                exact rfl
                apply exP.mk
                refine gm (by omega) ?_
                exact rfl
                refine callW.mk [] 8 _ _ _ (hq) rfl rfl okk nofun ?_; refine Z ?_
                apply exP.mk
                refine Z ?_
                exact rfl
                iterate 5 refine Z ?_
                refine nw (by omega) (by omega) ?_; rotate_left; refine hR2 ((i + 1, srt e1.1 (l2 ++ [(trn e1.1 (e1.1 / 2) (srtD e1.1 A))[i]]))) _ _ ?_ ?_; rotate_left; refine weak.mk [] [0, 1, 2, 3, 4, 8, 6, 7] rfl rfl ?_ ?_
                repeat' first | exact trivial | exact rfl | exact Iff.rfl | assumption | exact pureI | exact (show _ = _ by omega) | exact (show _ ≤ _ by omega) | exact (show _ < _ by omega) | exact (show ¬ _ by omega) | refine And.intro ?_ ?_
                rotate_right
                exact ⟨⟨put_crowd hc2 hin h6 hm, by omega⟩, by show _ - (i + 1) < _ - i; omega⟩
            · refine Z ?_
              refine lm ?_; refine tY oky ?_; refine Z ?_; refine lm ?_; refine tN okn ?_; refine callW.mkE [] [0] 8 _ _ _ _ (pick_c _ oka _ _ oka oka _) rfl rfl okk (fun _ => ⟨rfl, rfl⟩) (fun _ _ => ?_); refine twoP.mk (fun _ => ?_) (fun _ => ?_); iterate 8 refine Z ?_
              refine callW.mkE [] [0, 8] 9 _ _ _ _ (among_c _ oka _ _ oka oka _ oka oka) rfl rfl okk (fun _ => ⟨rfl, rfl⟩) (fun _ _ => ?_); iterate 9 refine Z ?_
              rotate_left; refine twoP.mk (fun _ => ?_) (fun _ => ?_)
              refine drawP.mkS (Z (Z ?_)); refine Z ?_
              apply exP.mk
              refine Z ?_
              exact rfl
              apply exP.mk
              exact rfl
              apply exP.mk
              exact rfl
              iterate 9 refine Z ?_
              refine And.intro ?_ ?_; refine Z ?_
              exact rfl
              iterate 2 refine Z ?_
              refine callW.mkE [] [0, 8] 9 _ _ _ _ (among_c _ oka _ _ oka oka _ oka oka) rfl rfl okk (fun _ => ⟨rfl, rfl⟩) (fun _ _ => ?_); refine Z ?_; refine And.intro ?_ ?_; refine Z ?_
              exact rfl
              iterate 7 refine Z ?_
              refine And.intro ?_ ?_; refine Z ?_
              exact rfl
              iterate 6 refine Z ?_
              refine lem1 (by omega) ?_; refine ea ?_; refine Z ?_
              apply exP.mk
              refine Z ?_
              exact rfl
              iterate 9 refine Z ?_
              rotate_left; refine twoP.mk (fun _ => ?_) (fun _ => ?_)
              iterate 11 refine Z ?_
              rotate_left; refine twoP.mk (fun _ => ?_) (fun _ => ?_)
              iterate 26 refine Z ?_
              rotate_left; iterate 4 refine Z ?_
              rotate_left
              · rename_i f hf c0 g hg
                have hgb := memI (l := [2, 13, 0, -1]) hg.1
                simp only [List.mem_cons, List.not_mem_nil, or_false] at hgb
                refine doneE.mk (((g.1, l2), g.2.1, g.2.2)) ?_ ?_; rotate_left
                focus
                  refine doneV.mk [] [0, 5] rfl rfl ?_ ?_ ?_
                  repeat' first | exact trivial | exact rfl | exact Iff.rfl | assumption | exact pureI | exact (show _ = _ by omega) | exact (show _ ≤ _ by omega) | exact (show _ < _ by omega) | exact (show ¬ _ by omega) | refine And.intro ?_ ?_
                rotate_right
                all_goals (first | (dsimp only; skip; refine ⟨⟨?_, ?_, ?_⟩, ?_, ?_⟩ <;> omega) | skip)
              · rename_i f hf c0 c1 g hg
                refine doneE.mk (((e1.1, l2 ++ [g.1]), g.2.1, g.2.2)) ?_ ?_; rotate_left
                focus
                  refine doneV.mk [] [0, 10] rfl rfl ?_ ?_ ?_
                  repeat' first | exact trivial | exact rfl | exact Iff.rfl | assumption | exact pureI | exact (show _ = _ by omega) | exact (show _ ≤ _ by omega) | exact (show _ < _ by omega) | exact (show ¬ _ by omega) | refine And.intro ?_ ?_
                rotate_right
                all_goals (first | (dsimp only; skip; rw [List.length_append, List.length_singleton]; refine ⟨⟨?_, ?_, ?_⟩, ?_, ?_⟩ <;> omega) | skip)
              · rename_i f hf c0 c1 c2
                refine doneE.mk (((e1.1, []), f.2.1, f.2.2)) ?_ ?_; rotate_left
                focus
                  refine doneV.mk [1] [0, 8] rfl rfl ?_ ?_ ?_
                  repeat' first | exact trivial | exact rfl | exact Iff.rfl | assumption | exact pureI | exact (show _ = _ by omega) | exact (show _ ≤ _ by omega) | exact (show _ < _ by omega) | exact (show ¬ _ by omega) | refine And.intro ?_ ?_
                rotate_right
                all_goals (first | (dsimp only; skip; refine ⟨⟨by decide, ?_, ?_⟩, ?_, ?_⟩ <;> omega) | skip)
              · rename_i f hf c0 c1 c2 c3
                refine doneE.mk (((12, [0, 1, 2, 3, 5, 7, 8]), f.2.1, f.2.2)) ?_ ?_; rotate_left
                focus
                  refine doneV.mk [] [0, 8] rfl rfl ?_ ?_ ?_
                  repeat' first | exact trivial | exact rfl | exact Iff.rfl | assumption | exact pureI | exact (show _ = _ by omega) | exact (show _ ≤ _ by omega) | exact (show _ < _ by omega) | exact (show ¬ _ by omega) | refine And.intro ?_ ?_
                rotate_right
                all_goals (first | (dsimp only; skip; refine ⟨⟨by decide, ?_, ?_⟩, ?_, ?_⟩ <;> omega) | skip)
              · rename_i f hf c0 c1 c2 c3
                refine doneE.mk (((e1.1, l2), f.2.1, f.2.2)) ?_ ?_; rotate_left
                focus
                  refine doneV.mk [] [0, 5] rfl rfl ?_ ?_ ?_
                  repeat' first | exact trivial | exact rfl | exact Iff.rfl | assumption | exact pureI | exact (show _ = _ by omega) | exact (show _ ≤ _ by omega) | exact (show _ < _ by omega) | exact (show ¬ _ by omega) | refine And.intro ?_ ?_
                rotate_right
                all_goals (first | (dsimp only; skip; refine ⟨⟨?_, ?_, ?_⟩, ?_, ?_⟩ <;> omega) | skip)
          · refine Z ?_
            refine lm ?_; refine tN okn ?_; refine callW.mkE [] [0] 8 _ _ _ _ (pick_c _ oka _ _ oka oka _) rfl rfl okk (fun _ => ⟨rfl, rfl⟩) (fun _ _ => ?_); refine twoP.mk (fun _ => ?_) (fun _ => ?_); iterate 8 refine Z ?_
            refine callW.mkE [] [0, 8] 9 _ _ _ _ (among_c _ oka _ _ oka oka _ oka oka) rfl rfl okk (fun _ => ⟨rfl, rfl⟩) (fun _ _ => ?_); iterate 9 refine Z ?_
            rotate_left; refine twoP.mk (fun _ => ?_) (fun _ => ?_)
            refine drawP.mkS (Z (Z ?_)); refine Z ?_
            apply exP.mk
            refine Z ?_
            exact rfl
            apply exP.mk
            exact rfl
            apply exP.mk
            exact rfl
            iterate 9 refine Z ?_
            refine And.intro ?_ ?_; refine Z ?_
            exact rfl
            iterate 2 refine Z ?_
            refine callW.mkE [] [0, 8] 9 _ _ _ _ (among_c _ oka _ _ oka oka _ oka oka) rfl rfl okk (fun _ => ⟨rfl, rfl⟩) (fun _ _ => ?_); refine Z ?_; refine And.intro ?_ ?_; refine Z ?_
            exact rfl
            iterate 7 refine Z ?_
            refine And.intro ?_ ?_; refine Z ?_
            exact rfl
            iterate 6 refine Z ?_
            refine lem1 (by omega) ?_; refine ea ?_; refine Z ?_
            apply exP.mk
            refine Z ?_
            exact rfl
            iterate 9 refine Z ?_
            rotate_left; refine twoP.mk (fun _ => ?_) (fun _ => ?_)
            iterate 11 refine Z ?_
            rotate_left; refine twoP.mk (fun _ => ?_) (fun _ => ?_)
            iterate 26 refine Z ?_
            rotate_left; iterate 4 refine Z ?_
            rotate_left
            · rename_i f hf c0 g hg
              have hgb := memI (l := [2, 13, 0, -1]) hg.1
              simp only [List.mem_cons, List.not_mem_nil, or_false] at hgb
              refine doneE.mk (((g.1, l2), g.2.1, g.2.2)) ?_ ?_; rotate_left
              focus
                refine doneV.mk [] [0, 5] rfl rfl ?_ ?_ ?_
                repeat' first | exact trivial | exact rfl | exact Iff.rfl | assumption | exact pureI | exact (show _ = _ by omega) | exact (show _ ≤ _ by omega) | exact (show _ < _ by omega) | exact (show ¬ _ by omega) | refine And.intro ?_ ?_
              rotate_right
              all_goals (first | (dsimp only; skip; refine ⟨⟨?_, ?_, ?_⟩, ?_, ?_⟩ <;> omega) | skip)
            · rename_i f hf c0 c1 g hg
              refine doneE.mk (((e1.1, l2 ++ [g.1]), g.2.1, g.2.2)) ?_ ?_; rotate_left
              focus
                refine doneV.mk [] [0, 10] rfl rfl ?_ ?_ ?_
                repeat' first | exact trivial | exact rfl | exact Iff.rfl | assumption | exact pureI | exact (show _ = _ by omega) | exact (show _ ≤ _ by omega) | exact (show _ < _ by omega) | exact (show ¬ _ by omega) | refine And.intro ?_ ?_
              rotate_right
              all_goals (first | (dsimp only; skip; rw [List.length_append, List.length_singleton]; refine ⟨⟨?_, ?_, ?_⟩, ?_, ?_⟩ <;> omega) | skip)
            · rename_i f hf c0 c1 c2
              refine doneE.mk (((e1.1, []), f.2.1, f.2.2)) ?_ ?_; rotate_left
              focus
                refine doneV.mk [1] [0, 8] rfl rfl ?_ ?_ ?_
                repeat' first | exact trivial | exact rfl | exact Iff.rfl | assumption | exact pureI | exact (show _ = _ by omega) | exact (show _ ≤ _ by omega) | exact (show _ < _ by omega) | exact (show ¬ _ by omega) | refine And.intro ?_ ?_
              rotate_right
              all_goals (first | (dsimp only; skip; refine ⟨⟨by decide, ?_, ?_⟩, ?_, ?_⟩ <;> omega) | skip)
            · rename_i f hf c0 c1 c2 c3
              refine doneE.mk (((12, [0, 1, 2, 3, 5, 7, 8]), f.2.1, f.2.2)) ?_ ?_; rotate_left
              focus
                refine doneV.mk [] [0, 8] rfl rfl ?_ ?_ ?_
                repeat' first | exact trivial | exact rfl | exact Iff.rfl | assumption | exact pureI | exact (show _ = _ by omega) | exact (show _ ≤ _ by omega) | exact (show _ < _ by omega) | exact (show ¬ _ by omega) | refine And.intro ?_ ?_
              rotate_right
              all_goals (first | (dsimp only; skip; refine ⟨⟨by decide, ?_, ?_⟩, ?_, ?_⟩ <;> omega) | skip)
            · rename_i f hf c0 c1 c2 c3
              refine doneE.mk (((e1.1, l2), f.2.1, f.2.2)) ?_ ?_; rotate_left
              focus
                refine doneV.mk [] [0, 5] rfl rfl ?_ ?_ ?_
                repeat' first | exact trivial | exact rfl | exact Iff.rfl | assumption | exact pureI | exact (show _ = _ by omega) | exact (show _ ≤ _ by omega) | exact (show _ < _ by omega) | exact (show ¬ _ by omega) | refine And.intro ?_ ?_
              rotate_right
              all_goals (first | (dsimp only; skip; refine ⟨⟨?_, ?_, ?_⟩, ?_, ?_⟩ <;> omega) | skip)
      · rename_i f hf c0 g hg
        have hgb := memI (l := [2, 13, 0, -1]) hg.1
        simp only [List.mem_cons, List.not_mem_nil, or_false] at hgb
        refine doneE.mk (((g.1, srtD e1.1 A), g.2.1, g.2.2)) ?_ ?_; rotate_left
        focus
          refine doneV.mk [] [0, 5] rfl rfl ?_ ?_ ?_
          repeat' first | exact trivial | exact rfl | exact Iff.rfl | assumption | exact pureI | exact (show _ = _ by omega) | exact (show _ ≤ _ by omega) | exact (show _ < _ by omega) | exact (show ¬ _ by omega) | refine And.intro ?_ ?_
        rotate_right
        all_goals (first | (dsimp only; skip; refine ⟨⟨?_, ?_, ?_⟩, ?_, ?_⟩ <;> omega) | skip)
      · rename_i f hf c0 c1 g hg
        refine doneE.mk (((e1.1, srtD e1.1 A ++ [g.1]), g.2.1, g.2.2)) ?_ ?_; rotate_left
        focus
          refine doneV.mk [] [0, 10] rfl rfl ?_ ?_ ?_
          repeat' first | exact trivial | exact rfl | exact Iff.rfl | assumption | exact pureI | exact (show _ = _ by omega) | exact (show _ ≤ _ by omega) | exact (show _ < _ by omega) | exact (show ¬ _ by omega) | refine And.intro ?_ ?_
        rotate_right
        all_goals (first | (dsimp only; skip; rw [List.length_append, List.length_singleton]; refine ⟨⟨?_, ?_, ?_⟩, ?_, ?_⟩ <;> omega) | skip)
      · rename_i f hf c0 c1 c2
        refine doneE.mk (((e1.1, []), f.2.1, f.2.2)) ?_ ?_; rotate_left
        focus
          refine doneV.mk [1] [0, 8] rfl rfl ?_ ?_ ?_
          repeat' first | exact trivial | exact rfl | exact Iff.rfl | assumption | exact pureI | exact (show _ = _ by omega) | exact (show _ ≤ _ by omega) | exact (show _ < _ by omega) | exact (show ¬ _ by omega) | refine And.intro ?_ ?_
        rotate_right
        all_goals (first | (dsimp only; skip; refine ⟨⟨by decide, ?_, ?_⟩, ?_, ?_⟩ <;> omega) | skip)
      · rename_i f hf c0 c1 c2 c3
        refine doneE.mk (((12, [0, 1, 2, 3, 5, 7, 8]), f.2.1, f.2.2)) ?_ ?_; rotate_left
        focus
          refine doneV.mk [] [0, 8] rfl rfl ?_ ?_ ?_
          repeat' first | exact trivial | exact rfl | exact Iff.rfl | assumption | exact pureI | exact (show _ = _ by omega) | exact (show _ ≤ _ by omega) | exact (show _ < _ by omega) | exact (show ¬ _ by omega) | refine And.intro ?_ ?_
        rotate_right
        all_goals (first | (dsimp only; skip; refine ⟨⟨by decide, ?_, ?_⟩, ?_, ?_⟩ <;> omega) | skip)
      · rename_i f hf c0 c1 c2 c3
        refine doneE.mk (((e1.1, srtD e1.1 A), f.2.1, f.2.2)) ?_ ?_; rotate_left
        focus
          refine doneV.mk [] [0, 5] rfl rfl ?_ ?_ ?_
          repeat' first | exact trivial | exact rfl | exact Iff.rfl | assumption | exact pureI | exact (show _ = _ by omega) | exact (show _ ≤ _ by omega) | exact (show _ < _ by omega) | exact (show ¬ _ by omega) | refine And.intro ?_ ?_
        rotate_right
        all_goals (first | (dsimp only; skip; refine ⟨⟨?_, ?_, ?_⟩, ?_, ?_⟩ <;> omega) | skip)
      · rename_i e3 h3 c3 c4 e4 h4
        have htc := axm_crowd (x := e4.1) hc
        refine loop_up (β := Nat × List Int) (fun (i, l2) => [(8, i64 i), (66, .unk)]) (fun (i, l2) => [(3, .row .var 2 [.agg [i64 e1.1, .loc 5]]), (5, row l2)]) [] (fun (i, l2) => crowd e1.1 l2 ∧ i ≤ (axm e1.1 e4.1 (srtD e1.1 A)).length) (fun (i, l2) => (axm e1.1 e4.1 (srtD e1.1 A)).length - i) ((0, srtD e1.1 A)) ?_ ?_ ?_
        · exact ⟨hc, Nat.zero_le _⟩
        · refine weak.mk [] [0, 1, 2, 3, 4, 5, 6, 7] rfl rfl ?_ ?_
          repeat' first | exact trivial | exact rfl | exact Iff.rfl | assumption | exact pureI | exact (show _ = _ by omega) | exact (show _ ≤ _ by omega) | exact (show _ < _ by omega) | exact (show ¬ _ by omega) | refine And.intro ?_ ?_
        · rintro ⟨i, l2⟩ ⟨hc2, hi2⟩ R2 hR2
          have hl2 := hc2.1.2
          by_cases hil : i < (axm e1.1 e4.1 (srtD e1.1 A)).length
          · have hin := htc.1.2.1 _ (List.getElem_mem hil)
            by_cases h6 : l2.length < 6
            · by_cases hm : (axm e1.1 e4.1 (srtD e1.1 A))[i] ∈ l2
              · have hq := putC_old e1.1 l2 (axm e1.1 e4.1 (srtD e1.1 A))[i] hc2 hm
                refine Z ?_; refine lm ?_; refine tY oky ?_; refine Z ?_; refine lm ?_; refine tY oky ?_; refine drawP.mkS (Z (Z ?_)); refine Z ?_
                apply exP.mk
                refine Z ?_
                exact rfl
                apply exP.mk
                exact rfl
                apply exP.mk
                refine Z ?_
                exact rfl
                apply exP.mk
                exact rfl
                apply exP.mk
                exact rfl
                apply exP.mk
                iterate 2 refine Z ?_
                refine jkm (by omega) ?_
                exact rfl
                apply exP.mk
                refine gm (by omega) ?_
                exact rfl
                refine callW.mk [5] 8 _ _ _ (hq) rfl rfl okk nofun ?_; refine Z ?_
                apply exP.mk
                refine Z ?_
                exact rfl
                iterate 5 refine Z ?_
                refine nw (by omega) (by omega) ?_; rotate_left; refine hR2 ((i + 1, l2)) _ _ ?_ ?_; rotate_left; refine weak.mk [] [0, 1, 2, 3, 4, 5, 6, 7] rfl rfl ?_ ?_
                repeat' first | exact trivial | exact rfl | exact Iff.rfl | assumption | exact pureI | exact (show _ = _ by omega) | exact (show _ ≤ _ by omega) | exact (show _ < _ by omega) | exact (show ¬ _ by omega) | refine And.intro ?_ ?_
                rotate_right
                exact ⟨⟨hc2, by omega⟩, by show _ - (i + 1) < _ - i; omega⟩
              · have hq := putC_new e1.1 l2 (axm e1.1 e4.1 (srtD e1.1 A))[i] hc2 hin hm
                refine Z ?_; refine lm ?_; refine tY oky ?_; refine Z ?_; refine lm ?_; refine tY oky ?_; refine drawP.mkS (Z (Z ?_)); refine Z ?_
                apply exP.mk
                refine Z ?_
                exact rfl
                apply exP.mk
                exact rfl
                apply exP.mk
                refine Z ?_
                exact rfl
                apply exP.mk
                exact rfl
                apply exP.mk
                exact rfl
                apply exP.mk
                iterate 2 refine Z ?_
                refine jkm (by omega) ?_
                exact rfl
                apply exP.mk
                refine gm (by omega) ?_
                exact rfl
                refine callW.mk [] 8 _ _ _ (hq) rfl rfl okk nofun ?_; refine Z ?_
                apply exP.mk
                refine Z ?_
                exact rfl
                iterate 5 refine Z ?_
                refine nw (by omega) (by omega) ?_; rotate_left; refine hR2 ((i + 1, srt e1.1 (l2 ++ [(axm e1.1 e4.1 (srtD e1.1 A))[i]]))) _ _ ?_ ?_; rotate_left; refine weak.mk [] [0, 1, 2, 3, 4, 8, 6, 7] rfl rfl ?_ ?_
                repeat' first | exact trivial | exact rfl | exact Iff.rfl | assumption | exact pureI | exact (show _ = _ by omega) | exact (show _ ≤ _ by omega) | exact (show _ < _ by omega) | exact (show ¬ _ by omega) | refine And.intro ?_ ?_
                rotate_right
                exact ⟨⟨put_crowd hc2 hin h6 hm, by omega⟩, by show _ - (i + 1) < _ - i; omega⟩
            · refine Z ?_
              refine lm ?_; refine tY oky ?_; refine Z ?_; refine lm ?_; refine tN okn ?_; refine callW.mkE [] [0] 8 _ _ _ _ (pick_c _ oka _ _ oka oka _) rfl rfl okk (fun _ => ⟨rfl, rfl⟩) (fun _ _ => ?_); refine twoP.mk (fun _ => ?_) (fun _ => ?_); iterate 8 refine Z ?_
              refine callW.mkE [] [0, 8] 9 _ _ _ _ (among_c _ oka _ _ oka oka _ oka oka) rfl rfl okk (fun _ => ⟨rfl, rfl⟩) (fun _ _ => ?_); iterate 9 refine Z ?_
              rotate_left; refine twoP.mk (fun _ => ?_) (fun _ => ?_)
              refine drawP.mkS (Z (Z ?_)); refine Z ?_
              apply exP.mk
              refine Z ?_
              exact rfl
              apply exP.mk
              exact rfl
              apply exP.mk
              exact rfl
              iterate 9 refine Z ?_
              refine And.intro ?_ ?_; refine Z ?_
              exact rfl
              iterate 2 refine Z ?_
              refine callW.mkE [] [0, 8] 9 _ _ _ _ (among_c _ oka _ _ oka oka _ oka oka) rfl rfl okk (fun _ => ⟨rfl, rfl⟩) (fun _ _ => ?_); refine Z ?_; refine And.intro ?_ ?_; refine Z ?_
              exact rfl
              iterate 7 refine Z ?_
              refine And.intro ?_ ?_; refine Z ?_
              exact rfl
              iterate 6 refine Z ?_
              refine lem1 (by omega) ?_; refine ea ?_; refine Z ?_
              apply exP.mk
              refine Z ?_
              exact rfl
              iterate 9 refine Z ?_
              rotate_left; refine twoP.mk (fun _ => ?_) (fun _ => ?_)
              iterate 11 refine Z ?_
              rotate_left; refine twoP.mk (fun _ => ?_) (fun _ => ?_)
              iterate 26 refine Z ?_
              rotate_left; iterate 4 refine Z ?_
              rotate_left
              · rename_i f hf c0 g hg
                have hgb := memI (l := [2, 13, 0, -1]) hg.1
                simp only [List.mem_cons, List.not_mem_nil, or_false] at hgb
                refine doneE.mk (((g.1, l2), g.2.1, g.2.2)) ?_ ?_; rotate_left
                focus
                  refine doneV.mk [] [0, 5] rfl rfl ?_ ?_ ?_
                  repeat' first | exact trivial | exact rfl | exact Iff.rfl | assumption | exact pureI | exact (show _ = _ by omega) | exact (show _ ≤ _ by omega) | exact (show _ < _ by omega) | exact (show ¬ _ by omega) | refine And.intro ?_ ?_
                rotate_right
                all_goals (first | (dsimp only; skip; refine ⟨⟨?_, ?_, ?_⟩, ?_, ?_⟩ <;> omega) | skip)
              · rename_i f hf c0 c1 g hg
                refine doneE.mk (((e1.1, l2 ++ [g.1]), g.2.1, g.2.2)) ?_ ?_; rotate_left
                focus
                  refine doneV.mk [] [0, 10] rfl rfl ?_ ?_ ?_
                  repeat' first | exact trivial | exact rfl | exact Iff.rfl | assumption | exact pureI | exact (show _ = _ by omega) | exact (show _ ≤ _ by omega) | exact (show _ < _ by omega) | exact (show ¬ _ by omega) | refine And.intro ?_ ?_
                rotate_right
                all_goals (first | (dsimp only; skip; rw [List.length_append, List.length_singleton]; refine ⟨⟨?_, ?_, ?_⟩, ?_, ?_⟩ <;> omega) | skip)
              · rename_i f hf c0 c1 c2
                refine doneE.mk (((e1.1, []), f.2.1, f.2.2)) ?_ ?_; rotate_left
                focus
                  refine doneV.mk [1] [0, 8] rfl rfl ?_ ?_ ?_
                  repeat' first | exact trivial | exact rfl | exact Iff.rfl | assumption | exact pureI | exact (show _ = _ by omega) | exact (show _ ≤ _ by omega) | exact (show _ < _ by omega) | exact (show ¬ _ by omega) | refine And.intro ?_ ?_
                rotate_right
                all_goals (first | (dsimp only; skip; refine ⟨⟨by decide, ?_, ?_⟩, ?_, ?_⟩ <;> omega) | skip)
              · rename_i f hf c0 c1 c2 c3
                refine doneE.mk (((12, [0, 1, 2, 3, 5, 7, 8]), f.2.1, f.2.2)) ?_ ?_; rotate_left
                focus
                  refine doneV.mk [] [0, 8] rfl rfl ?_ ?_ ?_
                  repeat' first | exact trivial | exact rfl | exact Iff.rfl | assumption | exact pureI | exact (show _ = _ by omega) | exact (show _ ≤ _ by omega) | exact (show _ < _ by omega) | exact (show ¬ _ by omega) | refine And.intro ?_ ?_
                rotate_right
                all_goals (first | (dsimp only; skip; refine ⟨⟨by decide, ?_, ?_⟩, ?_, ?_⟩ <;> omega) | skip)
              · rename_i f hf c0 c1 c2 c3
                refine doneE.mk (((e1.1, l2), f.2.1, f.2.2)) ?_ ?_; rotate_left
                focus
                  refine doneV.mk [] [0, 5] rfl rfl ?_ ?_ ?_
                  repeat' first | exact trivial | exact rfl | exact Iff.rfl | assumption | exact pureI | exact (show _ = _ by omega) | exact (show _ ≤ _ by omega) | exact (show _ < _ by omega) | exact (show ¬ _ by omega) | refine And.intro ?_ ?_
                rotate_right
                all_goals (first | (dsimp only; skip; refine ⟨⟨?_, ?_, ?_⟩, ?_, ?_⟩ <;> omega) | skip)
          · refine Z ?_
            refine lm ?_; refine tN okn ?_; refine callW.mkE [] [0] 8 _ _ _ _ (pick_c _ oka _ _ oka oka _) rfl rfl okk (fun _ => ⟨rfl, rfl⟩) (fun _ _ => ?_); refine twoP.mk (fun _ => ?_) (fun _ => ?_); iterate 8 refine Z ?_
            refine callW.mkE [] [0, 8] 9 _ _ _ _ (among_c _ oka _ _ oka oka _ oka oka) rfl rfl okk (fun _ => ⟨rfl, rfl⟩) (fun _ _ => ?_); iterate 9 refine Z ?_
            rotate_left; refine twoP.mk (fun _ => ?_) (fun _ => ?_)
            refine drawP.mkS (Z (Z ?_)); refine Z ?_
            apply exP.mk
            refine Z ?_
            exact rfl
            apply exP.mk
            exact rfl
            apply exP.mk
            exact rfl
            iterate 9 refine Z ?_
            refine And.intro ?_ ?_; refine Z ?_
            exact rfl
            iterate 2 refine Z ?_
            refine callW.mkE [] [0, 8] 9 _ _ _ _ (among_c _ oka _ _ oka oka _ oka oka) rfl rfl okk (fun _ => ⟨rfl, rfl⟩) (fun _ _ => ?_); refine Z ?_; refine And.intro ?_ ?_; refine Z ?_
            exact rfl
            iterate 7 refine Z ?_
            refine And.intro ?_ ?_; refine Z ?_
            exact rfl
            iterate 6 refine Z ?_
            refine lem1 (by omega) ?_; refine ea ?_; refine Z ?_
            apply exP.mk
            refine Z ?_
            exact rfl
            iterate 9 refine Z ?_
            rotate_left; refine twoP.mk (fun _ => ?_) (fun _ => ?_)
            iterate 11 refine Z ?_
            rotate_left; refine twoP.mk (fun _ => ?_) (fun _ => ?_)
            iterate 26 refine Z ?_
            rotate_left; iterate 4 refine Z ?_
            rotate_left
            · rename_i f hf c0 g hg
              have hgb := memI (l := [2, 13, 0, -1]) hg.1
              simp only [List.mem_cons, List.not_mem_nil, or_false] at hgb
              refine doneE.mk (((g.1, l2), g.2.1, g.2.2)) ?_ ?_; rotate_left
              focus
                refine doneV.mk [] [0, 5] rfl rfl ?_ ?_ ?_
                repeat' first | exact trivial | exact rfl | exact Iff.rfl | assumption | exact pureI | exact (show _ = _ by omega) | exact (show _ ≤ _ by omega) | exact (show _ < _ by omega) | exact (show ¬ _ by omega) | refine And.intro ?_ ?_
              rotate_right
              all_goals (first | (dsimp only; skip; refine ⟨⟨?_, ?_, ?_⟩, ?_, ?_⟩ <;> omega) | skip)
            · rename_i f hf c0 c1 g hg
              refine doneE.mk (((e1.1, l2 ++ [g.1]), g.2.1, g.2.2)) ?_ ?_; rotate_left
              focus
                refine doneV.mk [] [0, 10] rfl rfl ?_ ?_ ?_
                repeat' first | exact trivial | exact rfl | exact Iff.rfl | assumption | exact pureI | exact (show _ = _ by omega) | exact (show _ ≤ _ by omega) | exact (show _ < _ by omega) | exact (show ¬ _ by omega) | refine And.intro ?_ ?_
              rotate_right
              all_goals (first | (dsimp only; skip; rw [List.length_append, List.length_singleton]; refine ⟨⟨?_, ?_, ?_⟩, ?_, ?_⟩ <;> omega) | skip)
            · rename_i f hf c0 c1 c2
              refine doneE.mk (((e1.1, []), f.2.1, f.2.2)) ?_ ?_; rotate_left
              focus
                refine doneV.mk [1] [0, 8] rfl rfl ?_ ?_ ?_
                repeat' first | exact trivial | exact rfl | exact Iff.rfl | assumption | exact pureI | exact (show _ = _ by omega) | exact (show _ ≤ _ by omega) | exact (show _ < _ by omega) | exact (show ¬ _ by omega) | refine And.intro ?_ ?_
              rotate_right
              all_goals (first | (dsimp only; skip; refine ⟨⟨by decide, ?_, ?_⟩, ?_, ?_⟩ <;> omega) | skip)
            · rename_i f hf c0 c1 c2 c3
              refine doneE.mk (((12, [0, 1, 2, 3, 5, 7, 8]), f.2.1, f.2.2)) ?_ ?_; rotate_left
              focus
                refine doneV.mk [] [0, 8] rfl rfl ?_ ?_ ?_
                repeat' first | exact trivial | exact rfl | exact Iff.rfl | assumption | exact pureI | exact (show _ = _ by omega) | exact (show _ ≤ _ by omega) | exact (show _ < _ by omega) | exact (show ¬ _ by omega) | refine And.intro ?_ ?_
              rotate_right
              all_goals (first | (dsimp only; skip; refine ⟨⟨by decide, ?_, ?_⟩, ?_, ?_⟩ <;> omega) | skip)
            · rename_i f hf c0 c1 c2 c3
              refine doneE.mk (((e1.1, l2), f.2.1, f.2.2)) ?_ ?_; rotate_left
              focus
                refine doneV.mk [] [0, 5] rfl rfl ?_ ?_ ?_
                repeat' first | exact trivial | exact rfl | exact Iff.rfl | assumption | exact pureI | exact (show _ = _ by omega) | exact (show _ ≤ _ by omega) | exact (show _ < _ by omega) | exact (show ¬ _ by omega) | refine And.intro ?_ ?_
              rotate_right
              all_goals (first | (dsimp only; skip; refine ⟨⟨?_, ?_, ?_⟩, ?_, ?_⟩ <;> omega) | skip)
      · rename_i e3 h3 c3 c4 e4 h4
        have htc := axm_crowd (x := e4.1) hc
        refine loop_up (β := Nat × List Int) (fun (i, l2) => [(8, i64 i), (66, .unk)]) (fun (i, l2) => [(3, .row .var 2 [.agg [i64 e1.1, .loc 5]]), (5, row l2)]) [] (fun (i, l2) => crowd e1.1 l2 ∧ i ≤ (axm e1.1 e4.1 (srtD e1.1 A)).length) (fun (i, l2) => (axm e1.1 e4.1 (srtD e1.1 A)).length - i) ((0, srtD e1.1 A)) ?_ ?_ ?_
        · exact ⟨hc, Nat.zero_le _⟩
        · refine weak.mk [] [0, 1, 2, 3, 4, 5, 6, 7] rfl rfl ?_ ?_
          repeat' first | exact trivial | exact rfl | exact Iff.rfl | assumption | exact pureI | exact (show _ = _ by omega) | exact (show _ ≤ _ by omega) | exact (show _ < _ by omega) | exact (show ¬ _ by omega) | refine And.intro ?_ ?_
        · rintro ⟨i, l2⟩ ⟨hc2, hi2⟩ R2 hR2
          have hl2 := hc2.1.2
          by_cases hil : i < (axm e1.1 e4.1 (srtD e1.1 A)).length
          · have hin := htc.1.2.1 _ (List.getElem_mem hil)
            by_cases h6 : l2.length < 6
            · by_cases hm : (axm e1.1 e4.1 (srtD e1.1 A))[i] ∈ l2
              · have hq := putC_old e1.1 l2 (axm e1.1 e4.1 (srtD e1.1 A))[i] hc2 hm
                refine Z ?_; refine lm ?_; refine tY oky ?_; refine Z ?_; refine lm ?_; refine tY oky ?_; refine drawP.mkS (Z (Z ?_)); refine Z ?_
                apply exP.mk
                refine Z ?_
                exact rfl
                apply exP.mk
                exact rfl
                apply exP.mk
                refine Z ?_
                exact rfl
                apply exP.mk
                exact rfl
                apply exP.mk
                exact rfl
                apply exP.mk
                iterate 2 refine Z ?_
                refine jkm (by omega) ?_
                exact rfl
                apply exP.mk
                refine gm (by omega) ?_
                exact rfl
                refine callW.mk [5] 8 _ _ _ (hq) rfl rfl okk nofun ?_; refine Z ?_
                apply exP.mk
                refine Z ?_
                exact rfl
                iterate 5 refine Z ?_
                refine nw (by omega) (by omega) ?_; rotate_left; refine hR2 ((i + 1, l2)) _ _ ?_ ?_; rotate_left; refine weak.mk [] [0, 1, 2, 3, 4, 5, 6, 7] rfl rfl ?_ ?_
                repeat' first | exact trivial | exact rfl | exact Iff.rfl | assumption | exact pureI | exact (show _ = _ by omega) | exact (show _ ≤ _ by omega) | exact (show _ < _ by omega) | exact (show ¬ _ by omega) | refine And.intro ?_ ?_
                rotate_right
                exact ⟨⟨hc2, by omega⟩, by show _ - (i + 1) < _ - i; omega⟩
              · have hq := putC_new e1.1 l2 (axm e1.1 e4.1 (srtD e1.1 A))[i] hc2 hin hm
                refine Z ?_; refine lm ?_; refine tY oky ?_; refine Z ?_; refine lm ?_; refine tY oky ?_; refine drawP.mkS (Z (Z ?_)); refine Z ?_
                apply exP.mk
                refine Z ?_
                exact rfl
                apply exP.mk
                exact rfl
                apply exP.mk
                refine Z ?_
                exact rfl
                apply exP.mk
                exact rfl
                apply exP.mk
                exact rfl
                apply exP.mk
                iterate 2 refine Z ?_
                refine jkm (by omega) ?_
                exact rfl
                apply exP.mk
                refine gm (by omega) ?_
                exact rfl
                refine callW.mk [] 8 _ _ _ (hq) rfl rfl okk nofun ?_; refine Z ?_
                apply exP.mk
                refine Z ?_
                exact rfl
                iterate 5 refine Z ?_
                refine nw (by omega) (by omega) ?_; rotate_left; refine hR2 ((i + 1, srt e1.1 (l2 ++ [(axm e1.1 e4.1 (srtD e1.1 A))[i]]))) _ _ ?_ ?_; rotate_left; refine weak.mk [] [0, 1, 2, 3, 4, 8, 6, 7] rfl rfl ?_ ?_
                repeat' first | exact trivial | exact rfl | exact Iff.rfl | assumption | exact pureI | exact (show _ = _ by omega) | exact (show _ ≤ _ by omega) | exact (show _ < _ by omega) | exact (show ¬ _ by omega) | refine And.intro ?_ ?_
                rotate_right
                exact ⟨⟨put_crowd hc2 hin h6 hm, by omega⟩, by show _ - (i + 1) < _ - i; omega⟩
            · refine Z ?_
              refine lm ?_; refine tY oky ?_; refine Z ?_; refine lm ?_; refine tN okn ?_; refine callW.mkE [] [0] 8 _ _ _ _ (pick_c _ oka _ _ oka oka _) rfl rfl okk (fun _ => ⟨rfl, rfl⟩) (fun _ _ => ?_); refine twoP.mk (fun _ => ?_) (fun _ => ?_); iterate 8 refine Z ?_
              refine callW.mkE [] [0, 8] 9 _ _ _ _ (among_c _ oka _ _ oka oka _ oka oka) rfl rfl okk (fun _ => ⟨rfl, rfl⟩) (fun _ _ => ?_); iterate 9 refine Z ?_
              rotate_left; refine twoP.mk (fun _ => ?_) (fun _ => ?_)
              refine drawP.mkS (Z (Z ?_)); refine Z ?_
              apply exP.mk
              refine Z ?_
              exact rfl
              apply exP.mk
              exact rfl
              apply exP.mk
              exact rfl
              iterate 9 refine Z ?_
              refine And.intro ?_ ?_; refine Z ?_
              exact rfl
              iterate 2 refine Z ?_
              refine callW.mkE [] [0, 8] 9 _ _ _ _ (among_c _ oka _ _ oka oka _ oka oka) rfl rfl okk (fun _ => ⟨rfl, rfl⟩) (fun _ _ => ?_); refine Z ?_; refine And.intro ?_ ?_; refine Z ?_
              exact rfl
              iterate 7 refine Z ?_
              refine And.intro ?_ ?_; refine Z ?_
              exact rfl
              iterate 6 refine Z ?_
              refine lem1 (by omega) ?_; refine ea ?_; refine Z ?_
              apply exP.mk
              refine Z ?_
              exact rfl
              iterate 9 refine Z ?_
              rotate_left; refine twoP.mk (fun _ => ?_) (fun _ => ?_)
              iterate 11 refine Z ?_
              rotate_left; refine twoP.mk (fun _ => ?_) (fun _ => ?_)
              iterate 26 refine Z ?_
              rotate_left; iterate 4 refine Z ?_
              rotate_left
              · rename_i f hf c0 g hg
                have hgb := memI (l := [2, 13, 0, -1]) hg.1
                simp only [List.mem_cons, List.not_mem_nil, or_false] at hgb
                refine doneE.mk (((g.1, l2), g.2.1, g.2.2)) ?_ ?_; rotate_left
                focus
                  refine doneV.mk [] [0, 5] rfl rfl ?_ ?_ ?_
                  repeat' first | exact trivial | exact rfl | exact Iff.rfl | assumption | exact pureI | exact (show _ = _ by omega) | exact (show _ ≤ _ by omega) | exact (show _ < _ by omega) | exact (show ¬ _ by omega) | refine And.intro ?_ ?_
                rotate_right
                all_goals (first | (dsimp only; skip; refine ⟨⟨?_, ?_, ?_⟩, ?_, ?_⟩ <;> omega) | skip)
              · rename_i f hf c0 c1 g hg
                refine doneE.mk (((e1.1, l2 ++ [g.1]), g.2.1, g.2.2)) ?_ ?_; rotate_left
                focus
                  refine doneV.mk [] [0, 10] rfl rfl ?_ ?_ ?_
                  repeat' first | exact trivial | exact rfl | exact Iff.rfl | assumption | exact pureI | exact (show _ = _ by omega) | exact (show _ ≤ _ by omega) | exact (show _ < _ by omega) | exact (show ¬ _ by omega) | refine And.intro ?_ ?_
                rotate_right
                all_goals (first | (dsimp only; skip; rw [List.length_append, List.length_singleton]; refine ⟨⟨?_, ?_, ?_⟩, ?_, ?_⟩ <;> omega) | skip)
              · rename_i f hf c0 c1 c2
                refine doneE.mk (((e1.1, []), f.2.1, f.2.2)) ?_ ?_; rotate_left
                focus
                  refine doneV.mk [1] [0, 8] rfl rfl ?_ ?_ ?_
                  repeat' first | exact trivial | exact rfl | exact Iff.rfl | assumption | exact pureI | exact (show _ = _ by omega) | exact (show _ ≤ _ by omega) | exact (show _ < _ by omega) | exact (show ¬ _ by omega) | refine And.intro ?_ ?_
                rotate_right
                all_goals (first | (dsimp only; skip; refine ⟨⟨by decide, ?_, ?_⟩, ?_, ?_⟩ <;> omega) | skip)
              · rename_i f hf c0 c1 c2 c3
                refine doneE.mk (((12, [0, 1, 2, 3, 5, 7, 8]), f.2.1, f.2.2)) ?_ ?_; rotate_left
                focus
                  refine doneV.mk [] [0, 8] rfl rfl ?_ ?_ ?_
                  repeat' first | exact trivial | exact rfl | exact Iff.rfl | assumption | exact pureI | exact (show _ = _ by omega) | exact (show _ ≤ _ by omega) | exact (show _ < _ by omega) | exact (show ¬ _ by omega) | refine And.intro ?_ ?_
                rotate_right
                all_goals (first | (dsimp only; skip; refine ⟨⟨by decide, ?_, ?_⟩, ?_, ?_⟩ <;> omega) | skip)
              · rename_i f hf c0 c1 c2 c3
                refine doneE.mk (((e1.1, l2), f.2.1, f.2.2)) ?_ ?_; rotate_left
                focus
                  refine doneV.mk [] [0, 5] rfl rfl ?_ ?_ ?_
                  repeat' first | exact trivial | exact rfl | exact Iff.rfl | assumption | exact pureI | exact (show _ = _ by omega) | exact (show _ ≤ _ by omega) | exact (show _ < _ by omega) | exact (show ¬ _ by omega) | refine And.intro ?_ ?_
                rotate_right
                all_goals (first | (dsimp only; skip; refine ⟨⟨?_, ?_, ?_⟩, ?_, ?_⟩ <;> omega) | skip)
          · refine Z ?_
            refine lm ?_; refine tN okn ?_; refine callW.mkE [] [0] 8 _ _ _ _ (pick_c _ oka _ _ oka oka _) rfl rfl okk (fun _ => ⟨rfl, rfl⟩) (fun _ _ => ?_); refine twoP.mk (fun _ => ?_) (fun _ => ?_); iterate 8 refine Z ?_
            refine callW.mkE [] [0, 8] 9 _ _ _ _ (among_c _ oka _ _ oka oka _ oka oka) rfl rfl okk (fun _ => ⟨rfl, rfl⟩) (fun _ _ => ?_); iterate 9 refine Z ?_
            rotate_left; refine twoP.mk (fun _ => ?_) (fun _ => ?_)
            refine drawP.mkS (Z (Z ?_)); refine Z ?_
            apply exP.mk
            refine Z ?_
            exact rfl
            apply exP.mk
            exact rfl
            apply exP.mk
            exact rfl
            iterate 9 refine Z ?_
            refine And.intro ?_ ?_; refine Z ?_
            exact rfl
            iterate 2 refine Z ?_
            refine callW.mkE [] [0, 8] 9 _ _ _ _ (among_c _ oka _ _ oka oka _ oka oka) rfl rfl okk (fun _ => ⟨rfl, rfl⟩) (fun _ _ => ?_); refine Z ?_; refine And.intro ?_ ?_; refine Z ?_
            exact rfl
            iterate 7 refine Z ?_
            refine And.intro ?_ ?_; refine Z ?_
            exact rfl
            iterate 6 refine Z ?_
            refine lem1 (by omega) ?_; refine ea ?_; refine Z ?_
            apply exP.mk
            refine Z ?_
            exact rfl
            iterate 9 refine Z ?_
            rotate_left; refine twoP.mk (fun _ => ?_) (fun _ => ?_)
            iterate 11 refine Z ?_
            rotate_left; refine twoP.mk (fun _ => ?_) (fun _ => ?_)
            iterate 26 refine Z ?_
            rotate_left; iterate 4 refine Z ?_
            rotate_left
            · rename_i f hf c0 g hg
              have hgb := memI (l := [2, 13, 0, -1]) hg.1
              simp only [List.mem_cons, List.not_mem_nil, or_false] at hgb
              refine doneE.mk (((g.1, l2), g.2.1, g.2.2)) ?_ ?_; rotate_left
              focus
                refine doneV.mk [] [0, 5] rfl rfl ?_ ?_ ?_
                repeat' first | exact trivial | exact rfl | exact Iff.rfl | assumption | exact pureI | exact (show _ = _ by omega) | exact (show _ ≤ _ by omega) | exact (show _ < _ by omega) | exact (show ¬ _ by omega) | refine And.intro ?_ ?_
              rotate_right
              all_goals (first | (dsimp only; skip; refine ⟨⟨?_, ?_, ?_⟩, ?_, ?_⟩ <;> omega) | skip)
            · rename_i f hf c0 c1 g hg
              refine doneE.mk (((e1.1, l2 ++ [g.1]), g.2.1, g.2.2)) ?_ ?_; rotate_left
              focus
                refine doneV.mk [] [0, 10] rfl rfl ?_ ?_ ?_
                repeat' first | exact trivial | exact rfl | exact Iff.rfl | assumption | exact pureI | exact (show _ = _ by omega) | exact (show _ ≤ _ by omega) | exact (show _ < _ by omega) | exact (show ¬ _ by omega) | refine And.intro ?_ ?_
              rotate_right
              all_goals (first | (dsimp only; skip; rw [List.length_append, List.length_singleton]; refine ⟨⟨?_, ?_, ?_⟩, ?_, ?_⟩ <;> omega) | skip)
            · rename_i f hf c0 c1 c2
              refine doneE.mk (((e1.1, []), f.2.1, f.2.2)) ?_ ?_; rotate_left
              focus
                refine doneV.mk [1] [0, 8] rfl rfl ?_ ?_ ?_
                repeat' first | exact trivial | exact rfl | exact Iff.rfl | assumption | exact pureI | exact (show _ = _ by omega) | exact (show _ ≤ _ by omega) | exact (show _ < _ by omega) | exact (show ¬ _ by omega) | refine And.intro ?_ ?_
              rotate_right
              all_goals (first | (dsimp only; skip; refine ⟨⟨by decide, ?_, ?_⟩, ?_, ?_⟩ <;> omega) | skip)
            · rename_i f hf c0 c1 c2 c3
              refine doneE.mk (((12, [0, 1, 2, 3, 5, 7, 8]), f.2.1, f.2.2)) ?_ ?_; rotate_left
              focus
                refine doneV.mk [] [0, 8] rfl rfl ?_ ?_ ?_
                repeat' first | exact trivial | exact rfl | exact Iff.rfl | assumption | exact pureI | exact (show _ = _ by omega) | exact (show _ ≤ _ by omega) | exact (show _ < _ by omega) | exact (show ¬ _ by omega) | refine And.intro ?_ ?_
              rotate_right
              all_goals (first | (dsimp only; skip; refine ⟨⟨by decide, ?_, ?_⟩, ?_, ?_⟩ <;> omega) | skip)
            · rename_i f hf c0 c1 c2 c3
              refine doneE.mk (((e1.1, l2), f.2.1, f.2.2)) ?_ ?_; rotate_left
              focus
                refine doneV.mk [] [0, 5] rfl rfl ?_ ?_ ?_
                repeat' first | exact trivial | exact rfl | exact Iff.rfl | assumption | exact pureI | exact (show _ = _ by omega) | exact (show _ ≤ _ by omega) | exact (show _ < _ by omega) | exact (show ¬ _ by omega) | refine And.intro ?_ ?_
              rotate_right
              all_goals (first | (dsimp only; skip; refine ⟨⟨?_, ?_, ?_⟩, ?_, ?_⟩ <;> omega) | skip)
      · rename_i e3 h3 c3 c4 e4 h4
        have htc := axm_crowd (x := e4.1) hc
        refine loop_up (β := Nat × List Int) (fun (i, l2) => [(8, i64 i), (66, .unk)]) (fun (i, l2) => [(3, .row .var 2 [.agg [i64 e1.1, .loc 5]]), (5, row l2)]) [] (fun (i, l2) => crowd e1.1 l2 ∧ i ≤ (axm e1.1 e4.1 (srtD e1.1 A)).length) (fun (i, l2) => (axm e1.1 e4.1 (srtD e1.1 A)).length - i) ((0, srtD e1.1 A)) ?_ ?_ ?_
        · exact ⟨hc, Nat.zero_le _⟩
        · refine weak.mk [] [0, 1, 2, 3, 4, 5, 6, 7] rfl rfl ?_ ?_
          repeat' first | exact trivial | exact rfl | exact Iff.rfl | assumption | exact pureI | exact (show _ = _ by omega) | exact (show _ ≤ _ by omega) | exact (show _ < _ by omega) | exact (show ¬ _ by omega) | refine And.intro ?_ ?_
        · rintro ⟨i, l2⟩ ⟨hc2, hi2⟩ R2 hR2
          have hl2 := hc2.1.2
          by_cases hil : i < (axm e1.1 e4.1 (srtD e1.1 A)).length
          · have hin := htc.1.2.1 _ (List.getElem_mem hil)
            by_cases h6 : l2.length < 6
            · by_cases hm : (axm e1.1 e4.1 (srtD e1.1 A))[i] ∈ l2
              · have hq := putC_old e1.1 l2 (axm e1.1 e4.1 (srtD e1.1 A))[i] hc2 hm
                refine Z ?_; refine lm ?_; refine tY oky ?_; refine Z ?_; refine lm ?_; refine tY oky ?_; refine drawP.mkS (Z (Z ?_)); refine Z ?_
                apply exP.mk
                refine Z ?_
                exact rfl
                apply exP.mk
                exact rfl
                apply exP.mk
                refine Z ?_
                exact rfl
                apply exP.mk
                exact rfl
                apply exP.mk
                exact rfl
                apply exP.mk
                iterate 2 refine Z ?_
                refine jkm (by omega) ?_
                exact rfl
                apply exP.mk
                refine gm (by omega) ?_
                exact rfl
                refine callW.mk [5] 8 _ _ _ (hq) rfl rfl okk nofun ?_; refine Z ?_
                apply exP.mk
                refine Z ?_
                exact rfl
                iterate 5 refine Z ?_
                refine nw (by omega) (by omega) ?_; rotate_left; refine hR2 ((i + 1, l2)) _ _ ?_ ?_; rotate_left; refine weak.mk [] [0, 1, 2, 3, 4, 5, 6, 7] rfl rfl ?_ ?_
                repeat' first | exact trivial | exact rfl | exact Iff.rfl | assumption | exact pureI | exact (show _ = _ by omega) | exact (show _ ≤ _ by omega) | exact (show _ < _ by omega) | exact (show ¬ _ by omega) | refine And.intro ?_ ?_
                rotate_right
                exact ⟨⟨hc2, by omega⟩, by show _ - (i + 1) < _ - i; omega⟩
              · have hq := putC_new e1.1 l2 (axm e1.1 e4.1 (srtD e1.1 A))[i] hc2 hin hm
                refine Z ?_; refine lm ?_; refine tY oky ?_; refine Z ?_; refine lm ?_; refine tY oky ?_; refine drawP.mkS (Z (Z ?_)); refine Z ?_
                apply exP.mk
                refine Z ?_
                exact rfl
                apply exP.mk
                exact rfl
                apply exP.mk
                refine Z ?_
                exact rfl
                apply exP.mk
                exact rfl
                apply exP.mk
                exact rfl
                apply exP.mk
                iterate 2 refine Z ?_
                refine jkm (by omega) ?_
                exact rfl
                apply exP.mk
                refine gm (by omega) ?_
                exact rfl
                refine callW.mk [] 8 _ _ _ (hq) rfl rfl okk nofun ?_; refine Z ?_
                apply exP.mk
                refine Z ?_
                exact rfl
                iterate 5 refine Z ?_
                refine nw (by omega) (by omega) ?_; rotate_left; refine hR2 ((i + 1, srt e1.1 (l2 ++ [(axm e1.1 e4.1 (srtD e1.1 A))[i]]))) _ _ ?_ ?_; rotate_left; refine weak.mk [] [0, 1, 2, 3, 4, 8, 6, 7] rfl rfl ?_ ?_
                repeat' first | exact trivial | exact rfl | exact Iff.rfl | assumption | exact pureI | exact (show _ = _ by omega) | exact (show _ ≤ _ by omega) | exact (show _ < _ by omega) | exact (show ¬ _ by omega) | refine And.intro ?_ ?_
                rotate_right
                exact ⟨⟨put_crowd hc2 hin h6 hm, by omega⟩, by show _ - (i + 1) < _ - i; omega⟩
            · refine Z ?_
              refine lm ?_; refine tY oky ?_; refine Z ?_; refine lm ?_; refine tN okn ?_; refine callW.mkE [] [0] 8 _ _ _ _ (pick_c _ oka _ _ oka oka _) rfl rfl okk (fun _ => ⟨rfl, rfl⟩) (fun _ _ => ?_); refine twoP.mk (fun _ => ?_) (fun _ => ?_); iterate 8 refine Z ?_
              refine callW.mkE [] [0, 8] 9 _ _ _ _ (among_c _ oka _ _ oka oka _ oka oka) rfl rfl okk (fun _ => ⟨rfl, rfl⟩) (fun _ _ => ?_); iterate 9 refine Z ?_
              rotate_left; refine twoP.mk (fun _ => ?_) (fun _ => ?_)
              refine drawP.mkS (Z (Z ?_)); refine Z ?_
              apply exP.mk
              refine Z ?_
              exact rfl
              apply exP.mk
              exact rfl
              apply exP.mk
              exact rfl
              iterate 9 refine Z ?_
              refine And.intro ?_ ?_; refine Z ?_
              exact rfl
              iterate 2 refine Z ?_
              refine callW.mkE [] [0, 8] 9 _ _ _ _ (among_c _ oka _ _ oka oka _ oka oka) rfl rfl okk (fun _ => ⟨rfl, rfl⟩) (fun _ _ => ?_); refine Z ?_; refine And.intro ?_ ?_; refine Z ?_
              exact rfl
              iterate 7 refine Z ?_
              refine And.intro ?_ ?_; refine Z ?_
              exact rfl
              iterate 6 refine Z ?_
              refine lem1 (by omega) ?_; refine ea ?_; refine Z ?_
              apply exP.mk
              refine Z ?_
              exact rfl
              iterate 9 refine Z ?_
              rotate_left; refine twoP.mk (fun _ => ?_) (fun _ => ?_)
              iterate 11 refine Z ?_
              rotate_left; refine twoP.mk (fun _ => ?_) (fun _ => ?_)
              iterate 26 refine Z ?_
              rotate_left; iterate 4 refine Z ?_
              rotate_left
              · rename_i f hf c0 g hg
                have hgb := memI (l := [2, 13, 0, -1]) hg.1
                simp only [List.mem_cons, List.not_mem_nil, or_false] at hgb
                refine doneE.mk (((g.1, l2), g.2.1, g.2.2)) ?_ ?_; rotate_left
                focus
                  refine doneV.mk [] [0, 5] rfl rfl ?_ ?_ ?_
                  repeat' first | exact trivial | exact rfl | exact Iff.rfl | assumption | exact pureI | exact (show _ = _ by omega) | exact (show _ ≤ _ by omega) | exact (show _ < _ by omega) | exact (show ¬ _ by omega) | refine And.intro ?_ ?_
                rotate_right
                all_goals (first | (dsimp only; skip; refine ⟨⟨?_, ?_, ?_⟩, ?_, ?_⟩ <;> omega) | skip)
              · rename_i f hf c0 c1 g hg
                refine doneE.mk (((e1.1, l2 ++ [g.1]), g.2.1, g.2.2)) ?_ ?_; rotate_left
                focus
                  refine doneV.mk [] [0, 10] rfl rfl ?_ ?_ ?_
                  repeat' first | exact trivial | exact rfl | exact Iff.rfl | assumption | exact pureI | exact (show _ = _ by omega) | exact (show _ ≤ _ by omega) | exact (show _ < _ by omega) | exact (show ¬ _ by omega) | refine And.intro ?_ ?_
                rotate_right
                all_goals (first | (dsimp only; skip; rw [List.length_append, List.length_singleton]; refine ⟨⟨?_, ?_, ?_⟩, ?_, ?_⟩ <;> omega) | skip)
              · rename_i f hf c0 c1 c2
                refine doneE.mk (((e1.1, []), f.2.1, f.2.2)) ?_ ?_; rotate_left
                focus
                  refine doneV.mk [1] [0, 8] rfl rfl ?_ ?_ ?_
                  repeat' first | exact trivial | exact rfl | exact Iff.rfl | assumption | exact pureI | exact (show _ = _ by omega) | exact (show _ ≤ _ by omega) | exact (show _ < _ by omega) | exact (show ¬ _ by omega) | refine And.intro ?_ ?_
                rotate_right
                all_goals (first | (dsimp only; skip; refine ⟨⟨by decide, ?_, ?_⟩, ?_, ?_⟩ <;> omega) | skip)
              · rename_i f hf c0 c1 c2 c3
                refine doneE.mk (((12, [0, 1, 2, 3, 5, 7, 8]), f.2.1, f.2.2)) ?_ ?_; rotate_left
                focus
                  refine doneV.mk [] [0, 8] rfl rfl ?_ ?_ ?_
                  repeat' first | exact trivial | exact rfl | exact Iff.rfl | assumption | exact pureI | exact (show _ = _ by omega) | exact (show _ ≤ _ by omega) | exact (show _ < _ by omega) | exact (show ¬ _ by omega) | refine And.intro ?_ ?_
                rotate_right
                all_goals (first | (dsimp only; skip; refine ⟨⟨by decide, ?_, ?_⟩, ?_, ?_⟩ <;> omega) | skip)
              · rename_i f hf c0 c1 c2 c3
                refine doneE.mk (((e1.1, l2), f.2.1, f.2.2)) ?_ ?_; rotate_left
                focus
                  refine doneV.mk [] [0, 5] rfl rfl ?_ ?_ ?_
                  repeat' first | exact trivial | exact rfl | exact Iff.rfl | assumption | exact pureI | exact (show _ = _ by omega) | exact (show _ ≤ _ by omega) | exact (show _ < _ by omega) | exact (show ¬ _ by omega) | refine And.intro ?_ ?_
                rotate_right
                all_goals (first | (dsimp only; skip; refine ⟨⟨?_, ?_, ?_⟩, ?_, ?_⟩ <;> omega) | skip)
          · refine Z ?_
            refine lm ?_; refine tN okn ?_; refine callW.mkE [] [0] 8 _ _ _ _ (pick_c _ oka _ _ oka oka _) rfl rfl okk (fun _ => ⟨rfl, rfl⟩) (fun _ _ => ?_); refine twoP.mk (fun _ => ?_) (fun _ => ?_); iterate 8 refine Z ?_
            refine callW.mkE [] [0, 8] 9 _ _ _ _ (among_c _ oka _ _ oka oka _ oka oka) rfl rfl okk (fun _ => ⟨rfl, rfl⟩) (fun _ _ => ?_); iterate 9 refine Z ?_
            rotate_left; refine twoP.mk (fun _ => ?_) (fun _ => ?_)
            refine drawP.mkS (Z (Z ?_)); refine Z ?_
            apply exP.mk
            refine Z ?_
            exact rfl
            apply exP.mk
            exact rfl
            apply exP.mk
            exact rfl
            iterate 9 refine Z ?_
            refine And.intro ?_ ?_; refine Z ?_
            exact rfl
            iterate 2 refine Z ?_
            refine callW.mkE [] [0, 8] 9 _ _ _ _ (among_c _ oka _ _ oka oka _ oka oka) rfl rfl okk (fun _ => ⟨rfl, rfl⟩) (fun _ _ => ?_); refine Z ?_; refine And.intro ?_ ?_; refine Z ?_
            exact rfl
            iterate 7 refine Z ?_
            refine And.intro ?_ ?_; refine Z ?_
            exact rfl
            iterate 6 refine Z ?_
            refine lem1 (by omega) ?_; refine ea ?_; refine Z ?_
            apply exP.mk
            refine Z ?_
            exact rfl
            iterate 9 refine Z ?_
            rotate_left; refine twoP.mk (fun _ => ?_) (fun _ => ?_)
            iterate 11 refine Z ?_
            rotate_left; refine twoP.mk (fun _ => ?_) (fun _ => ?_)
            iterate 26 refine Z ?_
            rotate_left; iterate 4 refine Z ?_
            rotate_left
            · rename_i f hf c0 g hg
              have hgb := memI (l := [2, 13, 0, -1]) hg.1
              simp only [List.mem_cons, List.not_mem_nil, or_false] at hgb
              refine doneE.mk (((g.1, l2), g.2.1, g.2.2)) ?_ ?_; rotate_left
              focus
                refine doneV.mk [] [0, 5] rfl rfl ?_ ?_ ?_
                repeat' first | exact trivial | exact rfl | exact Iff.rfl | assumption | exact pureI | exact (show _ = _ by omega) | exact (show _ ≤ _ by omega) | exact (show _ < _ by omega) | exact (show ¬ _ by omega) | refine And.intro ?_ ?_
              rotate_right
              all_goals (first | (dsimp only; skip; refine ⟨⟨?_, ?_, ?_⟩, ?_, ?_⟩ <;> omega) | skip)
            · rename_i f hf c0 c1 g hg
              refine doneE.mk (((e1.1, l2 ++ [g.1]), g.2.1, g.2.2)) ?_ ?_; rotate_left
              focus
                refine doneV.mk [] [0, 10] rfl rfl ?_ ?_ ?_
                repeat' first | exact trivial | exact rfl | exact Iff.rfl | assumption | exact pureI | exact (show _ = _ by omega) | exact (show _ ≤ _ by omega) | exact (show _ < _ by omega) | exact (show ¬ _ by omega) | refine And.intro ?_ ?_
              rotate_right
              all_goals (first | (dsimp only; skip; rw [List.length_append, List.length_singleton]; refine ⟨⟨?_, ?_, ?_⟩, ?_, ?_⟩ <;> omega) | skip)
            · rename_i f hf c0 c1 c2
              refine doneE.mk (((e1.1, []), f.2.1, f.2.2)) ?_ ?_; rotate_left
              focus
                refine doneV.mk [1] [0, 8] rfl rfl ?_ ?_ ?_
                repeat' first | exact trivial | exact rfl | exact Iff.rfl | assumption | exact pureI | exact (show _ = _ by omega) | exact (show _ ≤ _ by omega) | exact (show _ < _ by omega) | exact (show ¬ _ by omega) | refine And.intro ?_ ?_
              rotate_right
              all_goals (first | (dsimp only; skip; refine ⟨⟨by decide, ?_, ?_⟩, ?_, ?_⟩ <;> omega) | skip)
            · rename_i f hf c0 c1 c2 c3
              refine doneE.mk (((12, [0, 1, 2, 3, 5, 7, 8]), f.2.1, f.2.2)) ?_ ?_; rotate_left
              focus
                refine doneV.mk [] [0, 8] rfl rfl ?_ ?_ ?_
                repeat' first | exact trivial | exact rfl | exact Iff.rfl | assumption | exact pureI | exact (show _ = _ by omega) | exact (show _ ≤ _ by omega) | exact (show _ < _ by omega) | exact (show ¬ _ by omega) | refine And.intro ?_ ?_
              rotate_right
              all_goals (first | (dsimp only; skip; refine ⟨⟨by decide, ?_, ?_⟩, ?_, ?_⟩ <;> omega) | skip)
            · rename_i f hf c0 c1 c2 c3
              refine doneE.mk (((e1.1, l2), f.2.1, f.2.2)) ?_ ?_; rotate_left
              focus
                refine doneV.mk [] [0, 5] rfl rfl ?_ ?_ ?_
                repeat' first | exact trivial | exact rfl | exact Iff.rfl | assumption | exact pureI | exact (show _ = _ by omega) | exact (show _ ≤ _ by omega) | exact (show _ < _ by omega) | exact (show ¬ _ by omega) | refine And.intro ?_ ?_
              rotate_right
              all_goals (first | (dsimp only; skip; refine ⟨⟨?_, ?_, ?_⟩, ?_, ?_⟩ <;> omega) | skip)
      · rename_i f hf c0 g hg
        have hgb := memI (l := [2, 13, 0, -1]) hg.1
        simp only [List.mem_cons, List.not_mem_nil, or_false] at hgb
        refine doneE.mk (((g.1, srtD e1.1 A), g.2.1, g.2.2)) ?_ ?_; rotate_left
        focus
          refine doneV.mk [] [0, 5] rfl rfl ?_ ?_ ?_
          repeat' first | exact trivial | exact rfl | exact Iff.rfl | assumption | exact pureI | exact (show _ = _ by omega) | exact (show _ ≤ _ by omega) | exact (show _ < _ by omega) | exact (show ¬ _ by omega) | refine And.intro ?_ ?_
        rotate_right
        all_goals (first | (dsimp only; skip; refine ⟨⟨?_, ?_, ?_⟩, ?_, ?_⟩ <;> omega) | skip)
      · rename_i f hf c0 c1 g hg
        refine doneE.mk (((e1.1, srtD e1.1 A ++ [g.1]), g.2.1, g.2.2)) ?_ ?_; rotate_left
        focus
          refine doneV.mk [] [0, 8] rfl rfl ?_ ?_ ?_
          repeat' first | exact trivial | exact rfl | exact Iff.rfl | assumption | exact pureI | exact (show _ = _ by omega) | exact (show _ ≤ _ by omega) | exact (show _ < _ by omega) | exact (show ¬ _ by omega) | refine And.intro ?_ ?_
        rotate_right
        all_goals (first | (dsimp only; skip; rw [List.length_append, List.length_singleton]; refine ⟨⟨?_, ?_, ?_⟩, ?_, ?_⟩ <;> omega) | skip)
      · rename_i f hf c0 c1 c2
        refine doneE.mk (((e1.1, []), f.2.1, f.2.2)) ?_ ?_; rotate_left
        focus
          refine doneV.mk [1] [0, 6] rfl rfl ?_ ?_ ?_
          repeat' first | exact trivial | exact rfl | exact Iff.rfl | assumption | exact pureI | exact (show _ = _ by omega) | exact (show _ ≤ _ by omega) | exact (show _ < _ by omega) | exact (show ¬ _ by omega) | refine And.intro ?_ ?_
        rotate_right
        all_goals (first | (dsimp only; skip; refine ⟨⟨by decide, ?_, ?_⟩, ?_, ?_⟩ <;> omega) | skip)
      · rename_i f hf c0 c1 c2 c3
        refine doneE.mk (((12, [0, 1, 2, 3, 5, 7, 8]), f.2.1, f.2.2)) ?_ ?_; rotate_left
        focus
          refine doneV.mk [] [0, 6] rfl rfl ?_ ?_ ?_
          repeat' first | exact trivial | exact rfl | exact Iff.rfl | assumption | exact pureI | exact (show _ = _ by omega) | exact (show _ ≤ _ by omega) | exact (show _ < _ by omega) | exact (show ¬ _ by omega) | refine And.intro ?_ ?_
        rotate_right
        all_goals (first | (dsimp only; skip; refine ⟨⟨by decide, ?_, ?_⟩, ?_, ?_⟩ <;> omega) | skip)
      · rename_i f hf c0 c1 c2 c3
        refine doneE.mk (((e1.1, srtD e1.1 A), f.2.1, f.2.2)) ?_ ?_; rotate_left
        focus
          refine doneV.mk [] [0, 5] rfl rfl ?_ ?_ ?_
          repeat' first | exact trivial | exact rfl | exact Iff.rfl | assumption | exact pureI | exact (show _ = _ by omega) | exact (show _ ≤ _ by omega) | exact (show _ < _ by omega) | exact (show ¬ _ by omega) | refine And.intro ?_ ?_
        rotate_right
        all_goals (first | (dsimp only; skip; refine ⟨⟨?_, ?_, ?_⟩, ?_, ?_⟩ <;> omega) | skip)
end Sx
