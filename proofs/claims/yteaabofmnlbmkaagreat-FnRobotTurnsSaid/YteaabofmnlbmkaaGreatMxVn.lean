/- Plain words: a turn by a rule of turned and mirrored crowds. -/
import Derived.Test.YteaabofmnlbmkaaGreatMxVg
import Derived.Test.YteaabofmnlbmkaaGreatMxVi
import Derived.Test.YteaabofmnlbmkaaGreatMxVj
import Derived.Test.YteaabofmnlbmkaaGreatMxVf
import Derived.Test.YteaabofmnlbmkaaGreatMxA
set_option linter.all false
namespace Sx
theorem turn12 : turnAll 12 = true := allC_all turn12b turn12a
theorem factT_of {n : Int} {l : List Int} (hc : crowd n l) : factT n.toNat l = true := by
  have hm := crowd_all hc
  have hn := hc.1.1
  have key : turnAll n.toNat = true := by
    rcases n_cases hn with h | h | h | h | h | h | h | h | h | h <;> subst h
    · exact turn3
    · exact turn4
    · exact turn5
    · exact turn6
    · exact turn7
    · exact turn8
    · exact turn9
    · exact turn10
    · exact turn11
    · exact turn12
  exact List.all_eq_true.1 key l hm
/-- A crowd goes over to another one by a map of places, with the same views, and with ways times e. -/
structure Cov (n : Int) (l l' : List Int) (F : Int → Int) (e : Int) : Prop where
  len : l'.length = l.length
  img : l' = srt n (l.map F)
  rng : ∀ x, 0 ≤ x ∧ x < n → 0 ≤ F x ∧ F x < n
  inj : ∀ x y, 0 ≤ x ∧ x < n → 0 ≤ y ∧ y < n → F x = F y → x = y
  mov : ∀ x w, 0 ≤ x ∧ x < n → -1 ≤ w ∧ w ≤ 1 → (F x + e * w + n) % n = F ((x + w + n) % n)
  rob : ∀ i, i < l.length → ∃ j, j < l'.length ∧ l'.getD j 0 = F (l.getD i 0) ∧ viewL n l' j = viewL n l i ∧ wayL n l' j = e * wayL n l i
theorem cov_trn {n : Int} {l : List Int} (hc : crowd n l) : Cov n l (trn n 1 l) (trF n 1) 1 := by
  have hn := hc.1.1
  have hnn : ((n.toNat : Nat) : Int) = n := Int.toNat_of_nonneg (by omega)
  have hf := factT_of hc
  unfold factT at hf
  rw [hnn] at hf
  refine ⟨(trn_crowd hc).2, rfl, fun x hx => ?_, fun x y hx hy e => ?_, fun x w hx hw => ?_, fun i hi => ?_⟩
  · unfold trF; exact ⟨Int.emod_nonneg _ (by omega), Int.emod_lt_of_pos _ (by omega)⟩
  · unfold trF at e
    rcases n_cases hn with h | h | h | h | h | h | h | h | h | h <;> subst h <;> omega
  · unfold trF
    rcases n_cases hn with h | h | h | h | h | h | h | h | h | h <;> subst h <;> omega
  · have h := List.all_eq_true.1 hf i (List.mem_range.2 hi)
    simp only [Bool.and_eq_true, beq_iff_eq] at h
    have hm : trF n 1 (l.getD i 0) ∈ trn n 1 l := by
      rw [getI hi]
      have hr := hc.2.1 _ (List.getElem_mem hi)
      exact srt_mem.2 ⟨by unfold trF; exact ⟨Int.emod_nonneg _ (by omega), Int.emod_lt_of_pos _ (by omega)⟩, List.mem_map.2 ⟨_, List.getElem_mem hi, rfl⟩⟩
    have hm : (l.getD i 0 + 1) % n ∈ trn n 1 l := hm
    refine ⟨(trn n 1 l).idxOf ((l.getD i 0 + 1) % n), List.idxOf_lt_length_iff.2 hm, ?_, h.1.1, ?_⟩
    · rw [getI (List.idxOf_lt_length_iff.2 hm)]
      exact List.getElem_idxOf _
    · rw [Int.one_mul]; exact h.1.2
theorem cov_mir {n : Int} {l : List Int} (hc : crowd n l) : Cov n l (mir n l) (miF n) (-1) := by
  have hn := hc.1.1
  have hnn : ((n.toNat : Nat) : Int) = n := Int.toNat_of_nonneg (by omega)
  have hf := factT_of hc
  unfold factT at hf
  rw [hnn] at hf
  refine ⟨(mir_crowd hc).2, rfl, fun x hx => ?_, fun x y hx hy e => ?_, fun x w hx hw => ?_, fun i hi => ?_⟩
  · unfold miF; omega
  · unfold miF at e; omega
  · unfold miF
    rcases n_cases hn with h | h | h | h | h | h | h | h | h | h <;> subst h <;> omega
  · have h := List.all_eq_true.1 hf i (List.mem_range.2 hi)
    simp only [Bool.and_eq_true, beq_iff_eq] at h
    have hm : miF n (l.getD i 0) ∈ mir n l := by
      rw [getI hi]
      have hr := hc.2.1 _ (List.getElem_mem hi)
      exact srt_mem.2 ⟨by unfold miF; omega, List.mem_map.2 ⟨_, List.getElem_mem hi, rfl⟩⟩
    have hm : n - 1 - l.getD i 0 ∈ mir n l := hm
    refine ⟨(mir n l).idxOf (n - 1 - l.getD i 0), List.idxOf_lt_length_iff.2 hm, ?_, h.2.1, ?_⟩
    · rw [getI (List.idxOf_lt_length_iff.2 hm)]
      exact List.getElem_idxOf _
    · rw [Int.neg_mul, Int.one_mul]; exact h.2.2
theorem crowd_get {n : Int} {l : List Int} (hc : crowd n l) {i : Nat} (hi : i < l.length) : 0 ≤ l.getD i 0 ∧ l.getD i 0 < n := by
  rw [getI hi]; exact hc.2.1 _ (List.getElem_mem hi)
theorem crowd_inj {n : Int} {l : List Int} (hc : crowd n l) {i j : Nat} (hi : i < l.length) (hj : j < l.length) (h : l.getD i 0 = l.getD j 0) : i = j := by
  rw [getI hi, getI hj] at h
  have hp := List.pairwise_iff_getElem.1 (rise_pw hc.2.2)
  rcases Nat.lt_trichotomy i j with g | g | g
  · have := hp i j hi hj g; omega
  · exact g
  · have := hp j i hj hi g; omega
/-- Each robot of the other crowd is one of the crowd. -/
theorem cov_back {n : Int} {l l' : List Int} {F : Int → Int} {e : Int} (hc : crowd n l) (hc' : crowd n l') (h : Cov n l l' F e) {j : Nat} (hj : j < l'.length) : ∃ i, i < l.length ∧ l'.getD j 0 = F (l.getD i 0) ∧ viewL n l' j = viewL n l i ∧ wayL n l' j = e * wayL n l i := by
  have hm : l'.getD j 0 ∈ srt n (l.map F) := by rw [getI hj, ← h.img]; exact List.getElem_mem hj
  obtain ⟨x, hx, e1⟩ := List.mem_map.1 (srt_mem.1 hm).2
  obtain ⟨i, hi, rfl⟩ := List.mem_iff_getElem.1 hx
  obtain ⟨k, hk, a1, a2, a3⟩ := h.rob i hi
  have : j = k := crowd_inj hc' hj hk (by rw [a1, getI hi]; exact e1.symm)
  subst this
  exact ⟨i, hi, a1, a2, a3⟩
theorem cov_rankD {n : Int} {l l' : List Int} {F : Int → Int} {e : Int} (hc : crowd n l) (hc' : crowd n l') (h : Cov n l l' F e) : rankD n l' = rankD n l := by
  have h1 := rankD_ok n l
  have h2 := rankD_ok n l'
  refine pwL_eq h2.1 h1.1 fun x => ?_
  rw [h1.2, h2.2]
  constructor
  · rintro ⟨j, hj, rfl⟩
    obtain ⟨i, hi, _, a, _⟩ := cov_back hc hc' h hj
    exact ⟨i, hi, a.symm⟩
  · rintro ⟨i, hi, rfl⟩
    obtain ⟨j, hj, _, a, _⟩ := h.rob i hi
    exact ⟨j, hj, a⟩
theorem cov_rank {n : Int} {l l' : List Int} {F : Int → Int} {e : Int} (hc : crowd n l) (hc' : crowd n l') (h : Cov n l l' F e) {i j : Nat} (hi : i < l.length) (hj : j < l'.length) (hv : viewL n l' j = viewL n l i) : (ranksL n l').getD j 0 = (ranksL n l).getD i 0 := by
  rw [elI_get (by rw [ranksL_len]; exact hj), elI_get (by rw [ranksL_len]; exact hi), ranksL_get, ranksL_get, hv, cov_rankD hc hc' h]
theorem rule_at {r : List Int} (hr : isRule r) (k : Nat) : -1 ≤ r.getD k 0 ∧ r.getD k 0 ≤ 1 := by
  by_cases h : k < r.length
  · rw [elI_get h]; exact hr.2 _ (List.getElem_mem h)
  · rw [List.getD_eq_getElem?_getD, List.getElem?_eq_none (by omega)]; show (-1 : Int) ≤ 0 ∧ (0 : Int) ≤ 1; omega
theorem mul_bd {a b : Int} (ha : -1 ≤ a ∧ a ≤ 1) (hb : -1 ≤ b ∧ b ≤ 1) : -1 ≤ a * b ∧ a * b ≤ 1 := by
  have h : a = -1 ∨ a = 0 ∨ a = 1 := by omega
  rcases h with h | h | h <;> subst h <;> omega
theorem cov_tgt {n : Int} {l l' r : List Int} {F : Int → Int} {e : Int} (hc : crowd n l) (hc' : crowd n l') (hr : isRule r) (h : Cov n l l' F e) {i j : Nat} (hi : i < l.length) (hj : j < l'.length) (hp : l'.getD j 0 = F (l.getD i 0)) (hv : viewL n l' j = viewL n l i) (hw : wayL n l' j = e * wayL n l i) : tgt n l' r j = F (tgt n l r i) := by
  unfold tgt
  rw [cov_rank hc hc' h hi hj hv, hp, hw, Int.mul_assoc]
  exact h.mov _ _ (crowd_get hc hi) (mul_bd (wayL_bd n l i) (rule_at hr _))
theorem cov_next {n : Int} {l l' r : List Int} {F : Int → Int} {e : Int} (hc : crowd n l) (hc' : crowd n l') (hr : isRule r) (h : Cov n l l' F e) : srt n (tgts n l' r l'.length) = srt n ((srt n (tgts n l r l.length)).map F) := by
  have hn := hc.1.1
  refine pw_eq (srt_pw _ _) (srt_pw _ _) fun x => ?_
  rw [srt_mem, srt_mem]
  refine and_congr_right fun _ => ?_
  constructor
  · intro hx
    obtain ⟨j, hj, rfl⟩ := List.mem_map.1 hx
    have hj := List.mem_range.1 hj
    obtain ⟨i, hi, a1, a2, a3⟩ := cov_back hc hc' h hj
    rw [cov_tgt hc hc' hr h hi hj a1 a2 a3]
    exact List.mem_map.2 ⟨_, srt_mem.2 ⟨tgt_in hn.1 l r i, List.mem_map.2 ⟨i, List.mem_range.2 hi, rfl⟩⟩, rfl⟩
  · intro hx
    obtain ⟨y, hy, rfl⟩ := List.mem_map.1 hx
    obtain ⟨i, hi, rfl⟩ := List.mem_map.1 (srt_mem.1 hy).2
    have hi := List.mem_range.1 hi
    obtain ⟨j, hj, a1, a2, a3⟩ := h.rob i hi
    exact List.mem_map.2 ⟨j, List.mem_range.2 hj, cov_tgt hc hc' hr h hi hj a1 a2 a3⟩
theorem bad_sym {T l : List Int} {a b : Nat} : bad T l a b ↔ bad T l b a := by
  unfold bad
  constructor
  · rintro (h | ⟨h1, h2⟩)
    · exact .inl h.symm
    · exact .inr ⟨h2, h1⟩
  · rintro (h | ⟨h1, h2⟩)
    · exact .inl h.symm
    · exact .inr ⟨h2, h1⟩
theorem clr_all {T l : List Int} {k : Nat} : clr T l k ↔ ∀ a b, a < k → b < k → a ≠ b → ¬ bad T l a b := by
  constructor
  · intro h a b ha hb hne
    rcases Nat.lt_or_gt_of_ne hne with g | g
    · exact fun x => h b a g hb (bad_sym.1 x)
    · exact h a b g ha
  · intro h a b hb ha
    exact h a b ha (by omega) (by omega)
theorem cov_bad {n : Int} {l l' r : List Int} {F : Int → Int} {e : Int} (hc : crowd n l) (hc' : crowd n l') (hr : isRule r) (h : Cov n l l' F e) {i j i2 j2 : Nat} (hi : i < l.length) (hj : j < l'.length) (hi2 : i2 < l.length) (hj2 : j2 < l'.length)
    (a : l'.getD j 0 = F (l.getD i 0) ∧ viewL n l' j = viewL n l i ∧ wayL n l' j = e * wayL n l i) (b : l'.getD j2 0 = F (l.getD i2 0) ∧ viewL n l' j2 = viewL n l i2 ∧ wayL n l' j2 = e * wayL n l i2) : bad (tgts n l' r l'.length) l' j j2 ↔ bad (tgts n l r l.length) l i i2 := by
  unfold bad
  have hn := hc.1.1.1
  rw [tgts_get hj, tgts_get hj2, tgts_get hi, tgts_get hi2, cov_tgt hc hc' hr h hi hj a.1 a.2.1 a.2.2, cov_tgt hc hc' hr h hi2 hj2 b.1 b.2.1 b.2.2, a.1, b.1]
  have k1 : F (tgt n l r i) = F (tgt n l r i2) ↔ tgt n l r i = tgt n l r i2 := ⟨h.inj _ _ (tgt_in hn l r i) (tgt_in hn l r i2), fun x => by rw [x]⟩
  have k2 : F (tgt n l r i) = F (l.getD i2 0) ↔ tgt n l r i = l.getD i2 0 := ⟨h.inj _ _ (tgt_in hn l r i) (crowd_get hc hi2), fun x => by rw [x]⟩
  have k3 : F (tgt n l r i2) = F (l.getD i 0) ↔ tgt n l r i2 = l.getD i 0 := ⟨h.inj _ _ (tgt_in hn l r i2) (crowd_get hc hi), fun x => by rw [x]⟩
  rw [k1, k2, k3]
theorem cov_ok {n : Int} {l l' r : List Int} {F : Int → Int} {e : Int} (hc : crowd n l) (hc' : crowd n l') (hr : isRule r) (h : Cov n l l' F e) : stepOk n l' r ↔ stepOk n l r := by
  unfold stepOk
  rw [clr_all, clr_all]
  constructor
  · intro g i i2 hi hi2 hne
    obtain ⟨j, hj, a⟩ := h.rob i hi
    obtain ⟨j2, hj2, b⟩ := h.rob i2 hi2
    have hjj : j ≠ j2 := fun x => hne (crowd_inj hc hi hi2 (h.inj _ _ (crowd_get hc hi) (crowd_get hc hi2) (by rw [← a.1, ← b.1, x])))
    rw [← cov_bad hc hc' hr h hi hj hi2 hj2 a b]
    exact g j j2 hj hj2 hjj
  · intro g j j2 hj hj2 hne
    obtain ⟨i, hi, a⟩ := cov_back hc hc' h hj
    obtain ⟨i2, hi2, b⟩ := cov_back hc hc' h hj2
    have hii : i ≠ i2 := fun x => hne (crowd_inj hc' hj hj2 (by rw [a.1, b.1, x]))
    rw [cov_bad hc hc' hr h hi hj hi2 hj2 a b]
    exact g i i2 hi hi2 hii
theorem step_trn {n : Int} {l r : List Int} (hc : crowd n l) (hr : isRule r) : (stepOk n (trn n 1 l) r ↔ stepOk n l r) ∧ srt n (tgts n (trn n 1 l) r (trn n 1 l).length) = trn n 1 (srt n (tgts n l r l.length)) :=
  ⟨cov_ok hc (trn_crowd hc).1 hr (cov_trn hc), cov_next hc (trn_crowd hc).1 hr (cov_trn hc)⟩
theorem step_mir {n : Int} {l r : List Int} (hc : crowd n l) (hr : isRule r) : (stepOk n (mir n l) r ↔ stepOk n l r) ∧ srt n (tgts n (mir n l) r (mir n l).length) = mir n (srt n (tgts n l r l.length)) :=
  ⟨cov_ok hc (mir_crowd hc).1 hr (cov_mir hc), cov_next hc (mir_crowd hc).1 hr (cov_mir hc)⟩
/-! periods -/
theorem trn_add {n a b : Int} (hn : 0 < n) (l : List Int) : trn n a (trn n b l) = trn n (a + b) l := by
  refine pw_eq (srt_pw _ _) (srt_pw _ _) fun x => ?_
  unfold trn
  rw [srt_mem, srt_mem]
  refine and_congr_right fun _ => ?_
  have hF : ∀ y, trF n a (trF n b y) = trF n (a + b) y := fun y => by
    unfold trF
    rw [Int.emod_add_emod]
    congr 1
    omega
  constructor
  · intro hx
    obtain ⟨y, hy, rfl⟩ := List.mem_map.1 hx
    obtain ⟨z, hz, rfl⟩ := List.mem_map.1 (srt_mem.1 hy).2
    exact List.mem_map.2 ⟨z, hz, (hF z).symm⟩
  · intro hx
    obtain ⟨z, hz, rfl⟩ := List.mem_map.1 hx
    refine List.mem_map.2 ⟨trF n b z, srt_mem.2 ⟨⟨Int.emod_nonneg _ (by omega), Int.emod_lt_of_pos _ hn⟩, List.mem_map.2 ⟨z, hz, rfl⟩⟩, hF z⟩
theorem trn_many {n : Int} {l : List Int} (hc : crowd n l) {q : Int} (h : trn n q l = l) : ∀ k : Nat, trn n (q * k) l = l
  | 0 => by rw [show q * ((0 : Nat) : Int) = 0 by simp]; exact trn_0 hc
  | k + 1 => by
    have ih := trn_many hc h k
    have : q * ((k + 1 : Nat) : Int) = q + q * k := by push_cast; rw [Int.mul_add, Int.mul_one]; omega
    rw [this, ← trn_add (by have := hc.1.1; omega), ih, h]
/-- The period is a number of turns that change nothing, and divides each other one. -/
theorem per_spec {n : Int} {l : List Int} (hc : crowd n l) : ∃ s : Nat, 0 < s ∧ s ≤ 12 ∧ perI n l = (s : Int) ∧ trn n s l = l ∧ ∀ j : Nat, 0 < j → j < s → ¬ trn n j l = l := by
  have hn := hc.1.1
  have hm : ∀ x, x ∈ perC n l ↔ x < 12 ∧ trn n ((x : Int) + 1) l = l := fun x => by
    unfold perC; rw [List.mem_filter, List.mem_range]; simp
  have hp : (perC n l).Pairwise (· < ·) := List.Pairwise.filter _ List.pairwise_lt_range
  obtain ⟨s, t, hst⟩ : ∃ s t, perC n l = s :: t := by
    have : (n.toNat - 1) ∈ perC n l := (hm _).2 ⟨by omega, by rw [show (((n.toNat - 1 : Nat) : Int) + 1) = n by omega]; exact trn_n hc⟩
    cases h : perC n l with
    | nil => rw [h] at this; cases this
    | cons s t => exact ⟨s, t, rfl⟩
  have hs := (hm s).1 (by rw [hst]; exact List.mem_cons_self ..)
  refine ⟨s + 1, by omega, by omega, by rw [perC_head hst]; omega, by rw [show (((s + 1 : Nat)) : Int) = (s : Int) + 1 by omega]; exact hs.2, fun j h0 h1 e => ?_⟩
  have hj : j - 1 ∈ perC n l := (hm _).2 ⟨by omega, by rw [show (((j - 1 : Nat) : Int) + 1) = j by omega]; exact e⟩
  rw [hst] at hj hp
  rw [List.pairwise_cons] at hp
  rcases List.mem_cons.1 hj with h | h
  · omega
  · have := hp.1 _ h; omega
theorem per_dvd {n : Int} {l : List Int} (hc : crowd n l) {p : Nat} (h : trn n p l = l) : (p : Int) % perI n l = 0 := by
  obtain ⟨s, hs, _, he, ht, hmin⟩ := per_spec hc
  have hn := hc.1.1
  rw [he]
  by_cases hr : p % s = 0
  · exact_mod_cast hr
  · exfalso
    have hlt := Nat.mod_lt p hs
    refine hmin (p % s) (by omega) hlt ?_
    have hd : (p : Int) = ((p % s : Nat) : Int) + (s : Int) * ((p / s : Nat) : Int) := by
      have := Nat.mod_add_div p s
      exact_mod_cast this.symm
    rw [hd, ← trn_add (by omega), trn_many hc ht] at h
    exact h
theorem step_trns {n : Int} {l r : List Int} (hc : crowd n l) (hr : isRule r) : ∀ k : Nat, srt n (tgts n (trn n k l) r (trn n k l).length) = trn n k (srt n (tgts n l r l.length)) ∧ (stepOk n (trn n k l) r ↔ stepOk n l r)
  | 0 => by
    have e : trn n ((0 : Nat) : Int) l = l := trn_0 hc
    rw [e]
    refine ⟨?_, Iff.rfl⟩
    have h0 : trn n ((0 : Nat) : Int) (srt n (tgts n l r l.length)) = srt n (tgts n l r l.length) := by
      unfold trn
      have e2 : (srt n (tgts n l r l.length)).map (trF n ((0 : Nat) : Int)) = srt n (tgts n l r l.length) := by
        conv => rhs; rw [← List.map_id (srt n (tgts n l r l.length))]
        refine List.map_congr_left fun a ha => ?_
        have := srt_in n _ a ha
        unfold trF
        rw [show ((0 : Nat) : Int) = 0 from rfl, Int.add_zero, Int.emod_eq_of_lt this.1 this.2]
        rfl
      rw [e2, srt_self (srt_in n _) (srt_pw _ _)]
    exact h0.symm
  | k + 1 => by
    have hn : 0 < n := by have := hc.1.1; omega
    obtain ⟨ih1, ih2⟩ := step_trns hc hr k
    have hk := (trn_crowd (s := k) hc).1
    obtain ⟨h1, h2⟩ := step_trn hk hr
    have e : trn n ((k + 1 : Nat) : Int) l = trn n 1 (trn n k l) := by rw [trn_add hn]; congr 1; omega
    rw [e, h2, ih1, trn_add hn, h1]
    refine ⟨?_, ih2⟩
    congr 1
    omega
/-- A turn keeps what divides the period. -/
theorem step_per {n : Int} {l r : List Int} (hc : crowd n l) (hr : isRule r) (hs : stepOk n l r) : 0 < perI n (srt n (tgts n l r l.length)) ∧ perI n l % perI n (srt n (tgts n l r l.length)) = 0 := by
  obtain ⟨s, h1, _, he, ht, _⟩ := per_spec hc
  have hx := (step_crowd hc hs).1
  obtain ⟨s2, g1, _, ge, _, _⟩ := per_spec hx
  refine ⟨by omega, ?_⟩
  rw [he]
  refine per_dvd hx ?_
  have := (step_trns hc hr s).1
  rw [ht] at this
  exact this.symm
/-- A run that ends ahead of time ends where a turn is not clear. -/
theorem run_ends {n : Int} {l r : List Int} : ∀ t : Nat, runD n l r t < t → ¬ stepOk n (runL n l r t) r
  | 0, h => absurd h (Nat.not_lt_zero _)
  | t + 1, h => by
    by_cases hs : stepOk n (runL n l r t) r
    · have := (run_yes hs).2
      exact absurd hs (run_ends t (by omega))
    · rw [(run_no hs).1]; exact hs
end Sx
/- Plain words: forms of turned and mirrored crowds, and how many there are. -/
namespace Sx
theorem trn_mod {n : Int} (s : Int) (l : List Int) : trn n (s % n) l = trn n s l := by
  unfold trn
  congr 1
  refine List.map_congr_left fun a _ => ?_
  unfold trF
  rw [Int.add_emod_emod]
theorem mir_trn {n s : Int} (hn : 3 ≤ n ∧ n ≤ 12) {l : List Int} (hr : inR n l) : mir n (trn n s l) = trn n (-s) (mir n l) := by
  refine pw_eq (srt_pw _ _) (srt_pw _ _) fun x => ?_
  unfold trn mir
  rw [srt_mem, srt_mem]
  refine and_congr_right fun _ => ?_
  have hF : ∀ y, 0 ≤ y ∧ y < n → miF n (trF n s y) = trF n (-s) (miF n y) := fun y hy => by
    unfold trF miF
    rcases n_cases hn with h | h | h | h | h | h | h | h | h | h <;> subst h <;> omega
  constructor
  · intro hx
    obtain ⟨y, hy, rfl⟩ := List.mem_map.1 hx
    obtain ⟨z, hz, rfl⟩ := List.mem_map.1 (srt_mem.1 hy).2
    have h := hr z hz
    exact List.mem_map.2 ⟨miF n z, srt_mem.2 ⟨by unfold miF; omega, List.mem_map.2 ⟨z, hz, rfl⟩⟩, (hF z h).symm⟩
  · intro hx
    obtain ⟨y, hy, rfl⟩ := List.mem_map.1 hx
    obtain ⟨z, hz, rfl⟩ := List.mem_map.1 (srt_mem.1 hy).2
    have h := hr z hz
    exact List.mem_map.2 ⟨trF n s z, srt_mem.2 ⟨⟨Int.emod_nonneg _ (by omega), Int.emod_lt_of_pos _ (by omega)⟩, List.mem_map.2 ⟨z, hz, rfl⟩⟩, hF z h⟩
theorem mir_mir {n : Int} {l : List Int} (hc : crowd n l) : mir n (mir n l) = l := by
  refine pw_eq (srt_pw _ _) (rise_pw hc.2.2) fun x => ?_
  unfold mir
  rw [srt_mem]
  constructor
  · rintro ⟨_, hx⟩
    obtain ⟨y, hy, rfl⟩ := List.mem_map.1 hx
    obtain ⟨z, hz, rfl⟩ := List.mem_map.1 (srt_mem.1 hy).2
    have : miF n (miF n z) = z := by unfold miF; omega
    rw [this]; exact hz
  · intro hx
    have h := hc.2.1 x hx
    exact ⟨h, List.mem_map.2 ⟨miF n x, srt_mem.2 ⟨by unfold miF; omega, List.mem_map.2 ⟨x, hx, rfl⟩⟩, by unfold miF; omega⟩⟩
/-- The turned and mirrored crowds of a crowd. -/
def orb (n : Int) (l x : List Int) : Prop := ∃ k : Int, x = trn n k l ∨ x = trn n k (mir n l)
theorem orb_trn {n s : Int} {l x : List Int} (hc : crowd n l) : orb n (trn n s l) x ↔ orb n l x := by
  have hn := hc.1.1
  have hp : 0 < n := by omega
  unfold orb
  rw [mir_trn hn hc.2.1]
  constructor
  · rintro ⟨k, h | h⟩
    · exact ⟨k + s, .inl (by rw [h, trn_add hp])⟩
    · exact ⟨k + -s, .inr (by rw [h, trn_add hp])⟩
  · rintro ⟨k, h | h⟩
    · exact ⟨k - s, .inl (by rw [h, trn_add hp]; congr 1; omega)⟩
    · exact ⟨k + s, .inr (by rw [h, trn_add hp]; congr 1; omega)⟩
theorem orb_mir {n : Int} {l x : List Int} (hc : crowd n l) : orb n (mir n l) x ↔ orb n l x := by
  unfold orb
  rw [mir_mir hc]
  constructor
  · rintro ⟨k, h | h⟩
    · exact ⟨k, .inr h⟩
    · exact ⟨k, .inl h⟩
  · rintro ⟨k, h | h⟩
    · exact ⟨k, .inr h⟩
    · exact ⟨k, .inl h⟩
theorem less2_le {a b : List Int} : cmpL (less2 a b) a ≤ 0 ∧ cmpL (less2 a b) b ≤ 0 := by
  by_cases h : cmpL a b < 0
  · rw [less2_yes h, cmpL_self]; omega
  · rw [less2_no h, cmpL_self, cmpL_anti2 a b]; omega
theorem formK_orb {n : Int} {l : List Int} (hc : crowd n l) : ∀ k, orb n l (formK n l k)
  | 0 => ⟨0, .inl (trn_0 hc).symm⟩
  | k + 1 => less2_p (p := orb n l) ⟨k, .inr rfl⟩ (less2_p (p := orb n l) ⟨k, .inl rfl⟩ (formK_orb hc k))
theorem formK_le {n : Int} {l : List Int} : ∀ {k i : Nat}, i < k → cmpL (formK n l k) (trn n i l) ≤ 0 ∧ cmpL (formK n l k) (trn n i (mir n l)) ≤ 0
  | 0, i, h => absurd h (Nat.not_lt_zero _)
  | k + 1, i, h => by
    obtain ⟨a1, a2⟩ := less2_le (a := trn n k (mir n l)) (b := less2 (trn n k l) (formK n l k))
    obtain ⟨b1, b2⟩ := less2_le (a := trn n k l) (b := formK n l k)
    by_cases e : i = k
    · subst e
      exact ⟨cmpL_trans a2 b1, a1⟩
    · have ih := formK_le (n := n) (l := l) (k := k) (i := i) (by omega)
      exact ⟨cmpL_trans a2 (cmpL_trans b2 ih.1), cmpL_trans a2 (cmpL_trans b2 ih.2)⟩
theorem formR_le {n : Int} {l x : List Int} (hn : 0 < n) (h : orb n l x) : cmpL (formR n l) x ≤ 0 := by
  obtain ⟨k, h⟩ := h
  have h0 := Int.emod_nonneg k (show n ≠ 0 by omega)
  have h1 := Int.emod_lt_of_pos k hn
  have key := formK_le (n := n) (l := l) (k := n.toNat) (i := (k % n).toNat) (by omega)
  rw [Int.toNat_of_nonneg h0, trn_mod, trn_mod] at key
  rcases h with h | h
  · rw [h]; exact key.1
  · rw [h]; exact key.2
theorem formR_same {n : Int} {a b : List Int} (ha : crowd n a) (hb : crowd n b) (h : ∀ x, orb n a x ↔ orb n b x) : formR n a = formR n b := by
  have hn : 0 < n := by have := ha.1.1; omega
  have h1 := formR_le hn ((h _).1 (formK_orb ha n.toNat))
  have h2 := formR_le hn ((h _).2 (formK_orb hb n.toNat))
  have h3 := cmpL_anti2 (formR n a) (formR n b)
  change cmpL (formR n b) (formR n a) ≤ 0 at h1
  change cmpL (formR n a) (formR n b) ≤ 0 at h2
  exact cmpL_eq (by omega)
theorem form_trn {n s : Int} {l : List Int} (hc : crowd n l) : formR n (trn n s l) = formR n l := formR_same (trn_crowd hc).1 hc fun _ => orb_trn hc
theorem form_mir {n : Int} {l : List Int} (hc : crowd n l) : formR n (mir n l) = formR n l := formR_same (mir_crowd hc).1 hc fun _ => orb_mir hc
theorem form_form {n : Int} {l : List Int} (hc : crowd n l) : formR n (formR n l) = formR n l := by
  obtain ⟨k, h | h⟩ := formK_orb hc n.toNat
  · have h : formR n l = trn n k l := h
    conv => lhs; rw [h]
    exact form_trn hc
  · have h : formR n l = trn n k (mir n l) := h
    conv => lhs; rw [h]
    rw [form_trn (mir_crowd hc).1, form_mir hc]
/-- The first crowd of a form has a robot at the place 0. -/
theorem form_zero {n : Int} {l : List Int} (hc : crowd n l) (h : formR n l = l) : l.getD 0 0 = 0 := by
  have hn := hc.1.1
  have hl := hc.1.2
  have h0 := crowd_get hc (show 0 < l.length by omega)
  by_cases e : l.getD 0 0 = 0
  · exact e
  exfalso
  obtain ⟨x, hx⟩ : ∃ x, l.getD 0 0 = x := ⟨_, rfl⟩
  rw [hx] at h0 e
  have hm : (0 : Int) ∈ trn n (n - x) l := by
    refine srt_mem.2 ⟨by omega, List.mem_map.2 ⟨x, ?_, ?_⟩⟩
    · rw [← hx, getI (by omega)]; exact List.getElem_mem _
    · unfold trF; rw [show x + (n - x) = n by omega, Int.emod_self]
  have hle := formR_le (n := n) (l := l) (by omega) ⟨n - x, .inl rfl⟩
  rw [h] at hle
  have ht := (trn_crowd (s := n - x) hc).1
  cases hT : trn n (n - x) l with
  | nil => rw [hT] at hm; cases hm
  | cons t T =>
    have ht0 : t = 0 := by
      rw [hT] at hm ht
      rcases List.mem_cons.1 hm with g | g
      · exact g.symm
      · have h1 := rise_pw ht.2.2
        rw [List.pairwise_cons] at h1
        have h2 := h1.1 _ g
        have h3 := ht.2.1 t (List.mem_cons_self ..)
        omega
    cases hL : l with
    | nil => rw [hL] at hl; simp at hl
    | cons a A =>
      have ha : a = x := by rw [hL] at hx; exact hx
      rw [hT, hL] at hle
      rw [cmpL_cons] at hle
      omega
/-! the number of forms -/
/-- The places below k of the bits of a number. -/
def bitsK (c : Nat) : Nat → List Int
  | 0 => []
  | k + 1 => if c / 2 ^ k % 2 = 1 then bitsK c k ++ [(k : Int)] else bitsK c k
theorem bitsK_yes {c k : Nat} (h : c / 2 ^ k % 2 = 1) : bitsK c (k + 1) = bitsK c k ++ [(k : Int)] := if_pos h
theorem bitsK_no {c k : Nat} (h : ¬ c / 2 ^ k % 2 = 1) : bitsK c (k + 1) = bitsK c k := if_neg h
theorem bitsK_mem {c : Nat} : ∀ {k : Nat} {x : Int}, x ∈ bitsK c k ↔ ∃ p : Nat, p < k ∧ x = (p : Int) ∧ c / 2 ^ p % 2 = 1
  | 0, x => ⟨fun h => absurd h List.not_mem_nil, fun ⟨p, h, _⟩ => absurd h (Nat.not_lt_zero _)⟩
  | k + 1, x => by
    by_cases h : c / 2 ^ k % 2 = 1
    · rw [bitsK_yes h, List.mem_append, bitsK_mem (k := k), List.mem_singleton]
      constructor
      · rintro (⟨p, hp, e, g⟩ | e)
        · exact ⟨p, by omega, e, g⟩
        · exact ⟨k, by omega, e, h⟩
      · rintro ⟨p, hp, e, g⟩
        by_cases e2 : p = k
        · subst e2; exact .inr e
        · exact .inl ⟨p, by omega, e, g⟩
    · rw [bitsK_no h, bitsK_mem (k := k)]
      constructor
      · rintro ⟨p, hp, e, g⟩
        exact ⟨p, by omega, e, g⟩
      · rintro ⟨p, hp, e, g⟩
        by_cases e2 : p = k
        · subst e2; exact absurd g h
        · exact ⟨p, by omega, e, g⟩
theorem bitsK_pw (c : Nat) : ∀ k, (bitsK c k).Pairwise (· < ·)
  | 0 => .nil
  | k + 1 => by
    by_cases h : c / 2 ^ k % 2 = 1
    · rw [bitsK_yes h, List.pairwise_append]
      refine ⟨bitsK_pw c k, List.pairwise_singleton _ _, fun a ha b hb => ?_⟩
      obtain ⟨p, hp, rfl, _⟩ := bitsK_mem.1 ha
      rw [List.mem_singleton.1 hb]
      omega
    · rw [bitsK_no h]; exact bitsK_pw c k
theorem bitsK_len (c : Nat) : ∀ k, (bitsK c k).length ≤ k
  | 0 => Nat.le_refl _
  | k + 1 => by
    have := bitsK_len c k
    by_cases h : c / 2 ^ k % 2 = 1
    · rw [bitsK_yes h, List.length_append]; simp; omega
    · rw [bitsK_no h]; omega
theorem bits_crowd {n : Int} {c : Nat} (hn : 3 ≤ n ∧ n ≤ 12) (h : 1 ≤ (bitsK c n.toNat).length ∧ (bitsK c n.toNat).length ≤ 6) : crowd n (bitsK c n.toNat) := by
  refine ⟨⟨hn, by omega, by omega⟩, fun x hx => ?_, pw_rise (bitsK_pw _ _)⟩
  obtain ⟨p, hp, rfl, _⟩ := bitsK_mem.1 hx
  omega
/-- The forms of r robots among the first m sets of n places. -/
def cfK (n : Int) (r : Nat) : Nat → Nat
  | 0 => 0
  | m + 1 => if (bitsK m n.toNat).length = r ∧ formR n (bitsK m n.toNat) = bitsK m n.toNat then cfK n r m + 1 else cfK n r m
theorem cfK_yes {n : Int} {r m : Nat} (h : (bitsK m n.toNat).length = r ∧ formR n (bitsK m n.toNat) = bitsK m n.toNat) : cfK n r (m + 1) = cfK n r m + 1 := if_pos h
theorem cfK_no {n : Int} {r m : Nat} (h : ¬ ((bitsK m n.toNat).length = r ∧ formR n (bitsK m n.toNat) = bitsK m n.toNat)) : cfK n r (m + 1) = cfK n r m := if_neg h
theorem cfK_le (n : Int) (r : Nat) : ∀ m, cfK n r m ≤ m
  | 0 => Nat.le_refl _
  | m + 1 => by
    have := cfK_le n r m
    by_cases h : (bitsK m n.toNat).length = r ∧ formR n (bitsK m n.toNat) = bitsK m n.toNat
    · rw [cfK_yes h]; omega
    · rw [cfK_no h]; omega
theorem cfK_filter (n : Int) (r : Nat) : ∀ m, cfK n r m = ((List.range m).filter fun c => decide ((bitsK c n.toNat).length = r ∧ formR n (bitsK c n.toNat) = bitsK c n.toNat)).length
  | 0 => rfl
  | m + 1 => by
    rw [List.range_succ, List.filter_append, List.length_append, ← cfK_filter n r m]
    by_cases h : (bitsK m n.toNat).length = r ∧ formR n (bitsK m n.toNat) = bitsK m n.toNat
    · rw [cfK_yes h, List.filter_cons_of_pos (by simpa using h)]; rfl
    · rw [cfK_no h, List.filter_cons_of_neg (by simpa using h)]; rfl
theorem codeL_bit {L : List Int} : ∀ {Q : List Nat} {p : Nat} (hp : p < Q.length), codeL L Q / 2 ^ p % 2 = if ((Q[p] : Nat) : Int) ∈ L then 1 else 0
  | [], p, h => absurd h (Nat.not_lt_zero _)
  | q :: Q, 0, _ => by
    show (2 * codeL L Q + if (q : Int) ∈ L then 1 else 0) / 2 ^ 0 % 2 = if (q : Int) ∈ L then 1 else 0
    rw [Nat.pow_zero, Nat.div_one]
    split <;> omega
  | q :: Q, p + 1, h => by
    have ih := codeL_bit (L := L) (Q := Q) (p := p) (by simpa using h)
    show (2 * codeL L Q + if (q : Int) ∈ L then 1 else 0) / 2 ^ (p + 1) % 2 = _
    rw [Nat.pow_succ, Nat.mul_comm (2 ^ p) 2, ← Nat.div_div_eq_div_mul]
    have : (2 * codeL L Q + if (q : Int) ∈ L then 1 else 0) / 2 = codeL L Q := by split <;> omega
    rw [this, ih]
    rfl
theorem bits_code {n : Int} {l : List Int} (hc : crowd n l) : bitsK (codeL l (List.range n.toNat)) n.toNat = l := by
  refine pw_eq (bitsK_pw _ _) (rise_pw hc.2.2) fun x => ?_
  have hn := hc.1.1
  rw [bitsK_mem]
  constructor
  · rintro ⟨p, hp, rfl, h⟩
    rw [codeL_bit (by rw [List.length_range]; exact hp), List.getElem_range] at h
    by_cases g : (p : Int) ∈ l
    · exact g
    · rw [if_neg g] at h; cases h
  · intro hx
    have h := hc.2.1 x hx
    refine ⟨x.toNat, by omega, by omega, ?_⟩
    rw [codeL_bit (by rw [List.length_range]; omega), List.getElem_range, Int.toNat_of_nonneg h.1, if_pos hx]
theorem count_nd {α : Type} [BEq α] [LawfulBEq α] {A D : List α} (hA : A.Nodup) (hD : D.Nodup) (h : ∀ x ∈ A, x ∈ D) : A.length ≤ D.length := by
  rw [sum_count hD h]
  have : ∀ E : List α, (E.map fun d => A.count d).sum ≤ E.length := fun E => by
    induction E with
    | nil => exact Nat.le_refl _
    | cons d E ih =>
      rw [List.map_cons, List.sum_cons, List.length_cons]
      have := List.nodup_iff_count.1 hA d
      omega
  exact this D
/-- Different first crowds of forms are not more than there are. -/
theorem forms_le {n : Int} {r : Nat} {F : List (List Int)} (hn : F.Nodup) (h : ∀ x ∈ F, crowd n x ∧ x.length = r ∧ formR n x = x) : F.length ≤ cfK n r (2 ^ n.toNat) := by
  rw [cfK_filter]
  have hA : (F.map fun x => codeL x (List.range n.toNat)).Nodup := by
    rw [List.Nodup, List.pairwise_map]
    refine List.Pairwise.imp_of_mem (fun {a b} ha hb hne e => hne ?_) hn
    rw [← bits_code (h a ha).1, ← bits_code (h b hb).1, e]
  have := count_nd hA (List.Pairwise.filter _ List.nodup_range : ((List.range (2 ^ n.toNat)).filter fun c => decide ((bitsK c n.toNat).length = r ∧ formR n (bitsK c n.toNat) = bitsK c n.toNat)).Nodup) fun c hcm => by
    obtain ⟨x, hx, rfl⟩ := List.mem_map.1 hcm
    have g := h x hx
    refine List.mem_filter.2 ⟨List.mem_range.2 ?_, ?_⟩
    · have := codeL_lt x (List.range n.toNat)
      rwa [List.length_range] at this
    · rw [bits_code g.1]
      simp only [decide_eq_true_eq]
      exact g.2
  rwa [List.length_map] at this
theorem foK_fresh {f : Nat → List Int} : ∀ {u k : Nat}, fresh f k → fresh f (foK f u k) ∧ k ≤ foK f u k
  | 0, k, h => ⟨h, Nat.le_refl _⟩
  | u + 1, k, h => by
    unfold foK
    split
    · exact ⟨h, Nat.le_refl _⟩
    · rename_i g
      have := foK_fresh (u := u) (fresh_next h g)
      exact ⟨this.1, by omega⟩
theorem foN_bd {n : Int} {l r : List Int} (hc : crowd n l) : 1 ≤ foN n l r ∧ foN n l r ≤ cfK n l.length (2 ^ n.toNat) := by
  have h0 : fresh (fK n l r) 1 := fresh_next (fresh_0 _) (fun h => by simp at h)
  have h1 : foN n l r = foK (fK n l r) 4999 1 := by
    show foK (fK n l r) (4999 + 1) 0 = _
    exact if_neg (by simp)
  obtain ⟨h2, h3⟩ := foK_fresh (u := 4999) h0
  rw [← h1] at h2 h3
  refine ⟨h3, ?_⟩
  have h4 := forms_le (n := n) (r := l.length) (fresh_nodup h2) fun x hx => by
    obtain ⟨i, _, rfl⟩ := List.mem_map.1 hx
    have := fK_crowd (r := r) hc i
    exact ⟨this.1, this.2, form_form (run_crowd (r := r) hc i).1⟩
  rwa [List.length_map, List.length_range] at h4
end Sx
