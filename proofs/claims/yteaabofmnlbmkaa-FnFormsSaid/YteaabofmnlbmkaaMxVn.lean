/- Plain words: a turn by a rule of turned and mirrored crowds. -/
import Derived.Test.YteaabofmnlbmkaaMxVg
import Derived.Test.YteaabofmnlbmkaaMxVi
import Derived.Test.YteaabofmnlbmkaaMxVj
import Derived.Test.YteaabofmnlbmkaaMxVf
import Derived.Test.YteaabofmnlbmkaaMxA
set_option linter.all false
namespace Sx
/-- A crowd goes over to another one by a map of places, with the same views, and with ways times e. -/
structure Cov (n : Int) (l l' : List Int) (F : Int → Int) (e : Int) : Prop where
  len : l'.length = l.length
  img : l' = srt n (l.map F)
  rng : ∀ x, 0 ≤ x ∧ x < n → 0 ≤ F x ∧ F x < n
  inj : ∀ x y, 0 ≤ x ∧ x < n → 0 ≤ y ∧ y < n → F x = F y → x = y
  mov : ∀ x w, 0 ≤ x ∧ x < n → -1 ≤ w ∧ w ≤ 1 → (F x + e * w + n) % n = F ((x + w + n) % n)
  rob : ∀ i, i < l.length → ∃ j, j < l'.length ∧ l'.getD j 0 = F (l.getD i 0) ∧ viewL n l' j = viewL n l i ∧ wayL n l' j = e * wayL n l i
theorem crowd_get {n : Int} {l : List Int} (hc : crowd n l) {i : Nat} (hi : i < l.length) : 0 ≤ l.getD i 0 ∧ l.getD i 0 < n := by
  rw [getI hi]; exact hc.2.1 _ (List.getElem_mem hi)
/-! periods -/
theorem trn_add {n a b : Int} (hn : 0 < n) (l : List Int) : trn n a (trn n b l) = trn n (a + b) l := by
  refine pw_eq (srt_pw _ _) (srt_pw _ _) fun x => ?_
  unfold trn
  rw [srt_mem, srt_mem]
  refine and_congr_right fun _ => ?_
  have hF : ∀ y, trF n a (trF n b y) = trF n (a + b) y := fun y => by
    unfold trF
    rw [Int.emod_add_emod]
    congr 1
    omega
  constructor
  · intro hx
    obtain ⟨y, hy, rfl⟩ := List.mem_map.1 hx
    obtain ⟨z, hz, rfl⟩ := List.mem_map.1 (srt_mem.1 hy).2
    exact List.mem_map.2 ⟨z, hz, (hF z).symm⟩
  · intro hx
    obtain ⟨z, hz, rfl⟩ := List.mem_map.1 hx
    refine List.mem_map.2 ⟨trF n b z, srt_mem.2 ⟨⟨Int.emod_nonneg _ (by omega), Int.emod_lt_of_pos _ hn⟩, List.mem_map.2 ⟨z, hz, rfl⟩⟩, hF z⟩
end Sx
/- Plain words: forms of turned and mirrored crowds, and how many there are. -/
namespace Sx
theorem trn_mod {n : Int} (s : Int) (l : List Int) : trn n (s % n) l = trn n s l := by
  unfold trn
  congr 1
  refine List.map_congr_left fun a _ => ?_
  unfold trF
  rw [Int.add_emod_emod]
theorem mir_trn {n s : Int} (hn : 3 ≤ n ∧ n ≤ 12) {l : List Int} (hr : inR n l) : mir n (trn n s l) = trn n (-s) (mir n l) := by
  refine pw_eq (srt_pw _ _) (srt_pw _ _) fun x => ?_
  unfold trn mir
  rw [srt_mem, srt_mem]
  refine and_congr_right fun _ => ?_
  have hF : ∀ y, 0 ≤ y ∧ y < n → miF n (trF n s y) = trF n (-s) (miF n y) := fun y hy => by
    unfold trF miF
    rcases n_cases hn with h | h | h | h | h | h | h | h | h | h <;> subst h <;> omega
  constructor
  · intro hx
    obtain ⟨y, hy, rfl⟩ := List.mem_map.1 hx
    obtain ⟨z, hz, rfl⟩ := List.mem_map.1 (srt_mem.1 hy).2
    have h := hr z hz
    exact List.mem_map.2 ⟨miF n z, srt_mem.2 ⟨by unfold miF; omega, List.mem_map.2 ⟨z, hz, rfl⟩⟩, (hF z h).symm⟩
  · intro hx
    obtain ⟨y, hy, rfl⟩ := List.mem_map.1 hx
    obtain ⟨z, hz, rfl⟩ := List.mem_map.1 (srt_mem.1 hy).2
    have h := hr z hz
    exact List.mem_map.2 ⟨trF n s z, srt_mem.2 ⟨⟨Int.emod_nonneg _ (by omega), Int.emod_lt_of_pos _ (by omega)⟩, List.mem_map.2 ⟨z, hz, rfl⟩⟩, hF z h⟩
theorem mir_mir {n : Int} {l : List Int} (hc : crowd n l) : mir n (mir n l) = l := by
  refine pw_eq (srt_pw _ _) (rise_pw hc.2.2) fun x => ?_
  unfold mir
  rw [srt_mem]
  constructor
  · rintro ⟨_, hx⟩
    obtain ⟨y, hy, rfl⟩ := List.mem_map.1 hx
    obtain ⟨z, hz, rfl⟩ := List.mem_map.1 (srt_mem.1 hy).2
    have : miF n (miF n z) = z := by unfold miF; omega
    rw [this]; exact hz
  · intro hx
    have h := hc.2.1 x hx
    exact ⟨h, List.mem_map.2 ⟨miF n x, srt_mem.2 ⟨by unfold miF; omega, List.mem_map.2 ⟨x, hx, rfl⟩⟩, by unfold miF; omega⟩⟩
/-- The turned and mirrored crowds of a crowd. -/
def orb (n : Int) (l x : List Int) : Prop := ∃ k : Int, x = trn n k l ∨ x = trn n k (mir n l)
theorem orb_trn {n s : Int} {l x : List Int} (hc : crowd n l) : orb n (trn n s l) x ↔ orb n l x := by
  have hn := hc.1.1
  have hp : 0 < n := by omega
  unfold orb
  rw [mir_trn hn hc.2.1]
  constructor
  · rintro ⟨k, h | h⟩
    · exact ⟨k + s, .inl (by rw [h, trn_add hp])⟩
    · exact ⟨k + -s, .inr (by rw [h, trn_add hp])⟩
  · rintro ⟨k, h | h⟩
    · exact ⟨k - s, .inl (by rw [h, trn_add hp]; congr 1; omega)⟩
    · exact ⟨k + s, .inr (by rw [h, trn_add hp]; congr 1; omega)⟩
theorem orb_mir {n : Int} {l x : List Int} (hc : crowd n l) : orb n (mir n l) x ↔ orb n l x := by
  unfold orb
  rw [mir_mir hc]
  constructor
  · rintro ⟨k, h | h⟩
    · exact ⟨k, .inr h⟩
    · exact ⟨k, .inl h⟩
  · rintro ⟨k, h | h⟩
    · exact ⟨k, .inr h⟩
    · exact ⟨k, .inl h⟩
theorem less2_le {a b : List Int} : cmpL (less2 a b) a ≤ 0 ∧ cmpL (less2 a b) b ≤ 0 := by
  by_cases h : cmpL a b < 0
  · rw [less2_yes h, cmpL_self]; omega
  · rw [less2_no h, cmpL_self, cmpL_anti2 a b]; omega
theorem formK_orb {n : Int} {l : List Int} (hc : crowd n l) : ∀ k, orb n l (formK n l k)
  | 0 => ⟨0, .inl (trn_0 hc).symm⟩
  | k + 1 => less2_p (p := orb n l) ⟨k, .inr rfl⟩ (less2_p (p := orb n l) ⟨k, .inl rfl⟩ (formK_orb hc k))
theorem formK_le {n : Int} {l : List Int} : ∀ {k i : Nat}, i < k → cmpL (formK n l k) (trn n i l) ≤ 0 ∧ cmpL (formK n l k) (trn n i (mir n l)) ≤ 0
  | 0, i, h => absurd h (Nat.not_lt_zero _)
  | k + 1, i, h => by
    obtain ⟨a1, a2⟩ := less2_le (a := trn n k (mir n l)) (b := less2 (trn n k l) (formK n l k))
    obtain ⟨b1, b2⟩ := less2_le (a := trn n k l) (b := formK n l k)
    by_cases e : i = k
    · subst e
      exact ⟨cmpL_trans a2 b1, a1⟩
    · have ih := formK_le (n := n) (l := l) (k := k) (i := i) (by omega)
      exact ⟨cmpL_trans a2 (cmpL_trans b2 ih.1), cmpL_trans a2 (cmpL_trans b2 ih.2)⟩
theorem formR_le {n : Int} {l x : List Int} (hn : 0 < n) (h : orb n l x) : cmpL (formR n l) x ≤ 0 := by
  obtain ⟨k, h⟩ := h
  have h0 := Int.emod_nonneg k (show n ≠ 0 by omega)
  have h1 := Int.emod_lt_of_pos k hn
  have key := formK_le (n := n) (l := l) (k := n.toNat) (i := (k % n).toNat) (by omega)
  rw [Int.toNat_of_nonneg h0, trn_mod, trn_mod] at key
  rcases h with h | h
  · rw [h]; exact key.1
  · rw [h]; exact key.2
theorem formR_same {n : Int} {a b : List Int} (ha : crowd n a) (hb : crowd n b) (h : ∀ x, orb n a x ↔ orb n b x) : formR n a = formR n b := by
  have hn : 0 < n := by have := ha.1.1; omega
  have h1 := formR_le hn ((h _).1 (formK_orb ha n.toNat))
  have h2 := formR_le hn ((h _).2 (formK_orb hb n.toNat))
  have h3 := cmpL_anti2 (formR n a) (formR n b)
  change cmpL (formR n b) (formR n a) ≤ 0 at h1
  change cmpL (formR n a) (formR n b) ≤ 0 at h2
  exact cmpL_eq (by omega)
theorem form_trn {n s : Int} {l : List Int} (hc : crowd n l) : formR n (trn n s l) = formR n l := formR_same (trn_crowd hc).1 hc fun _ => orb_trn hc
theorem form_mir {n : Int} {l : List Int} (hc : crowd n l) : formR n (mir n l) = formR n l := formR_same (mir_crowd hc).1 hc fun _ => orb_mir hc
theorem form_form {n : Int} {l : List Int} (hc : crowd n l) : formR n (formR n l) = formR n l := by
  obtain ⟨k, h | h⟩ := formK_orb hc n.toNat
  · have h : formR n l = trn n k l := h
    conv => lhs; rw [h]
    exact form_trn hc
  · have h : formR n l = trn n k (mir n l) := h
    conv => lhs; rw [h]
    rw [form_trn (mir_crowd hc).1, form_mir hc]
/-- The first crowd of a form has a robot at the place 0. -/
theorem form_zero {n : Int} {l : List Int} (hc : crowd n l) (h : formR n l = l) : l.getD 0 0 = 0 := by
  have hn := hc.1.1
  have hl := hc.1.2
  have h0 := crowd_get hc (show 0 < l.length by omega)
  by_cases e : l.getD 0 0 = 0
  · exact e
  exfalso
  obtain ⟨x, hx⟩ : ∃ x, l.getD 0 0 = x := ⟨_, rfl⟩
  rw [hx] at h0 e
  have hm : (0 : Int) ∈ trn n (n - x) l := by
    refine srt_mem.2 ⟨by omega, List.mem_map.2 ⟨x, ?_, ?_⟩⟩
    · rw [← hx, getI (by omega)]; exact List.getElem_mem _
    · unfold trF; rw [show x + (n - x) = n by omega, Int.emod_self]
  have hle := formR_le (n := n) (l := l) (by omega) ⟨n - x, .inl rfl⟩
  rw [h] at hle
  have ht := (trn_crowd (s := n - x) hc).1
  cases hT : trn n (n - x) l with
  | nil => rw [hT] at hm; cases hm
  | cons t T =>
    have ht0 : t = 0 := by
      rw [hT] at hm ht
      rcases List.mem_cons.1 hm with g | g
      · exact g.symm
      · have h1 := rise_pw ht.2.2
        rw [List.pairwise_cons] at h1
        have h2 := h1.1 _ g
        have h3 := ht.2.1 t (List.mem_cons_self ..)
        omega
    cases hL : l with
    | nil => rw [hL] at hl; simp at hl
    | cons a A =>
      have ha : a = x := by rw [hL] at hx; exact hx
      rw [hT, hL] at hle
      rw [cmpL_cons] at hle
      omega
theorem trn_back {n s : Int} {l : List Int} (hc : crowd n l) : trn n (-s) (trn n s l) = l := by
  rw [trn_add (by have := hc.1.1; omega), show -s + s = 0 by omega, trn_0 hc]
theorem per_trn {n s : Int} {l : List Int} (hc : crowd n l) : perI n (trn n s l) = perI n l := by
  have hp : 0 < n := by have := hc.1.1; omega
  unfold perI
  have e : (fun t : Nat => trn n ((t : Int) + 1) (trn n s l) = trn n s l) = fun t : Nat => trn n ((t : Int) + 1) l = l := by
    funext t
    refine propext ⟨fun h => ?_, fun h => ?_⟩
    · have h2 := congrArg (trn n (-s)) h
      rw [trn_back hc, trn_add hp, trn_add hp, show -s + ((t : Int) + 1) + s = (t : Int) + 1 by omega] at h2
      exact h2
    · rw [trn_add hp, show (t : Int) + 1 + s = s + ((t : Int) + 1) by omega, ← trn_add hp, h]
  rw [e]
/-! the number of forms -/
/-- The places below k of the bits of a number. -/
def bitsK (c : Nat) : Nat → List Int
  | 0 => []
  | k + 1 => if c / 2 ^ k % 2 = 1 then bitsK c k ++ [(k : Int)] else bitsK c k
theorem bitsK_yes {c k : Nat} (h : c / 2 ^ k % 2 = 1) : bitsK c (k + 1) = bitsK c k ++ [(k : Int)] := if_pos h
theorem bitsK_no {c k : Nat} (h : ¬ c / 2 ^ k % 2 = 1) : bitsK c (k + 1) = bitsK c k := if_neg h
theorem bitsK_mem {c : Nat} : ∀ {k : Nat} {x : Int}, x ∈ bitsK c k ↔ ∃ p : Nat, p < k ∧ x = (p : Int) ∧ c / 2 ^ p % 2 = 1
  | 0, x => ⟨fun h => absurd h List.not_mem_nil, fun ⟨p, h, _⟩ => absurd h (Nat.not_lt_zero _)⟩
  | k + 1, x => by
    by_cases h : c / 2 ^ k % 2 = 1
    · rw [bitsK_yes h, List.mem_append, bitsK_mem (k := k), List.mem_singleton]
      constructor
      · rintro (⟨p, hp, e, g⟩ | e)
        · exact ⟨p, by omega, e, g⟩
        · exact ⟨k, by omega, e, h⟩
      · rintro ⟨p, hp, e, g⟩
        by_cases e2 : p = k
        · subst e2; exact .inr e
        · exact .inl ⟨p, by omega, e, g⟩
    · rw [bitsK_no h, bitsK_mem (k := k)]
      constructor
      · rintro ⟨p, hp, e, g⟩
        exact ⟨p, by omega, e, g⟩
      · rintro ⟨p, hp, e, g⟩
        by_cases e2 : p = k
        · subst e2; exact absurd g h
        · exact ⟨p, by omega, e, g⟩
theorem bitsK_pw (c : Nat) : ∀ k, (bitsK c k).Pairwise (· < ·)
  | 0 => .nil
  | k + 1 => by
    by_cases h : c / 2 ^ k % 2 = 1
    · rw [bitsK_yes h, List.pairwise_append]
      refine ⟨bitsK_pw c k, List.pairwise_singleton _ _, fun a ha b hb => ?_⟩
      obtain ⟨p, hp, rfl, _⟩ := bitsK_mem.1 ha
      rw [List.mem_singleton.1 hb]
      omega
    · rw [bitsK_no h]; exact bitsK_pw c k
theorem bitsK_len (c : Nat) : ∀ k, (bitsK c k).length ≤ k
  | 0 => Nat.le_refl _
  | k + 1 => by
    have := bitsK_len c k
    by_cases h : c / 2 ^ k % 2 = 1
    · rw [bitsK_yes h, List.length_append]; simp; omega
    · rw [bitsK_no h]; omega
theorem bits_crowd {n : Int} {c : Nat} (hn : 3 ≤ n ∧ n ≤ 12) (h : 1 ≤ (bitsK c n.toNat).length ∧ (bitsK c n.toNat).length ≤ 6) : crowd n (bitsK c n.toNat) := by
  refine ⟨⟨hn, by omega, by omega⟩, fun x hx => ?_, pw_rise (bitsK_pw _ _)⟩
  obtain ⟨p, hp, rfl, _⟩ := bitsK_mem.1 hx
  omega
/-- The forms of r robots among the first m sets of n places. -/
def cfK (n : Int) (r : Nat) : Nat → Nat
  | 0 => 0
  | m + 1 => if (bitsK m n.toNat).length = r ∧ formR n (bitsK m n.toNat) = bitsK m n.toNat then cfK n r m + 1 else cfK n r m
theorem cfK_yes {n : Int} {r m : Nat} (h : (bitsK m n.toNat).length = r ∧ formR n (bitsK m n.toNat) = bitsK m n.toNat) : cfK n r (m + 1) = cfK n r m + 1 := if_pos h
theorem cfK_no {n : Int} {r m : Nat} (h : ¬ ((bitsK m n.toNat).length = r ∧ formR n (bitsK m n.toNat) = bitsK m n.toNat)) : cfK n r (m + 1) = cfK n r m := if_neg h
theorem cfK_le (n : Int) (r : Nat) : ∀ m, cfK n r m ≤ m
  | 0 => Nat.le_refl _
  | m + 1 => by
    have := cfK_le n r m
    by_cases h : (bitsK m n.toNat).length = r ∧ formR n (bitsK m n.toNat) = bitsK m n.toNat
    · rw [cfK_yes h]; omega
    · rw [cfK_no h]; omega
end Sx
