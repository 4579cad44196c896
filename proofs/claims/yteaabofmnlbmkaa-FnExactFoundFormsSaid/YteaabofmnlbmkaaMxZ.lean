/- Plain words: crowds. -/
import Derived.Test.YteaabofmnlbmkaaMxY
set_option linter.all false
namespace Sx
def rise (l : List Int) (k : Nat) : Prop := ∀ i, i + 1 < k → l.getD i 0 < l.getD (i + 1) 0
noncomputable instance (l : List Int) (k : Nat) : Decidable (rise l k) := Classical.propDecidable _
def inR (n : Int) (l : List Int) : Prop := ∀ x ∈ l, 0 ≤ x ∧ x < n
def crowd (n : Int) (l : List Int) : Prop := ((3 ≤ n ∧ n ≤ 12) ∧ 1 ≤ (l.length : Int) ∧ (l.length : Int) ≤ 6) ∧ inR n l ∧ rise l l.length
noncomputable instance (n : Int) (l : List Int) : Decidable (crowd n l) := Classical.propDecidable _
theorem getI {l : List Int} {i : Nat} (h : i < l.length) : l.getD i 0 = l[i] := by rw [List.getD_eq_getElem?_getD, List.getElem?_eq_getElem h]; rfl
theorem rise_pw {l : List Int} (h : rise l l.length) : l.Pairwise (· < ·) := by
  rw [List.pairwise_iff_getElem]
  intro i j hi hj hij
  have key : ∀ d, i + 1 + d < l.length → l.getD i 0 < l.getD (i + 1 + d) 0 := fun d => by
    induction d with
    | zero => intro hd; exact h i hd
    | succ d ih =>
      intro hd
      have h1 := ih (by omega)
      have h2 := h (i + 1 + d) (by omega)
      rw [show i + 1 + (d + 1) = i + 1 + d + 1 by omega]
      omega
  have := key (j - i - 1) (by omega)
  rw [show i + 1 + (j - i - 1) = j by omega, getI hi, getI hj] at this
  exact this
theorem pw_rise {l : List Int} (h : l.Pairwise (· < ·)) : rise l l.length := fun i hi => by
  rw [getI (by omega), getI hi]
  exact List.pairwise_iff_getElem.1 h i (i + 1) (by omega) hi (by omega)
theorem pw_nodup {l : List Int} (h : l.Pairwise (· < ·)) : l.Nodup := List.Pairwise.imp (fun h e => by omega) h
theorem srt_self {n : Int} {l : List Int} (h1 : inR n l) (h2 : l.Pairwise (· < ·)) : srt n l = l :=
  pw_eq (srt_pw n l) h2 fun x => by rw [srt_mem]; exact ⟨fun h => h.2, fun h => ⟨h1 x h, h⟩⟩
theorem srt_in (n : Int) (l : List Int) : inR n (srt n l) := fun x hx => (srt_mem.1 hx).1
theorem nodup_map {l : List Int} {f : Int → Int} (hn : l.Nodup) (h : ∀ a ∈ l, ∀ b ∈ l, f a = f b → a = b) : (l.map f).Nodup := by
  refine List.pairwise_map.2 (List.Pairwise.imp_of_mem (fun {a b} ha hb hab e => hab (h a ha b hb e)) hn)
theorem wrap_u64 {z : Int} (h0 : 0 ≤ z) (h1 : z < 1000000) : Go.IntKind.u64.wrap z = z := by
  unfold Go.IntKind.wrap
  simp [Go.IntKind.signed, Go.IntKind.bits]
  omega
theorem swp_row {Y : List Int} {j : Nat} (h0 : 0 < j) (h : j < Y.length) : (((Y.set j (Y[j - 1]'(by omega))).set ((j : Int) - 1).toNat Y[j]).map i64) = (swp Y j).map i64 := by
  unfold swp
  rw [getI h, getI (by omega), show ((j : Int) - 1).toNat = j - 1 by omega]
/-- What a crowd becomes when its places go elsewhere. -/
def okF (n : Int) (l : List Int) (f : Int → Int) : Prop := (∀ a ∈ l, 0 ≤ f a ∧ f a < n) ∧ ∀ a ∈ l, ∀ b ∈ l, f a = f b → a = b
theorem okF_nodup {n : Int} {l : List Int} {f : Int → Int} (hc : crowd n l) (h : okF n l f) : (l.map f).Nodup ∧ ∀ x ∈ l.map f, 0 ≤ x ∧ x < n :=
  ⟨nodup_map (pw_nodup (rise_pw hc.2.2)) h.2, fun x hx => by obtain ⟨a, ha, rfl⟩ := List.mem_map.1 hx; exact h.1 a ha⟩
theorem moved_crowd {n : Int} {l : List Int} {f : Int → Int} (hc : crowd n l) (h : okF n l f) : crowd n (srt n (l.map f)) ∧ (srt n (l.map f)).length = l.length := by
  obtain ⟨h1, h2⟩ := okF_nodup hc h
  have hl := srt_len h1 h2
  rw [List.length_map] at hl
  exact ⟨⟨⟨hc.1.1, by rw [hl]; exact hc.1.2⟩, srt_in n _, pw_rise (srt_pw n _)⟩, hl⟩
theorem n_cases {n : Int} (h : 3 ≤ n ∧ n ≤ 12) : n = 3 ∨ n = 4 ∨ n = 5 ∨ n = 6 ∨ n = 7 ∨ n = 8 ∨ n = 9 ∨ n = 10 ∨ n = 11 ∨ n = 12 := by omega
def trF (n s : Int) (p : Int) : Int := (p + s) % n
def miF (n : Int) (p : Int) : Int := n - 1 - p
theorem trF_ok {n s : Int} {l : List Int} (hc : crowd n l) : okF n l (trF n s) := by
  have h3 := hc.2.1
  have hn := hc.1.1
  refine ⟨fun a ha => ?_, fun a ha b hb e => ?_⟩
  · unfold trF
    exact ⟨Int.emod_nonneg _ (by omega), Int.emod_lt_of_pos _ (by omega)⟩
  · have h1 := h3 a ha
    have h2 := h3 b hb
    unfold trF at e
    clear h3 hc ha hb
    rcases n_cases hn with h | h | h | h | h | h | h | h | h | h <;> subst h <;> omega
theorem miF_ok {n : Int} {l : List Int} (hc : crowd n l) : okF n l (miF n) := by
  have h3 := hc.2.1
  refine ⟨fun a ha => ?_, fun a ha b hb e => ?_⟩
  · have := h3 a ha; unfold miF; omega
  · unfold miF at e; omega
def trn (n s : Int) (l : List Int) : List Int := srt n (l.map (trF n s))
def mir (n : Int) (l : List Int) : List Int := srt n (l.map (miF n))
theorem trn_crowd {n s : Int} {l : List Int} (hc : crowd n l) : crowd n (trn n s l) ∧ (trn n s l).length = l.length := moved_crowd hc (trF_ok hc)
theorem mir_crowd {n : Int} {l : List Int} (hc : crowd n l) : crowd n (mir n l) ∧ (mir n l).length = l.length := moved_crowd hc (miF_ok hc)
theorem trn_0 {n : Int} {l : List Int} (hc : crowd n l) : trn n 0 l = l := by
  unfold trn
  have e : l.map (trF n 0) = l := by
    conv => rhs; rw [← List.map_id l]
    refine List.map_congr_left fun a ha => ?_
    have := hc.2.1 a ha
    unfold trF
    rw [Int.add_zero, Int.emod_eq_of_lt this.1 this.2]
    rfl
  rw [e, srt_self hc.2.1 (rise_pw hc.2.2)]
def less2 (a b : List Int) : List Int := if cmpL a b < 0 then a else b
theorem less2_yes {a b : List Int} (h : cmpL a b < 0) : less2 a b = a := if_pos h
theorem less2_no {a b : List Int} (h : ¬ cmpL a b < 0) : less2 a b = b := if_neg h
def formK (n : Int) (l : List Int) : Nat → List Int
  | 0 => l
  | k + 1 => less2 (trn n k (mir n l)) (less2 (trn n k l) (formK n l k))
def formR (n : Int) (l : List Int) : List Int := formK n l n.toNat
theorem less2_p {p : List Int → Prop} {a b : List Int} (ha : p a) (hb : p b) : p (less2 a b) := by
  unfold less2; split
  · exact ha
  · exact hb
theorem formK_crowd {n : Int} {l : List Int} (hc : crowd n l) : ∀ k, crowd n (formK n l k) ∧ (formK n l k).length = l.length
  | 0 => ⟨hc, rfl⟩
  | k + 1 => by
    have h1 := formK_crowd hc k
    have h2 := trn_crowd (s := k) hc
    have hm := mir_crowd hc
    have h3 := trn_crowd (s := k) hm.1
    exact less2_p (p := fun x => crowd n x ∧ x.length = l.length) ⟨h3.1, h3.2.trans hm.2⟩ (less2_p (p := fun x => crowd n x ∧ x.length = l.length) h2 h1)
/-- A number is put to its place. -/
theorem put_srt {n x : Int} {A : List Int} {k : Nat} (hx : 0 ≤ x ∧ x < n) (hk : k ≤ (srt n A).length) (h1 : ∀ y ∈ (srt n A).take k, y < x) (h2 : ∀ y ∈ (srt n A).drop k, x < y) : (srt n A).take k ++ [x] ++ (srt n A).drop k = srt n (A ++ [x]) := by
  have hp := srt_pw n A
  have hs : (srt n A).take k ++ (srt n A).drop k = srt n A := List.take_append_drop _ _
  refine pw_eq ?_ (srt_pw n _) fun y => ?_
  · rw [List.append_assoc, List.pairwise_append]
    rw [← hs, List.pairwise_append] at hp
    refine ⟨hp.1, ?_, fun a ha b hb => ?_⟩
    · rw [List.singleton_append, List.pairwise_cons]
      exact ⟨h2, hp.2.1⟩
    · rcases List.mem_append.1 hb with hb | hb
      · rw [List.mem_singleton.1 hb]; exact h1 a ha
      · exact hp.2.2 a ha b hb
  · rw [srt_mem]
    constructor
    · intro hy
      rcases List.mem_append.1 hy with hy | hy
      · rcases List.mem_append.1 hy with hy | hy
        · have := srt_mem.1 (List.mem_of_mem_take hy)
          exact ⟨this.1, List.mem_append.2 (.inl this.2)⟩
        · rw [List.mem_singleton.1 hy]
          exact ⟨hx, by simp⟩
      · have := srt_mem.1 (List.mem_of_mem_drop hy)
        exact ⟨this.1, List.mem_append.2 (.inl this.2)⟩
    · rintro ⟨hr, hy⟩
      rcases List.mem_append.1 hy with hy | hy
      · have : y ∈ srt n A := srt_mem.2 ⟨hr, hy⟩
        rw [← hs] at this
        rcases List.mem_append.1 this with h | h
        · exact List.mem_append.2 (.inl (List.mem_append.2 (.inl h)))
        · exact List.mem_append.2 (.inr h)
      · exact List.mem_append.2 (.inl (List.mem_append.2 (.inr hy)))
theorem put_e {S M : List Int} {k : Nat} {x : Int} (h : S.take k ++ [x] ++ S.drop k = M) : List.drop 0 (List.take k S) ++ [x] ++ List.drop k (List.take (List.map i64 S).length S) = M := by
  rw [← h, List.drop_zero, List.length_map, List.take_length]
theorem srt_le (n : Int) (l : List Int) : (srt n l).length ≤ n.toNat := by
  unfold srt
  rw [List.length_map]
  exact Nat.le_trans (List.length_filter_le _ _) (by rw [List.length_range]; exact Nat.le_refl _)
theorem srt_nil (n : Int) : srt n [] = [] := by unfold srt; simp
theorem img_new {n : Int} {l : List Int} {g : Int → Int} (hc : crowd n l) (hg : okF n l g) {k : Nat} (hk : k < l.length) : (0 ≤ g l[k] ∧ g l[k] < n) ∧ g l[k] ∉ srt n ((l.take k).map g) := by
  refine ⟨hg.1 _ (List.getElem_mem hk), fun h => ?_⟩
  obtain ⟨a, ha, e⟩ := List.mem_map.1 (srt_mem.1 h).2
  have e2 := hg.2 a (List.mem_of_mem_take ha) _ (List.getElem_mem hk) e
  obtain ⟨i, hi, e3⟩ := List.mem_iff_getElem.1 ha
  rw [List.length_take] at hi
  rw [List.getElem_take] at e3
  have := List.pairwise_iff_getElem.1 (rise_pw hc.2.2) i k (by omega) hk (by omega)
  omega
theorem img_next {n : Int} {l : List Int} {g : Int → Int} {k : Nat} (hk : k < l.length) : srt n ((l.take k).map g ++ [g l[k]]) = srt n ((l.take (k + 1)).map g) := by
  rw [take_snoc hk, List.map_append]; rfl
def putK (n : Int) (f : Int → Int) (l : List Int) : Nat → List Int
  | 0 => []
  | k + 1 => srt n ((l.take (k + 1)).map f)
theorem putK_eq (n : Int) (f : Int → Int) (l : List Int) (k : Nat) : putK n f l k = srt n ((l.take k).map f) := by
  cases k with
  | zero => rw [List.take_zero, List.map_nil, srt_nil]; rfl
  | succ k => rfl
theorem miF_eq {n : Int} {p : Int} (h : 0 ≤ p ∧ p < n) : (n - 1 - p + n) % n = miF n p := by
  unfold miF
  rw [Int.add_emod_right, Int.emod_eq_of_lt (by omega) (by omega)]
end Sx
