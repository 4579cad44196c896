/- A symbolic executor for function bodies, proved sound: part 3 of 3. No condition. -/
import Derived.Test.YteaabofmnlbmkaaSxB
import Derived.Carry
import Derived.ChangeOld
import Derived.SizedLaws
import Derived.OpenShut
import Derived.ChangeAt
import Derived.ChangeArms
import Derived.Lib.LaidTab
set_option linter.all false
/- A region whose order is drawn keeps the state. -/
set_option linter.unusedVariables false
namespace Sx
open Go Go.RowKit
section
variable [Glb] {E : Env} {tab : List Ent} {P : Program} {Γ : Ctx} {ops : Array Oper} {n N : Nat} {T : Nat → List AV} {vv : Nat → AV}
/-- The records of the first operations. -/
def Recs (P : Program) (ops : Array Oper) (tab : List Ent) (n : Nat) (T : Nat → List AV) (vv : Nat → AV) : Prop := ∀ (i : Nat) o, i < n → ops[i]? = some o → Rec P ops o tab (T i) (T (i + 1)) (vv i)
theorem recs_len (R : Recs P ops tab n T vv) (hn : n ≤ ops.size) : ∀ i, i ≤ n → (T i).length = (T 0).length
  | 0, _ => rfl
  | i + 1, h => by
    have hi : i < ops.size := by omega
    exact ((R i ops[i] (by omega) (by simp [hi])).len).trans (recs_len R hn i (by omega))
theorem imp_refl (v : AV) : Imp v v := fun _ _ _ _ _ h => h
theorem recs_chain (R : Recs P ops tab n T vv) (hn : n ≤ ops.size) {t : Nat} {i : Nat} : ∀ (k : Nat) {x x' : AV}, i + k ≤ n → (∀ (q : Nat) o, i ≤ q → q < i + k → ops[q]? = some o → o.dst ≠ some t) → (T i)[t]? = some x → (T (i + k))[t]? = some x' → Imp x x'
  | 0, x, x', _, _, h1, h2 => by rw [Nat.add_zero, h1] at h2; cases h2; exact imp_refl _
  | k + 1, x, x', hk, hd, h1, h2 => by
    have hlt : t < (T (i + k)).length := by
      rw [recs_len R hn _ (by omega), ← recs_len R hn (i + (k + 1)) hk]
      exact (List.getElem?_eq_some_iff.1 h2).1
    have h3 : (T (i + k))[t]? = some (T (i + k))[t] := by simp [hlt]
    have hik : i + k < ops.size := by omega
    have := recs_chain R hn k (by omega) (fun q o h4 h5 => hd q o h4 (by omega)) h1 h3
    have h6 := (R (i + k) ops[i + k] (by omega) (by simp [hik])).keep t _ x' (hd (i + k) _ (by omega) (by omega) (by simp [hik])) h3 h2
    exact fun E Z tab w c h => h6 _ _ _ _ _ (this _ _ _ _ _ h)
structure Inv (Γ : Ctx) (E : Env) (tab : List Ent) (ops : Array Oper) (n : Nat) (T : Nat → List AV) (vv : Nat → AV) (listed : Array Bool) (a : Act) (w : World) : Prop where
  sat : Sat Γ E (List.replicate (T 0).length .unk) tab a w
  size : listed.size = ops.size
  done : ∀ (i : Nat) o d, i < n → listed.getD i true = true → ops[i]? = some o → o.dst = some d → Fact Γ E tab a w d (vv i)
  rest : ∀ (t : Nat) x, (∀ (i : Nat) o, i < n → ops[i]? = some o → o.dst ≠ some t) → (T 0)[t]? = some x → Fact Γ E tab a w t x
  tail : ∀ j, n ≤ j → j < ops.size → listed.getD j true = false
theorem getD_lt {l : Array Bool} {i : Nat} {b b' : Bool} (h : i < l.size) : l.getD i b = l.getD i b' := by simp [Array.getD, h]
/-- What is looked at is as it was told. -/
theorem inv_fact {listed : Array Bool} {a : Act} {w : World} (R : Recs P ops tab n T vv) (H : HeadOK ops.toList n) (hn : n ≤ ops.size) (I : Inv Γ E tab ops n T vv listed a w) {i : Nat} (hi : i ≤ n) {t : Nat} {x : AV} (hx : (T i)[t]? = some x)
    (hl : ∀ (j : Nat) p, j < n → ops[j]? = some p → p.dst = some t → j < i ∧ listed.getD j true = true) : Fact Γ E tab a w t x := by
  by_cases hd : ∃ (j : Nat) (p : Oper), j < n ∧ ops[j]? = some p ∧ p.dst = some t
  · obtain ⟨j, p, hj, hp, hpd⟩ := hd
    obtain ⟨hji, hlj⟩ := hl j p hj hp hpd
    have h1 := (R j p hj hp).dst t hpd
    have := recs_chain R hn (i - (j + 1)) (by omega) (fun q o h2 h3 ho e => by
      have := H.once q j o p t (by omega) hj (by simpa using ho) (by simpa using hp) hpd e
      omega) h1 (show (T (j + 1 + (i - (j + 1))))[t]? = some x by rw [show j + 1 + (i - (j + 1)) = i by omega]; exact hx)
    exact fun c hc => this _ _ _ _ _ (I.done j p t hj hlj hp hpd c hc)
  · have hno : ∀ (j : Nat) o, j < n → ops[j]? = some o → o.dst ≠ some t := fun j o h1 h2 h3 => hd ⟨j, o, h1, h2, h3⟩
    have hlt : t < (T 0).length := by rw [← recs_len R hn i hi]; exact (List.getElem?_eq_some_iff.1 hx).1
    have := recs_chain R hn (t := t) (i := 0) i (by omega) (fun q o h2 h3 ho => hno q o (by omega) ho) (show (T 0)[t]? = some (T 0)[t] by simp [hlt]) (by rw [Nat.zero_add]; exact hx)
    exact fun c hc => this _ _ _ _ _ (I.rest t _ hno (by simp [hlt]) c hc)
theorem Fact.grow {a : Act} {w w' : World} {t : Nat} {v : AV} {ts : List AV} (f : Fact Γ E tab a w t v) (s : Sat Γ E ts tab a w) (h : Below w.heap.size w w') : Fact Γ E tab a w' t v := fun c hc => (f c hc).p (s.grow h).1
theorem Fact.put {a : Act} {w : World} {t : Nat} {v : AV} {dst : Option Tmp} {c0 : Value} (f : Fact Γ E tab a w t v) (h : dst ≠ some t) : Fact Γ E tab (a.put dst c0) w t v := fun c hc => f c (by
  cases dst with
  | none => exact hc
  | some d =>
    have hc : (a.tmps.setIfInBounds d c0)[t]? = some c := hc
    rwa [Array.getElem?_setIfInBounds, if_neg (fun e => h (by rw [e]))] at hc)
theorem Fact.new {a : Act} {w : World} {t : Nat} {v : AV} {c0 : Value} (h : V E (zone Γ E) tab w v c0) : Fact Γ E tab (a.put (some t) c0) w t v := fun c hc => by
  have hc : (a.tmps.setIfInBounds t c0)[t]? = some c := hc
  rw [Array.getElem?_setIfInBounds, if_pos rfl] at hc
  split at hc
  · cases hc; exact h
  · cases hc
theorem Sat.unkPut {a : Act} {w : World} {m : Nat} (s : Sat Γ E (List.replicate m .unk) tab a w) (dst : Option Tmp) (c : Value) : Sat Γ E (List.replicate m .unk) tab (a.put dst c) w := by
  cases dst with
  | none => exact s
  | some d =>
    have := s.tmp (d := d) (v := .unk) (c := c) (.imm (.unk _))
    rwa [show (List.replicate m AV.unk).set d .unk = List.replicate m .unk by
      apply List.ext_getElem?
      intro i
      rw [List.getElem?_set]
      split
      · rename_i e; subst e
        split
        · rename_i h; simp at h; simp [h]
        · rename_i h; simp at h; simp; omega
      · rfl] at this
/-- One of the first operations has been carried out. -/
theorem Inv.next {listed : Array Bool} {a : Act} {w w' : World} (H : HeadOK ops.toList n) (I : Inv Γ E tab ops n T vv listed a w) {i : Nat} {o : Oper} {c : Value} (hi : i < n) (ho : ops[i]? = some o) (hb : Below w.heap.size w w') (hv : V E (zone Γ E) tab w' (vv i) c) :
    Inv Γ E tab ops n T vv (listed.setIfInBounds i true) (a.put o.dst c) w' := by
  have his : i < ops.size := (Array.getElem?_eq_some_iff.1 ho).1
  have get : ∀ j, j ≠ i → (listed.setIfInBounds i true).getD j true = listed.getD j true := fun j hj => by
    rw [Array.getD_eq_getD_getElem?, Array.getD_eq_getD_getElem?, Array.getElem?_setIfInBounds, if_neg (Ne.symm hj)]
  refine ⟨((I.sat.grow hb).2).unkPut _ _, by simpa using I.size, fun j p d hj hl hp hd => ?_, fun t x hno hx => ?_, fun j hj hjs => ?_⟩
  · by_cases e : j = i
    · subst e
      rw [ho] at hp; cases hp
      rw [hd]
      exact Fact.new hv
    · rw [get j e] at hl
      refine Fact.put ((I.done j p d hj hl hp hd).grow I.sat hb) fun h => e ?_
      exact H.once j i p o d hj hi (by simpa using hp) (by simpa using ho) h hd
  · exact Fact.put ((I.rest t x hno hx).grow I.sat hb) (hno i o hi ho)
  · rw [get j (by omega)]; exact I.tail j hj hjs
def open' (listed : Array Bool) (n : Nat) : Nat := ((List.range n).filter fun i => !listed.getD i true).length
theorem open_set {listed : Array Bool} {i : Nat} (hs : i < listed.size) (hl : listed.getD i true = false) : ∀ n, open' listed n = open' (listed.setIfInBounds i true) n + (if i < n then 1 else 0)
  | 0 => by simp [open']
  | n + 1 => by
    have ih := open_set hs hl n
    unfold open' at ih ⊢
    rw [List.range_succ, List.filter_append, List.filter_append, List.length_append, List.length_append, ih]
    by_cases e : n = i
    · subst e
      have h2 : (listed.setIfInBounds n true).getD n true = true := by rw [Array.getD_eq_getD_getElem?, Array.getElem?_setIfInBounds, if_pos rfl]; simp [hs]
      simp only [List.filter_cons, List.filter_nil, hl, h2]
      simp
    · have h2 : (listed.setIfInBounds i true).getD n true = listed.getD n true := by rw [Array.getD_eq_getD_getElem?, Array.getD_eq_getD_getElem?, Array.getElem?_setIfInBounds, if_neg (fun h => e h.symm)]
      simp only [List.filter_cons, List.filter_nil, h2]
      have : (if i < n + 1 then 1 else 0) = (if i < n then 1 else 0) := by
        by_cases h : i < n
        · rw [if_pos h, if_pos (by omega)]
        · rw [if_neg h, if_neg (by omega)]
      rw [this]
      omega
theorem open_zero {listed : Array Bool} {n : Nat} (h : open' listed n = 0) {i : Nat} (hi : i < n) : listed.getD i true = true := by
  have := List.eq_nil_of_length_eq_zero h
  rw [List.filter_eq_nil_iff] at this
  simpa using this i (by simpa using hi)
theorem open_pos {listed : Array Bool} {n : Nat} (h : 0 < open' listed n) : ∃ i, i < n ∧ listed.getD i true = false ∧ ∀ j, j < i → listed.getD j true = true := by
  have ex : ∃ i, i < n ∧ listed.getD i true = false := by
    unfold open' at h
    obtain ⟨x, hx⟩ := List.exists_mem_of_length_pos h
    rw [List.mem_filter] at hx
    exact ⟨x, by simpa using hx.1, by simpa using hx.2⟩
  obtain ⟨i, hi⟩ := ex
  induction i using Nat.strongRecOn with
  | _ i ih =>
    by_cases hj : ∃ j, j < i ∧ listed.getD j true = false
    · obtain ⟨j, h1, h2⟩ := hj
      exact ih j h1 ⟨by omega, h2⟩
    · exact ⟨i, hi.1, hi.2, fun j hj' => by
        cases hq : listed.getD j true with
        | true => rfl
        | false => exact (hj ⟨j, hj', hq⟩).elim⟩
/-- The operations behind the first ones, in their order. -/
theorem tail_any {C : Contracts} {nest fz : Bool} {Q : Exit → Act → World → Prop} (hC : CAll P Γ C) (hm : NoMut Γ fz) {late : List Nat} (HT : TailOK late ops.toList n) :
    ∀ (l : List Oper) (j : Nat) {ts : List AV} {tab : List Ent} {E : Env} {a : Act} {w : World} {k : List AV → List Ent → Prop} {listed : Array Bool}, n ≤ j → l = ops.toList.drop j → listed.size = ops.size →
    (∀ i, i < ops.size → (listed.getD i true = true ↔ i < j)) → regW C nest fz P ops.toList l ts tab k → Sat Γ E ts tab a w →
    (∀ ts' tab' E' a' w', k ts' tab' → Sat Γ E' ts' tab' a' w' → Q .normal a' w') → wpAny P .any ops Q l.length listed a w
  | [], j, ts, tab, E, a, w, k, listed, hnj, hl, hs, hli, h, s, hQ => by
    have hj : ops.size ≤ j := by
      have := congrArg List.length hl
      simp at this; omega
    refine ⟨List.eq_nil_iff_forall_not_mem.2 fun i hi => ?_, hQ _ _ _ _ _ h s⟩
    obtain ⟨o, ho, h1, _⟩ := (ready_iff hs).1 hi
    have his : i < ops.size := (Array.getElem?_eq_some_iff.1 ho).1
    rw [(hli i his).2 (by omega)] at h1; cases h1
  | o :: rest, j, ts, tab, E, a, w, k, listed, hnj, hl, hs, hli, h, s, hQ => by
    have hj : j < ops.size := by
      have := congrArg List.length hl
      simp at this; omega
    have hoj : ops[j]? = some o := by
      have : (ops.toList.drop j)[0]? = some o := by rw [← hl]; rfl
      simpa using this
    have hrest : rest = ops.toList.drop (j + 1) := by
      rw [← List.drop_drop (i := 1), ← hl]; rfl
    have hlt : ∀ i, i < ops.size → i < j → listed.getD i false = true := fun i h1 h2 => by rw [getD_lt (b' := true) (by omega)]; exact (hli i h1).2 h2
    have hready : j ∈ Region.ready .any ops listed := (ready_iff hs).2 ⟨o, hoj, by
      cases hq : listed.getD j true with
      | false => rfl
      | true => have := (hli j hj).1 hq; omega, fun i hi => hlt i (by have := HT.before j o (by simpa using hoj) i hi; omega) (HT.before j o (by simpa using hoj) i hi)⟩
    have honly : ∀ i ∈ Region.ready .any ops listed, i = j := fun i hi => by
      obtain ⟨p, hp, h1, h2⟩ := (ready_iff hs).1 hi
      have his : i < ops.size := (Array.getElem?_eq_some_iff.1 hp).1
      have hge : ¬ i < j := fun hlt => by rw [(hli i his).2 hlt] at h1; cases h1
      rcases Nat.lt_or_ge j i with hgt | hle
      · have h3 := h2 (i - 1) (HT.chain i p (by omega) (by simpa using hp))
        rw [getD_lt (b' := true) (by omega)] at h3
        have := (hli (i - 1) (by omega)).1 h3
        omega
      · omega
    refine ⟨fun he => (by rw [he] at hready; cases hready), fun i hi => ?_⟩
    have := honly i hi
    subst this
    have hli' : ∀ q, q < ops.size → ((listed.setIfInBounds i true).getD q true = true ↔ q < i + 1) := fun q hq => by
      rw [Array.getD_eq_getD_getElem?, Array.getElem?_setIfInBounds]
      by_cases e : i = q
      · subst e; rw [if_pos rfl, if_pos (by omega)]; simp
      · rw [if_neg e, ← Array.getD_eq_getD_getElem?, hli q hq]; omega
    unfold wpOp
    rw [hoj]
    dsimp only
    rw [regW_cons] at h
    unfold operW at h
    obtain ⟨b, ts1, h, s1, hw⟩ := guardW_sound h s
    rw [hw]
    cases b with
    | true =>
      refine .inl ((opW_sound hC h s1 hm) _ _ fun c w' hr => ?_)
      obtain ⟨v, ts', tab', E', h1, h2, h3⟩ := hr
      obtain ⟨ts2, h4, h5⟩ := putW_sound h1 h2 h3
      exact tail_any hC hm HT rest (i + 1) (by omega) hrest (by simpa using hs) hli' h4 h5 hQ
    | false =>
      obtain ⟨ts2, h4, h5⟩ := putW_sound h s1 .undef
      exact tail_any hC hm HT rest (i + 1) (by omega) hrest (by simpa using hs) hli' h4 h5 hQ
theorem listed_closed_all {listed : Array Bool} (hs : listed.size = ops.size) {late : List Nat} (HT : TailOK late ops.toList n) (hn : n < ops.size) (hcl : ∀ (j : Nat) p, j < n → ops[j]? = some p → listed.getD j true = true → ∀ i ∈ befores p, listed.getD i true = true)
    (hlate : ∀ i ∈ late, listed.getD i true = true) (hr : n ∈ Region.ready .any ops listed) : ∀ (d i : Nat), i + d = n → 0 < d → listed.getD i true = true := by
  obtain ⟨o, ho, _, hb⟩ := (ready_iff hs).1 hr
  intro d
  induction d using Nat.strongRecOn with
  | _ d ih =>
    intro i hi hd
    by_cases hmem : i ∈ late
    · exact hlate i hmem
    obtain ⟨j, p, h1, h2, h3, h4⟩ := HT.reach (by simpa using hn) i (by omega) hmem
    have h3 : ops[j]? = some p := by simpa using h3
    by_cases e : j = n
    · subst e
      rw [ho] at h3; cases h3
      have := hb i h4
      rwa [getD_lt (b' := true) (by omega)] at this
    · exact hcl j p (by omega) h3 (ih (n - j) (by omega) j (by omega) (by omega)) i h4
theorem head_any {C : Contracts} {nest fz : Bool} {Q : Exit → Act → World → Prop} (hC : CAll P Γ C) (hm : NoMut Γ fz) (HH : HeadOK ops.toList n) {late : List Nat} (HT : TailOK late ops.toList n) (hn : n ≤ ops.size)
    (R : Recs P ops tab n T vv) {k : List AV → List Ent → Prop} (hreg : regW C nest fz P ops.toList (ops.toList.drop n) (T n) tab k) (hQ : ∀ ts' tab' E' a' w', k ts' tab' → Sat Γ E' ts' tab' a' w' → Q .normal a' w') :
    ∀ (u : Nat) {listed : Array Bool} {a : Act} {w : World}, open' listed n = u → Inv Γ E tab ops n T vv listed a w → (∀ (j : Nat) p, j < n → ops[j]? = some p → listed.getD j true = true → ∀ i ∈ befores p, listed.getD i true = true) → (∀ i ∈ late, listed.getD i true = true) →
      wpAny P .any ops Q (u + (ops.size - n)) listed a w
  | 0, listed, a, w, hu, I, hcl, _ => by
    have hall : ∀ i, i < n → listed.getD i true = true := fun i hi => open_zero hu hi
    have s : Sat Γ E (T n) tab a w := by
      have hlen : (T n).length = (T 0).length := recs_len R hn n (Nat.le_refl _)
      refine { I.sat with len := by rw [hlen]; simpa using I.sat.len, vals := fun t x c h1 h2 => ?_ }
      exact inv_fact R HH hn I (Nat.le_refl _) h1 (fun j p hj _ _ => ⟨hj, hall j hj⟩) c h2
    have hl : (ops.toList.drop n).length = ops.size - n := by simp
    rw [Nat.zero_add, ← hl]
    refine tail_any hC hm HT (ops.toList.drop n) n (Nat.le_refl _) rfl I.size (fun i hi => ?_) hreg s hQ
    rcases Nat.lt_or_ge i n with h | h
    · exact ⟨fun _ => h, fun _ => hall i h⟩
    · rw [I.tail i h hi]; exact ⟨nofun, fun h2 => by omega⟩
  | u + 1, listed, a, w, hu, I, hcl, hlate => by
    rw [show u + 1 + (ops.size - n) = (u + (ops.size - n)) + 1 by omega]
    obtain ⟨i0, h1, h2, h3⟩ := open_pos (listed := listed) (n := n) (by omega)
    have hi0 : i0 < ops.size := by omega
    have hready : i0 ∈ Region.ready .any ops listed := (ready_iff I.size).2 ⟨ops[i0], by simp [hi0], h2, fun j hj => by
      have hlt := HH.before i0 ops[i0] h1 (by simp [hi0]) j hj
      rw [getD_lt (b' := true) (by have := I.size; omega)]
      exact h3 j hlt⟩
    refine ⟨fun he => (by rw [he] at hready; cases hready), fun i hi => ?_⟩
    obtain ⟨o, ho, g1, g2⟩ := (ready_iff I.size).1 hi
    have his : i < ops.size := (Array.getElem?_eq_some_iff.1 ho).1
    have g2' : ∀ j ∈ befores o, j < ops.size → listed.getD j true = true := fun j hj hjs => by
      have := g2 j hj
      rwa [getD_lt (b' := true) (by have := I.size; omega)] at this
    have hin : i < n := by
      rcases Nat.lt_or_ge i n with h | h
      · exact h
      · exfalso
        rcases Nat.lt_or_ge n i with hgt | hle
        · have := g2' (i - 1) (HT.chain i o hgt (by simpa using ho)) (by omega)
          rw [I.tail (i - 1) (by omega) (by omega)] at this; cases this
        · have e : i = n := by omega
          subst e
          have := listed_closed_all I.size HT his hcl hlate hi (i - i0) i0 (by omega) (by omega)
          rw [this] at h2; cases h2
    have hrec := R i o hin ho
    have hT : (T i).length = (T 0).length := recs_len R hn i (by omega)
    have hrun := hrec.run Γ E a w hC.2 (by rw [hT]; exact I.sat) (fun t ht x hx => inv_fact R HH hn I (by omega) hx (fun j p hj hp hd => by
      obtain ⟨q1, q2⟩ := HH.look i j o p t hin hj (by simpa using ho) (by simpa using hp) hd ht
      exact ⟨q1, g2' j q2 (by omega)⟩))
    have hu' : open' (listed.setIfInBounds i true) n = u := by
      have := open_set (by have := I.size; omega : i < listed.size) g1 n
      rw [if_pos hin] at this
      omega
    have hget : ∀ q, (listed.setIfInBounds i true).getD q true = true ↔ (q = i ∨ listed.getD q true = true) := fun q => by
      rw [Array.getD_eq_getD_getElem?, Array.getElem?_setIfInBounds]
      by_cases e : i = q
      · subst e; rw [if_pos rfl, if_pos (by have := I.size; omega)]; simp
      · rw [if_neg e, ← Array.getD_eq_getD_getElem?]
        exact ⟨.inr, fun h => h.elim (fun h => (e h.symm).elim) id⟩
    have hcl' : ∀ (j : Nat) p, j < n → ops[j]? = some p → (listed.setIfInBounds i true).getD j true = true → ∀ q ∈ befores p, (listed.setIfInBounds i true).getD q true = true := fun j p hj hp hlj q hq => by
      rw [hget]
      rcases (hget j).1 hlj with e | e
      · subst e
        rw [ho] at hp; cases hp
        exact .inr (g2' q hq (by have := HH.before j o hj (by simpa using ho) q hq; omega))
      · exact .inr (hcl j p hj hp e q hq)
    unfold wpOp
    rw [ho]
    dsimp only
    cases hw : Region.wanted o (yielded ops a.tmps) with
    | true =>
      rw [if_pos rfl]
      refine .inl (hrun.1 hw _ _ fun c w' hr => ?_)
      exact head_any hC hm HH HT hn R hreg hQ u hu' (I.next HH hin ho hr.1 hr.2) hcl' fun q hq => (hget q).2 (.inr (hlate q hq))
    | false =>
      rw [if_neg (by simp)]
      refine head_any hC hm HH HT hn R hreg hQ u hu' (I.next HH hin ho (Below.refl _ _) ?_) hcl' fun q hq => (hget q).2 (.inr (hlate q hq))
      rw [hrun.2 hw]; exact .undef
theorem Did.at {o : Oper} {a : Act} {w w' : World} {R : Value → World → Prop} {c : Value} (h : Did P o a w R) (hr : (execOp a.eval o).run P w = .ok (.value c) w') (hd : o.dst ≠ none → True) : ∃ c', R c' w' ∧ a.put o.dst c' = a.put o.dst c := by
  have := h (fun a' w'' => ∃ c', R c' w'' ∧ a' = a.put o.dst c') (fun _ _ _ => False) (fun c' w'' h => ⟨c', h, rfl⟩)
  unfold Oper.wp at this
  rw [hr] at this
  obtain ⟨c', h1, h2⟩ := this
  exact ⟨c', h1, h2.symm⟩
/-- The late ones first. -/
theorem late_any {C : Contracts} {nest fz : Bool} {Q : Exit → Act → World → Prop} (hC : CAll P Γ C) (hm : NoMut Γ fz) (HH : HeadOK ops.toList n) {late : List Nat} (HT : TailOK late ops.toList n) (hn : n ≤ ops.size)
    (R : Recs P ops tab n T vv) {k : List AV → List Ent → Prop} (hreg : regW C nest fz P ops.toList (ops.toList.drop n) (T n) tab k) (hQ : ∀ ts' tab' E' a' w', k ts' tab' → Sat Γ E' ts' tab' a' w' → Q .normal a' w') (hP : ∀ c a w, ¬ Q (.panic c) a w) :
    ∀ (l : List Nat) {listed : Array Bool} {a : Act} {w : World}, (∀ i ∈ l, i ∈ late) → Inv Γ E tab ops n T vv listed a w → (∀ (j : Nat) p, j < n → ops[j]? = some p → listed.getD j true = true → befores p = []) → (∀ i ∈ late, i ∈ l ∨ listed.getD i true = true) →
      wpAny P .any ops Q (open' listed n + (ops.size - n)) listed a w
  | [], listed, a, w, hl, I, hb, hlate => head_any hC hm HH HT hn R hreg hQ _ rfl I (fun j p hj hp hlj i hi => by rw [hb j p hj hp hlj] at hi; cases hi) fun i hi => (hlate i hi).elim nofun id
  | i :: l, listed, a, w, hl, I, hb, hlate => by
    cases hli : listed.getD i true with
    | true =>
      exact late_any hC hm HH HT hn R hreg hQ hP l (fun j hj => hl j (.tail _ hj)) I hb fun j hj => by
        rcases hlate j hj with h | h
        · cases h with
          | head => exact .inr hli
          | tail _ h => exact .inl h
        · exact .inr h
    | false =>
      obtain ⟨o, L⟩ := HT.late i (hl i (.head _))
      have hi : i < n := L.lt
      have his : i < ops.size := by omega
      have ho : ops[i]? = some o := by simpa using L.op
      obtain ⟨x, hx⟩ := L.move
      have hrunx : ∀ w, (execOp a.eval o).run P w = .ok (.value (a.eval x)) w := fun w => by unfold execOp; rw [hx]; rfl
      have hwant : Region.wanted o (yielded ops a.tmps) = true := by unfold Region.wanted; rw [L.guard]
      have hT : (T i).length = (T 0).length := recs_len R hn i (by omega)
      have hrun := (R i o hi ho).run Γ E a w hC.2 (by rw [hT]; exact I.sat) (fun t ht x hx => inv_fact R HH hn I (by omega) hx (fun j p hj hp hd => by
        obtain ⟨q1, q2⟩ := HH.look i j o p t hi hj (by simpa using ho) (by simpa using hp) hd ht
        rw [L.before] at q2; cases q2))
      obtain ⟨c', ⟨_, hv⟩, hput⟩ := (hrun.1 hwant).at (hrunx w) fun _ => trivial
      have hready : i ∈ Region.ready .any ops listed := (ready_iff I.size).2 ⟨o, ho, hli, fun j hj => by rw [L.before] at hj; cases hj⟩
      have hopen := open_set (by have := I.size; omega : i < listed.size) hli n
      rw [if_pos hi] at hopen
      rw [show open' listed n + (ops.size - n) = (open' (listed.setIfInBounds i true) n + (ops.size - n)) + 1 by omega]
      have hget : ∀ q, (listed.setIfInBounds i true).getD q true = true ↔ (q = i ∨ listed.getD q true = true) := fun q => by
        rw [Array.getD_eq_getD_getElem?, Array.getElem?_setIfInBounds]
        by_cases e : i = q
        · subst e; rw [if_pos rfl, if_pos (by have := I.size; omega)]; simp
        · rw [if_neg e, ← Array.getD_eq_getD_getElem?]
          exact ⟨.inr, fun h => h.elim (fun h => (e h.symm).elim) id⟩
      refine wpAny_first ho (fun j p cs b hp hsel => ?_) (fun c a w h => (hP _ _ _ h).elim) _ _ _ _ (fun j p hp hj _ hno => ?_) hready (.inl ⟨hwant, hrunx⟩) ?_
      · have := L.sel j p (by simpa using hp)
        unfold isSel at this
        rw [hsel] at this; cases this
      · refine apartB_apart (L.apart j p (by simpa using hp) hj fun hm => ?_)
        unfold befores at hm
        obtain ⟨e, he, rfl⟩ := List.mem_map.1 hm
        rw [List.mem_filter] at he
        exact hno e (by simpa using he.1) he.2 rfl
      · rw [← hput]
        refine late_any hC hm HH HT hn R hreg hQ hP l (fun j hj => hl j (.tail _ hj)) (I.next HH hi ho (Below.refl _ _) hv) (fun j p hj hp hlj => ?_) fun j hj => ?_
        · rcases (hget j).1 hlj with e | e
          · subst e
            rw [ho] at hp; cases hp
            exact L.before
          · exact hb j p hj hp e
        · rcases hlate j hj with h | h
          · cases h with
            | head => exact .inr ((hget i).2 (.inl rfl))
            | tail _ h => exact .inl h
          · exact .inr ((hget j).2 (.inr h))
theorem drawW_sound {C : Contracts} {nest fz : Bool} {Q : Exit → Act → World → Prop} (hC : CAll P Γ C) (hm : NoMut Γ fz) {id : Nat} {ts : List AV} {a : Act} {w : World} {k : List AV → List Ent → Prop}
    {late : List Nat} (h : drawW C nest fz P ops.toList late n ts tab k) (s : Sat Γ E ts tab a w) (hQ : ∀ ts' tab' E' a' w', k ts' tab' → Sat Γ E' ts' tab' a' w' → Q .normal a' w') : (Code.region id ops true).wp P Q a w := by
  obtain ⟨hn, hh, ht, hmix, h⟩ := h
  have hn : n ≤ ops.size := by simpa using hn
  obtain ⟨T, vv, h1, h2, h3⟩ := regP_rec hC.1 (ops := ops) (by simpa using hn) h
  have s' := s.drawn (w.drawn + 1)
  have R : Recs P ops tab n T vv := fun i o hi ho => h3 i o hi (by simpa using ho)
  refine wp_mono (Q := fun e a w => e = .normal ∧ Q e a w) (wp_region_any hmix ?_) fun e a w h => h.2
  have hlisted : ∀ i, i < ops.size → (Array.replicate ops.size false).getD i true = false := fun i hi => by simp [Array.getD, hi]
  have hopen : open' (Array.replicate ops.size false) n = n := by
    unfold open'
    rw [List.filter_eq_self.2 (fun i hi => by rw [hlisted i (by have := List.mem_range.1 hi; omega)]; rfl), List.length_range]
  have := late_any (E := E) (Q := fun e a w => e = .normal ∧ Q e a w) hC hm (headOk_spec hh) (tailOk_spec ht) hn R h2 (fun ts' tab' E' a' w' h1 h2 => ⟨rfl, hQ _ _ _ _ _ h1 h2⟩) (fun c a w h => nomatch h.1) late (a := a) (w := { w with drawn := w.drawn + 1 }) (fun _ h => h) ⟨by
      rw [h1]
      refine { s' with len := by simpa using s'.len, vals := fun i v c q1 q2 => ?_ }
      rw [List.eq_of_mem_replicate (mem_of_get q1)]; exact .imm (.unk _), by simp, fun i o d hi hl => (by rw [hlisted i (by omega)] at hl; cases hl), fun t x _ hx c hc => (by rw [h1] at hx; exact s'.vals t x c hx hc), fun j _ hj => hlisted j hj⟩
    (fun j p hj hp hl => by rw [hlisted j (by omega)] at hl; cases hl) (fun i hi => .inl hi)
  rwa [hopen, show n + (ops.size - n) = ops.size by omega] at this
end
end Sx

/- Regions whose order is drawn, the second way. -/
set_option linter.unusedVariables false
namespace Sx
open Go Go.RowKit
section
variable [Glb] {E E' : Env} {Z Z' : Nat → Prop} {tab tab' : List Ent} {P : Program} {w w' : World} {Γ : Ctx} {ts : List AV} {a : Act} {o : Oper}
theorem opF_sound {k : AV → Prop} (h : opF P o.op ts tab k) (s : Sat Γ E ts tab a w) : ∃ c v, (execOp a.eval o).run P w = .ok (.value c) w ∧ k v ∧ V E (zone Γ E) tab w v c := by
  unfold opF at h
  split at h
  · rename_i x ho
    obtain ⟨v, h1, h2⟩ := ev_sound h s
    exact ⟨a.eval x, _, (by simp [execOp, ho]), h1, h2⟩
  · rename_i x ho
    obtain ⟨v, h1, h2⟩ := ev_sound h s
    exact ⟨a.eval x, _, (by simp [execOp, ho]), h1, h2⟩
  · rename_i op t x y pos ho
    obtain ⟨v1, h1, h2⟩ := ev_sound h s
    obtain ⟨v2, h3, h4⟩ := ev_sound h1 s
    obtain ⟨v, c, g1, g2, g3, g5⟩ := binN_sound h3 s h2 h4
    have g4 := g5 op x y
    exact ⟨c, _, (by simp [execOp, ho, g4, g1]), g2, .imm g3⟩
  · rename_i op t x ho
    obtain ⟨v1, h1, h2⟩ := ev_sound h s
    obtain ⟨v, c, g1, g2, g3⟩ := unW_sound (P := P) (w := w) h1 h2
    exact ⟨c, _, (by simp [execOp, ho, g1]), g2, .imm g3⟩
  · rename_i src dst x ho
    obtain ⟨v1, h1, h2⟩ := ev_sound h s
    obtain ⟨v, c, g1, g2, g3⟩ := convW_sound h1 h2
    exact ⟨c, _, (by simp [execOp, ho, g1]), g2, g3⟩
  · rename_i t p ho
    obtain ⟨v1, h1, h2⟩ := ev_sound h s
    obtain ⟨v, c, g1, g2, g3⟩ := loadW_sound h1 s h2
    exact ⟨c, _, (by simp [execOp, ho, g1]), g2, g3⟩
  · rename_i t x lo hi ho
    obtain ⟨v1, h1, h2⟩ := ev_sound h s
    obtain ⟨lv, h3, h4⟩ := bnd_sound h1 s
    obtain ⟨hv, h5, h6⟩ := bnd_sound h3 s
    obtain ⟨v, c', g1, g2, g3⟩ := sliceW_sound h5 h2 h4 h6
    exact ⟨c', _, (by simp [execOp, ho, g1]), g2, g3⟩
  · rename_i st x f ho
    obtain ⟨v1, h1, h2⟩ := ev_sound h s
    obtain ⟨v, c, g1, g2, g3⟩ := fieldAddrW_sound h1 h2
    exact ⟨c, _, (by simp [execOp, ho, g1]), g2, g3⟩
  · rename_i st x f ho
    obtain ⟨v1, h1, h2⟩ := ev_sound h s
    obtain ⟨v, c, g1, g2, g3⟩ := fieldW_sound h1 h2
    exact ⟨c, _, (by simp [execOp, ho, g1]), g2, g3⟩
  · rename_i t x i ho
    obtain ⟨v1, h1, h2⟩ := ev_sound h s
    obtain ⟨v2, h3, h4⟩ := ev_sound h1 s
    obtain ⟨v, c, g1, g2, g3⟩ := indexAddrW_sound h3 s h2 h4
    exact ⟨c, _, (by simp [execOp, ho, g1]), g2, g3⟩
  · rename_i t x i ho
    obtain ⟨v1, h1, h2⟩ := ev_sound h s
    obtain ⟨v2, h3, h4⟩ := ev_sound h1 s
    obtain ⟨v, c, g1, g2, g3⟩ := indexW_sound h3 h2 h4
    exact ⟨c, _, (by simp [execOp, ho, g1]), g2, g3⟩
  · rename_i x i ho
    obtain ⟨v1, h1, h2⟩ := ev_sound h s
    split at h1
    · rename_i vs
      obtain ⟨cs, e, hl, hc⟩ := h2.tuple_inv
      obtain ⟨h3, h4⟩ := lget_spec h1
      have hi := (List.getElem?_eq_some_iff.1 h4.1).1
      have hi2 : i < cs.length := by omega
      exact ⟨cs[i], _, (by simp [execOp, ho, e, Instr.extract, hi2]), h4.2, hc i _ _ h4.1 (by simp [hi2])⟩
    · exact h1.elim
  · rename_i x ho
    obtain ⟨v1, h1, h2⟩ := ev_sound h s
    split at h1
    · rename_i i j t
      split at h1
      · rename_i kd sz es he
        have e := h2.prow_inv.2 _ _ _ he
        exact ⟨_, _, (by simp [execOp, ho, e]), h1, e ▸ h2⟩
      · exact h1.elim
    · have h3 := h2.rep_inv trivial
      generalize hc : a.eval x = c at h3 h2
      cases h3 with
      | pim sz es j0 t0 b o val q1 q2 q3 q4 q5 => exact ⟨_, _, (by simp [execOp, ho, hc]), h1, h2⟩
    · obtain ⟨va, vb, e, _⟩ := h2.fn_inv
      exact ⟨_, _, (by simp [execOp, ho, e]), h1, e ▸ h2⟩
    · exact h1.elim
  · rename_i c ho
    split at h
    · rename_i hcal
      obtain ⟨vs, h1, h2⟩ := evs_sound h s
      obtain ⟨v, c', g1, g2, g3⟩ := lenB_sound (ty := o.type) (con := c.args.map fun | .const _ => true | _ => false) h1 s h2
      refine ⟨c', _, ?_, g2, g3⟩
      have e1 : c.args.map a.eval = (c.args.toList.map a.eval).toArray := by apply Array.toList_inj.1; rw [Array.toList_map]
      simp only [Array.toArray_toList] at g1
      simp only [execOp, ho, resolve, hcal, Sem.run_bind, Sem.run_pure, Result.andThen_ok, invoke, e1]
      exact g1
    · rename_i hcal
      obtain ⟨vs, h1, h2⟩ := evs_sound h s
      obtain ⟨ns, h1, e⟩ := intOfs_sound h1 h2
      split at h1
      · rename_i x y
        refine ⟨.int .i64 (max x y), _, ?_, num_sound h1, .imm (.int _ _)⟩
        have e1 : c.args.map a.eval = (c.args.toList.map a.eval).toArray := by apply Array.toList_inj.1; rw [Array.toList_map]
        simp only [execOp, ho, resolve, hcal, Sem.run_bind, Sem.run_pure, Result.andThen_ok, invoke, e1, e]
        simp [builtin, Builtin.max_, Builtin.max2]
        omega
      · exact h1.elim
    · rename_i hcal
      obtain ⟨vs, h1, h2⟩ := evs_sound h s
      obtain ⟨ns, h1, e⟩ := intOfs_sound h1 h2
      split at h1
      · rename_i x y
        refine ⟨.int .i64 (min x y), _, ?_, num_sound h1, .imm (.int _ _)⟩
        have e1 : c.args.map a.eval = (c.args.toList.map a.eval).toArray := by apply Array.toList_inj.1; rw [Array.toList_map]
        simp only [execOp, ho, resolve, hcal, Sem.run_bind, Sem.run_pure, Result.andThen_ok, invoke, e1, e]
        simp [builtin, Builtin.min_, Builtin.min2]
        omega
      · exact h1.elim
    · exact h.elim
  · rename_i t parts ho
    obtain ⟨vs, h1, h2⟩ := evp_sound h s
    obtain ⟨v, c, g1, g2, g3⟩ := buildW_sound h1 h2
    have e1 : parts.map (fun (i, x) => (i, a.eval x)) = (parts.toList.map fun (i, x) => (i, a.eval x)).toArray := by apply Array.toList_inj.1; rw [Array.toList_map]
    exact ⟨c, _, (by simp [execOp, ho, e1, g1]), g2, g3⟩
  · rename_i f fi ca ho
    obtain ⟨v1, h1, h2⟩ := evs_sound h s
    obtain ⟨v2, h3, h4⟩ := evs_sound h1 s
    have e1 : fi.map a.eval = (fi.toList.map a.eval).toArray := by apply Array.toList_inj.1; rw [Array.toList_map]
    have e2 : ca.map a.eval = (ca.toList.map a.eval).toArray := by apply Array.toList_inj.1; rw [Array.toList_map]
    exact ⟨.func f (fi.toList.map a.eval).toArray (ca.toList.map a.eval).toArray, _, (by simp [execOp, ho, Instr.makeFunc, e1, e2]), h3, .fn f v1 v2 _ _ h2.1 h4.1 h2.2 h4.2⟩
  · exact h.elim
theorem ev_agree {ts ts' : List AV} {x : Operand} (h : ∀ t, x = .tmp t → ts'[t]? = ts[t]?) (k : AV → Prop) : ev ts' x k = ev ts x k := by
  cases x with
  | tmp t => show lget _ t k = lget _ t k; rw [lget_eq, lget_eq, h t rfl]
  | _ => rfl
theorem evs_agree {ts ts' : List AV} : ∀ {os : List Operand}, (∀ x ∈ os, ∀ t, x = .tmp t → ts'[t]? = ts[t]?) → ∀ (k : List AV → Prop), evs ts' os k = evs ts os k
  | [], _, k => rfl
  | x :: os, h, k => by
    show ev _ x _ = ev _ x _
    rw [ev_agree (h x (List.mem_cons_self ..))]
    congr 1
    funext v
    exact evs_agree (fun x hx => h x (List.mem_cons_of_mem _ hx)) _
theorem evp_agree {ts ts' : List AV} : ∀ {os : List (Nat × Operand)}, (∀ x ∈ os, ∀ t, x.2 = .tmp t → ts'[t]? = ts[t]?) → ∀ (k : List (Nat × AV) → Prop), evp ts' os k = evp ts os k
  | [], _, k => rfl
  | (i, x) :: os, h, k => by
    show ev _ x _ = ev _ x _
    rw [ev_agree (h (i, x) (List.mem_cons_self ..))]
    congr 1
    funext v
    exact evp_agree (fun x hx => h x (List.mem_cons_of_mem _ hx)) _
theorem bnd_agree {ts ts' : List AV} {x : Option Operand} (h : ∀ y, x = some y → ∀ t, y = .tmp t → ts'[t]? = ts[t]?) (k : Option Int → Prop) : bnd ts' x k = bnd ts x k := by
  cases x with
  | none => rfl
  | some x => show ev _ x _ = ev _ x _; rw [ev_agree (h x rfl)]
theorem opF_agree {ts ts' : List AV} {op : Op} {k : AV → Prop} (hL : ∀ t ∈ tmpsOf op.operands.toList, ts'[t]? = ts[t]?) (h : opF P op ts tab k) : opF P op ts' tab k := by
  have sn : ∀ x, x ∈ op.operands.toList → ∀ t, x = .tmp t → ts'[t]? = ts[t]? := fun x hx t e => by subst e; exact hL t (tmpsOf_mem hx)
  unfold opF at h ⊢
  split at h
  · rename_i x; simp only [ev_agree (sn x (by simp [Op.operands]))]; exact h
  · rename_i x; simp only [ev_agree (sn x (by simp [Op.operands]))]; exact h
  · rename_i op t x y pos; simp only [ev_agree (sn x (by simp [Op.operands])), ev_agree (sn y (by simp [Op.operands]))]; exact h
  · rename_i op t x; simp only [ev_agree (sn x (by simp [Op.operands]))]; exact h
  · rename_i s d x; simp only [ev_agree (sn x (by simp [Op.operands]))]; exact h
  · rename_i t x; simp only [ev_agree (sn x (by simp [Op.operands]))]; exact h
  · rename_i t x lo hi
    simp only [ev_agree (sn x (by simp [Op.operands])), bnd_agree (x := lo) (fun y e => sn y (by subst e; simp [Op.operands])), bnd_agree (x := hi) (fun y e => sn y (by subst e; simp [Op.operands]))]; exact h
  · rename_i t x f; simp only [ev_agree (sn x (by simp [Op.operands]))]; exact h
  · rename_i t x f; simp only [ev_agree (sn x (by simp [Op.operands]))]; exact h
  · rename_i t x i; simp only [ev_agree (sn x (by simp [Op.operands])), ev_agree (sn i (by simp [Op.operands]))]; exact h
  · rename_i t x i; simp only [ev_agree (sn x (by simp [Op.operands])), ev_agree (sn i (by simp [Op.operands]))]; exact h
  · rename_i x i; simp only [ev_agree (sn x (by simp [Op.operands]))]; exact h
  · rename_i x; simp only [ev_agree (sn x (by simp [Op.operands]))]; exact h
  · rename_i c
    split at h
    · rename_i hcal
      rw [evs_agree fun x hx => sn x (by simp [Op.operands, Call.operands]; exact .inr (by simpa using hx))]
      exact h
    · rename_i hcal
      rw [evs_agree fun x hx => sn x (by simp [Op.operands, Call.operands]; exact .inr (by simpa using hx))]
      exact h
    · rename_i hcal
      rw [evs_agree fun x hx => sn x (by simp [Op.operands, Call.operands]; exact .inr (by simpa using hx))]
      exact h
    · exact h.elim
  · rename_i t parts
    rw [evp_agree fun x hx => sn x.2 (by simp [Op.operands]; exact ⟨x.1, by simpa using hx⟩)]
    exact h
  · rename_i f fi ca
    rw [evs_agree fun x hx => sn x (by simp [Op.operands]; exact .inl (by simpa using hx))]
    refine congrArg (fun g => evs ts fi.toList g) (funext fun v => ?_) ▸ h
    rw [evs_agree fun x hx => sn x (by simp [Op.operands]; exact .inr (by simpa using hx))]
  · exact h.elim
theorem eval_agree {a a' : Act} {x : Operand} (h : ∀ t, x = .tmp t → a'.tmps[t]? = a.tmps[t]?) : a'.eval x = a.eval x := by
  cases x with
  | tmp t =>
    have := h t rfl
    show a'.tmps.getD t undef = a.tmps.getD t undef
    rw [Array.getD_eq_getD_getElem?, Array.getD_eq_getD_getElem?, this]
  | _ => rfl
theorem exec_agree {a a' : Act} (hs : isSel o = false) (h : ∀ t ∈ tmpsOf o.op.operands.toList, a'.tmps[t]? = a.tmps[t]?) : execOp a'.eval o = execOp a.eval o := by
  refine execOp_congr o (fun cs b e => ?_) fun x hx => eval_agree fun t e => ?_
  · unfold isSel at hs; rw [e] at hs; cases hs
  · subst e; exact h t (tmpsOf_mem (by simpa using hx))
theorem put_agree {a a' : Act} {dst : Option Tmp} {c c' : Value} (hz : a.tmps.size = a'.tmps.size) (h : a'.put dst c = a'.put dst c') : a.put dst c = a.put dst c' := by
  cases dst with
  | none => rfl
  | some d =>
    have h1 : a'.tmps.setIfInBounds d c = a'.tmps.setIfInBounds d c' := congrArg Act.tmps h
    show { a with tmps := a.tmps.setIfInBounds d c } = { a with tmps := a.tmps.setIfInBounds d c' }
    congr 1
    apply Array.ext_getElem?
    intro i
    have h2 := congrArg (fun x => x[i]?) h1
    simp only [Array.getElem?_setIfInBounds] at h2 ⊢
    rw [hz]
    by_cases e : d = i
    · subst e; simpa using h2
    · simp [e]
/-- The same operation, where what it looks at is the same. -/
theorem Did.agree {a a' : Act} {R : Value → World → Prop} (h : Did P o a' w R) (hz : a.tmps.size = a'.tmps.size) (he : execOp a'.eval o = execOp a.eval o) : Did P o a w R := by
  intro next Q hn
  have h1 := h (fun a2 w2 => ∃ c, R c w2 ∧ a2 = a'.put o.dst c) (fun _ _ _ => False) fun c w2 hr => ⟨c, hr, rfl⟩
  unfold Oper.wp at h1 ⊢
  rw [he] at h1
  have key : ∀ {c w2}, (∃ c', R c' w2 ∧ a'.put o.dst c = a'.put o.dst c') → next (a.put o.dst c) w2 := fun ⟨c', h2, h3⟩ => by
    rw [put_agree hz h3]; exact hn c' _ h2
  generalize (execOp a.eval o).run P w = r at h1 ⊢
  cases r with
  | ok n w' =>
    cases n <;> simp only [Oper.upon] at h1 ⊢
    case value u => exact key h1
    case skip => exact key h1
    case defer d =>
      obtain ⟨c', h2, h3⟩ := h1
      have := congrArg (fun x => x.defers.length) h3
      cases hd : o.dst <;> rw [hd] at this <;> simp [Act.put] at this
    case enter f args =>
      refine Calls.mono h1 fun e w'' he => ?_
      cases e with
      | returned u => exact key he
      | panicked c => exact he.elim
      | outgrown => obtain ⟨_, _, h⟩ := he; exact h.elim
    case row row args => exact Rows.mono h1 fun u w'' he => key he
  | halt x w' =>
    cases x <;> simp only [Oper.upon] at h1 ⊢
    all_goals first | exact h1.elim | exact h1
/-! what the check says -/
variable {ops : Array Oper}
structure ChkS (ops : List Oper) : Prop where
  guard : ∀ (i : Nat) o, ops[i]? = some o → o.guard = none
  sel : ∀ (i : Nat) o, ops[i]? = some o → isSel o = false
  before : ∀ (i : Nat) o, ops[i]? = some o → ∀ b ∈ befores o, b < i
  look : ∀ (i j : Nat) o p d, ops[i]? = some o → ops[j]? = some p → p.dst = some d → j ≠ i → d ∈ looks ops o → j ∈ befores o ∨ exB ops i j = true
  once : ∀ (i j : Nat) o p d, ops[i]? = some o → ops[j]? = some p → p.dst = some d → j ≠ i → o.dst ≠ some d
  own : ∀ (i : Nat) o d, ops[i]? = some o → isFl o = true → o.dst = some d → d ∉ looks ops o
theorem chkS_spec {ops : List Oper} (h : chkS ops = true) : ChkS ops := by
  unfold chkS at h
  have h1 := h
  have key : ∀ (i : Nat) o, ops[i]? = some o → o.guard = none ∧ isSel o = false ∧ (∀ b ∈ befores o, b < i) ∧ (∀ d, isFl o = true → o.dst = some d → d ∉ looks ops o) ∧ ∀ (j : Nat) p d, ops[j]? = some p → p.dst = some d → j ≠ i → (d ∈ looks ops o → j ∈ befores o ∨ exB ops i j = true) ∧ o.dst ≠ some d := by
    intro i o ho
    have := List.all_eq_true.1 h1 (o, i) (zip_mem ho)
    simp only [Bool.and_eq_true] at this
    obtain ⟨⟨⟨⟨g1, g2⟩, g3⟩, g5⟩, g4⟩ := this
    refine ⟨?_, by simpa using g2, fun b hb => by simpa using List.all_eq_true.1 g3 b hb, fun d hf hd hl => ?_, fun j p d hp hd hj => ?_⟩
    · cases hg : o.guard with
      | none => rfl
      | some x => rw [hg] at g1; cases g1
    · rw [hd] at g5; simp [hf, isIn_mem hl] at g5
    · have := List.all_eq_true.1 g4 (p, j) (zip_mem hp)
      simp only [hd, Bool.or_eq_true, Bool.and_eq_true, Bool.not_eq_true'] at this
      rcases this with h3 | ⟨h3, h4⟩
      · exact (hj (Nat.eq_of_beq_eq_true h3)).elim
      · refine ⟨fun hl => ?_, fun e => ?_⟩
        · rcases h3 with (h3 | h3) | h3
          · rw [isIn_mem hl] at h3; cases h3
          · exact .inl (mem_isIn h3)
          · exact .inr h3
        · rw [dstIs_iff.2 e] at h4; cases h4
  refine ⟨fun i o h => (key i o h).1, fun i o h => (key i o h).2.1, fun i o h => (key i o h).2.2.1, fun i j o p d h1 h2 h3 h4 h5 => ((key i o h1).2.2.2.2 j p d h2 h3 h4).1 h5, fun i j o p d h1 h2 h3 h4 => ((key i o h1).2.2.2.2 j p d h2 h3 h4).2, fun i o d h1 h2 h3 => (key i o h1).2.2.2.1 d h2 h3⟩
theorem readyL_mem {ops : List Oper} {ms done av : List Nat} {m : Nat} {o : Oper} (ho : ops[m]? = some o) (hm : m ∈ ms) (h : ∀ b ∈ befores o, b ∈ done ∨ b ∈ av) : m ∈ readyL ops ms done av := by
  unfold readyL
  rw [List.mem_filter]
  refine ⟨hm, ?_⟩
  rw [nth_eq, ho]
  refine List.all_eq_true.2 fun b hb => ?_
  rcases h b hb with h2 | h2
  · simp [isIn_mem h2]
  · simp [isIn_mem h2]
theorem remL_mem {ms : List Nat} {m q : Nat} : q ∈ remL ms m ↔ q ∈ ms ∧ q ≠ m := by
  unfold remL
  rw [List.mem_filter]
  by_cases e : q = m
  · subst e; simp
  · have : Nat.beq q m = false := by
      cases h : Nat.beq q m with
      | false => rfl
      | true => exact (e (Nat.eq_of_beq_eq_true h)).elim
    simp [this, e]
theorem conjL_mem {f : Nat → Prop} : ∀ {l : List Nat} {m : Nat}, conjL f l → m ∈ l → f m
  | [], _, _, h => by cases h
  | [x], m, h, hm => by
    rw [List.mem_singleton] at hm
    subst hm
    exact h
  | x :: y :: l, m, h, hm => by
    rcases List.mem_cons.1 hm with rfl | hm
    · exact BothP.l h
    · exact conjL_mem (l := y :: l) (BothP.r h) hm
theorem mainsOf_mem {ops : List Oper} {i : Nat} : i ∈ mainsOf ops ↔ ∃ o, ops[i]? = some o ∧ isFl o = false := by
  unfold mainsOf
  rw [List.mem_map]
  constructor
  · rintro ⟨⟨o, j⟩, h, rfl⟩
    rw [List.mem_filter] at h
    exact ⟨o, List.mem_zipIdx_iff_getElem?.1 h.1, by simpa using h.2⟩
  · rintro ⟨o, h1, h2⟩
    exact ⟨(o, i), List.mem_filter.2 ⟨zip_mem h1, by simpa using h2⟩, rfl⟩
theorem closedB_spec {ops : List Oper} {done av : List Nat} (h : closedB ops done av = true) {i : Nat} (ho : ops[i]? = some o) (hf : isFl o = true) (hb : ∀ b ∈ befores o, b ∈ done ∨ b ∈ av) : i ∈ av := by
  have := List.all_eq_true.1 h (o, i) (zip_mem ho)
  simp only [Bool.or_eq_true, Bool.not_eq_true', Bool.and_eq_false_iff] at this
  rcases this with (h1 | h1) | h1
  · rw [hf] at h1; cases h1
  · have : (befores o).all (fun b => isIn done b || isIn av b) = true := List.all_eq_true.2 fun b hb' => by
      rcases hb b hb' with h2 | h2
      · simp [isIn_mem h2]
      · simp [isIn_mem h2]
    rw [this] at h1; cases h1
  · exact mem_isIn h1
theorem surely_in {ops : List Oper} {done : List Nat} {i : Nat} {L : Nat → Prop} (hd : ∀ m ∈ done, L m) (hcl : ∀ (j : Nat) o, ops[j]? = some o → L j → ∀ b ∈ befores o, L b) (h : surely ops done i = true) : L i := by
  have key : ∀ (l : List (Oper × Nat)) (acc : List Nat), (∀ p ∈ l, ops[p.2]? = some p.1) → (∀ x ∈ acc, L x) → ∀ x ∈ l.foldl (fun acc p => match isIn done p.2 || isIn acc p.2 with
      | true => acc ++ befores p.1
      | false => acc) acc, L x := by
    intro l
    induction l with
    | nil => exact fun acc _ h => h
    | cons p l ih =>
      intro acc hp ha
      refine ih _ (fun q hq => hp q (.tail _ hq)) fun x hx => ?_
      dsimp only at hx
      split at hx
      · rename_i hb
        rw [Bool.or_eq_true] at hb
        have hL : L p.2 := hb.elim (fun h => hd _ (mem_isIn h)) fun h => ha _ (mem_isIn h)
        rcases List.mem_append.1 hx with hx | hx
        · exact ha x hx
        · exact hcl _ _ (hp p (.head _)) hL x hx
      · exact ha x hx
  exact key _ [] (fun p hp => List.mem_zipIdx_iff_getElem?.1 (List.mem_reverse.1 hp)) nofun i (mem_isIn h)
theorem isFl_dst {o : Oper} (h : isFl o = true) : ∃ d, o.dst = some d := by
  unfold isFl at h
  rw [Bool.and_eq_true] at h
  cases hd : o.dst with
  | none => rw [hd] at h; cases h.2
  | some d => exact ⟨d, rfl⟩
theorem looks_free {ops : List Oper} {o : Oper} (h : o.guard = none) : looks ops o = tmpsOf o.op.operands.toList := by unfold looks; rw [h]
/-- What a stage leaves: the values of all floating operations that may be open. -/
def Held (P : Program) (ops : List Oper) (l : List (Nat × Bool)) (ts : List AV) (tab : List Ent) : Prop := ∀ x ∈ l, ∀ o d, ops[x.1]? = some o → o.dst = some d → opF P o.op ts tab fun v => lget ts d fun u => u = v
theorem ascB_spec : ∀ {l : List (Nat × Bool)}, ascB l = true → l.Pairwise fun x y => x.1 < y.1
  | [], _ => .nil
  | x :: l, h => by
    unfold ascB at h
    rw [Bool.and_eq_true] at h
    exact .cons (fun y hy => by simpa using List.all_eq_true.1 h.1 y hy) (ascB_spec h.2)
theorem stageW_cons {ops : List Oper} {x : Nat × Bool} {l : List (Nat × Bool)} {k : List AV → Prop} : stageW P ops (x :: l) ts tab k = (match nth ops x.1 with
      | some o => match o.dst with
        | some d => match x.2 with
          | true => exP (opF P o.op ts tab) fun v => lset ts d v fun ts' => stageW P ops l ts' tab k
          | false => opF P o.op ts tab (fun v => lget ts d fun u => u = v) ∧ stageW P ops l ts tab k
        | none => False
      | none => False) := rfl
theorem lget_get {ts ts' : List AV} {d : Nat} (h : ts'[d]? = ts[d]?) (k : AV → Prop) : lget ts' d k = lget ts d k := by rw [lget_eq, lget_eq, h]
theorem offB_spec {ops : List Oper} {x y : Nat} {o p : Oper} {t : Tmp} (h : offB ops x y = true) (ho : ops[x]? = some o) (hp : ops[y]? = some p) (hd : p.dst = some t) (hne : y ≠ x) (hl : t ∈ looks ops o) : y ∈ befores o := by
  unfold offB at h
  rw [Bool.or_eq_true] at h
  rcases h with h | h
  · exact (hne (Nat.eq_of_beq_eq_true h).symm).elim
  · simp only [nth_eq, ho, hp, hd, Bool.or_eq_true, Bool.not_eq_true'] at h
    rcases h with h | h
    · rw [isIn_mem hl] at h; cases h
    · exact mem_isIn h
theorem availF_mem {ops : List Oper} {done : List Nat} {x : Nat} (h : x ∈ availF ops done) : ∃ o, ops[x]? = some o ∧ isFl o = true ∧ ∀ b ∈ befores o, b ∈ done ∨ b ∈ availF ops done := by
  have key : ∀ (l : List (Oper × Nat)) (acc : List Nat), (∀ p ∈ l, ops[p.2]? = some p.1) →
      (∀ y ∈ acc, y ∈ l.foldl (fun acc p => match isFl p.1 && (befores p.1).all (fun b => isIn done b || isIn acc b) with
        | true => acc ++ [p.2]
        | false => acc) acc) ∧
      ∀ x ∈ l.foldl (fun acc p => match isFl p.1 && (befores p.1).all (fun b => isIn done b || isIn acc b) with
        | true => acc ++ [p.2]
        | false => acc) acc, x ∈ acc ∨ ∃ o, ops[x]? = some o ∧ isFl o = true ∧ ∀ b ∈ befores o, b ∈ done ∨ b ∈ l.foldl (fun acc p => match isFl p.1 && (befores p.1).all (fun b => isIn done b || isIn acc b) with
        | true => acc ++ [p.2]
        | false => acc) acc := by
    intro l
    induction l with
    | nil => exact fun acc _ => ⟨fun y h => h, fun x h => .inl h⟩
    | cons p l ih =>
      intro acc hp
      have ih' := fun acc => ih acc (fun q hq => hp q (.tail _ hq))
      rw [List.foldl_cons]
      cases hb : isFl p.1 && (befores p.1).all (fun b => isIn done b || isIn acc b) with
      | false => exact ih' acc
      | true =>
        obtain ⟨i1, i2⟩ := ih' (acc ++ [p.2])
        refine ⟨fun y hy => i1 y (List.mem_append.2 (.inl hy)), fun x hx => ?_⟩
        rcases i2 x hx with h | h
        · rcases List.mem_append.1 h with h | h
          · exact .inl h
          · rw [List.mem_singleton] at h
            subst h
            rw [Bool.and_eq_true] at hb
            refine .inr ⟨p.1, hp p (.head _), hb.1, fun b hbb => ?_⟩
            have := List.all_eq_true.1 hb.2 b hbb
            rw [Bool.or_eq_true] at this
            rcases this with h | h
            · exact .inl (mem_isIn h)
            · exact .inr (i1 b (List.mem_append.2 (.inl (mem_isIn h))))
        · exact .inr h
  rcases (key ops.zipIdx [] (fun p hp => List.mem_zipIdx_iff_getElem?.1 hp)).2 x h with h | h
  · cases h
  · exact h
/-- What is done whenever j may begin. -/
theorem exB_done {ops : List Oper} {done : List Nat} {i j : Nat} {L : Nat → Prop} (h : exB ops i j = true) (hj : j ∈ availF ops done) (hd : ∀ m ∈ done, L m) (hcl : ∀ (j : Nat) o, ops[j]? = some o → L j → ∀ b ∈ befores o, L b) : L i := by
  obtain ⟨q, hq, _, hb⟩ := availF_mem hj
  unfold exB at h
  simp only [nth_eq, hq] at h
  obtain ⟨m, hm, h⟩ := List.any_eq_true.1 h
  rw [Bool.and_eq_true] at h
  have hmd : m ∈ done := by
    rcases hb m hm with h2 | h2
    · exact h2
    · obtain ⟨o, ho, hf, _⟩ := availF_mem h2
      rw [ho] at h
      simp [hf] at h
  exact surely_in (done := [m]) (fun x hx => by rw [List.mem_singleton.1 hx]; exact hd m hmd) hcl h.2
theorem stageW_sound {ops : List Oper} (H : ChkS ops) : ∀ {l : List (Nat × Bool)} {ts : List AV} {a : Act} {k : List AV → Prop}, l.Pairwise (fun x y => x.1 < y.1) → (∀ x ∈ l, ∃ o, ops[x.1]? = some o ∧ isFl o = true) → (∀ x ∈ l, ∀ y ∈ l, offB ops x.1 y.1 = true) → stageW P ops l ts tab k → Sat Γ E ts tab a w →
    ∃ ts' a', k ts' ∧ Sat Γ E ts' tab a' w ∧ a'.tmps.size = a.tmps.size ∧ Held P ops l ts' tab ∧ ∀ t, (∀ x ∈ l, x.2 = true → ∀ o, ops[x.1]? = some o → o.dst ≠ some t) → a'.tmps[t]? = a.tmps[t]? ∧ ts'[t]? = ts[t]?
  | [], ts, a, k, _, _, _, h, s => ⟨ts, a, h, s, rfl, nofun, fun t _ => ⟨rfl, rfl⟩⟩
  | x :: l, ts, a, k, hp, hf, hoff, h, s => by
    rw [stageW_cons] at h
    obtain ⟨o, ho, hfl⟩ := hf x (.head _)
    rw [nth_eq, ho] at h
    obtain ⟨d, hd⟩ := isFl_dst hfl
    simp only [hd] at h
    cases hp with
    | cons hlt hp =>
    -- nothing later is looked at, nor written again
    have hlook : ∀ t ∈ tmpsOf o.op.operands.toList, ∀ y ∈ l, y.2 = true → ∀ p, ops[y.1]? = some p → p.dst ≠ some t := fun t ht y hy _ p hp2 e => by
      have h1 := offB_spec (hoff x (.head _) y (.tail _ hy)) ho hp2 e (by have := hlt y hy; omega) (by rw [looks_free (H.guard _ _ ho)]; exact ht)
      have h2 := H.before _ _ ho _ h1
      have := hlt y hy
      omega
    have honce : ∀ y ∈ l, y.2 = true → ∀ p, ops[y.1]? = some p → p.dst ≠ some d := fun y hy _ p hp2 e => H.once x.1 y.1 o p d ho hp2 e (by have := hlt y hy; omega) hd
    have hown : d ∉ tmpsOf o.op.operands.toList := by
      have := H.own _ _ _ ho hfl hd
      rwa [looks_free (H.guard _ _ ho)] at this
    cases hx : x.2 with
    | true =>
      simp only [hx] at h
      cases h with
      | mk v h1 h2 =>
        obtain ⟨hdl, h2⟩ := lset_spec h2
        obtain ⟨c, v', hrun, e, hv⟩ := opF_sound (o := o) h1 s
        subst e
        obtain ⟨ts', a', g1, g2, g3, g4, g5⟩ := stageW_sound H hp (fun y hy => hf y (.tail _ hy)) (fun y hy z hz => hoff y (.tail _ hy) z (.tail _ hz)) h2 (s.tmp (d := d) hv)
        have hts : ∀ t, t ≠ d → (∀ y ∈ l, y.2 = true → ∀ p, ops[y.1]? = some p → p.dst ≠ some t) → ts'[t]? = ts[t]? := fun t hne hq => by
          rw [(g5 t hq).2, List.getElem?_set_ne (fun e => hne e.symm)]
        refine ⟨ts', a', g1, g2, by rw [g3]; simp [Act.put], fun y hy p d' hp2 hd' => ?_, fun t ht => ?_⟩
        · rcases List.mem_cons.1 hy with rfl | hy
          · rw [ho] at hp2; cases hp2
            rw [hd] at hd'; cases hd'
            have e1 : (fun v => lget ts' d fun u => u = v) = fun u => u = v' := by
              funext u
              rw [lget_eq, (g5 d honce).2, List.getElem?_set_self hdl]
              exact propext ⟨fun h => h.symm, fun h => h.symm⟩
            rw [e1]
            exact opF_agree (fun t ht => hts t (fun e => hown (e ▸ ht)) (hlook t ht)) h1
          · exact g4 y hy p d' hp2 hd'
        · have hne : t ≠ d := fun e => ht x (.head _) hx o ho (by rw [hd, e])
          refine ⟨?_, hts t hne fun y hy h => ht y (.tail _ hy) h⟩
          rw [(g5 t fun y hy h => ht y (.tail _ hy) h).1]
          show (a.tmps.setIfInBounds d c)[t]? = _
          rw [Array.getElem?_setIfInBounds, if_neg (fun e => hne e.symm)]
    | false =>
      simp only [hx] at h
      obtain ⟨ts', a', g1, g2, g3, g4, g5⟩ := stageW_sound H hp (fun y hy => hf y (.tail _ hy)) (fun y hy z hz => hoff y (.tail _ hy) z (.tail _ hz)) h.2 s
      refine ⟨ts', a', g1, g2, g3, fun y hy p d' hp2 hd' => ?_, fun t ht => g5 t fun y hy h => ht y (.tail _ hy) h⟩
      rcases List.mem_cons.1 hy with rfl | hy
      · rw [ho] at hp2; cases hp2
        rw [hd] at hd'; cases hd'
        have e1 : (fun v => lget ts' d fun u => u = v) = fun v => lget ts d fun u => u = v := by
          funext u
          exact lget_get (g5 d honce).2 _
        rw [e1]
        exact opF_agree (fun t ht => (g5 t (hlook t ht)).2) h.1
      · exact g4 y hy p d' hp2 hd'
noncomputable def cont (C : Contracts) (nest fz : Bool) (P : Program) (ops : List Oper) (fuel ms done : List Nat) (ts : List AV) (tab : List Ent) (k : List AV → List Ent → Prop) : Prop :=
  match ms with
  | [] => k ts tab
  | _ => match fuel with
    | [] => False
    | _ :: fuel => conjL (fun m => match nth ops m with
      | some o => opW C nest fz P o.op ts tab fun v ts2 tab' => putW ts2 o.dst v fun ts3 => runS C nest fz P ops fuel (remL ms m) (done ++ [m]) (availF ops done) ts3 tab' k
      | none => False) (readyL ops ms done (availF ops done))
theorem runS_eq {C : Contracts} {nest fz : Bool} {ops : List Oper} {fuel ms done pa : List Nat} {k : List AV → List Ent → Prop} : runS C nest fz P ops fuel ms done pa ts tab k = (okS ops done pa = true ∧ stageW P ops (fltS ops done pa) ts tab fun ts' => cont C nest fz P ops fuel ms done ts' tab k) := by
  cases fuel <;> cases ms <;> rfl
structure PS (P : Program) (Γ : Ctx) (ops : Array Oper) (ms done pa : List Nat) (ts : List AV) (tab : List Ent) (listed : Array Bool) (a : Act) (w : World) : Prop where
  hm : ∀ m, m ∈ mainsOf ops.toList ↔ m ∈ done ∨ m ∈ ms
  size : listed.size = ops.size
  dl : ∀ m ∈ done, listed.getD m true = true
  ml : ∀ m ∈ ms, listed.getD m true = false
  cl : ∀ (i : Nat) o, ops[i]? = some o → listed.getD i true = true → ∀ b ∈ befores o, listed.getD b true = true
  fl : ∀ (i : Nat) o, ops[i]? = some o → isFl o = true → listed.getD i true = true → i ∈ pa
  sat : ∃ E a', Sat Γ E ts tab a' w ∧ a.tmps.size = a'.tmps.size ∧ ∀ t, (∀ (i : Nat) o, ops[i]? = some o → isFl o = true → o.dst = some t → i ∈ pa → listed.getD i true = true) → a'.tmps[t]? = a.tmps[t]?
  dfr : a.defers = []
/-- A stage's operations, told. -/
theorem PS.stage {C : Contracts} {nest fz : Bool} (H : ChkS ops.toList) {fuel ms done pa : List Nat} {k : List AV → List Ent → Prop} {listed : Array Bool} {a : Act} (I : PS P Γ ops ms done pa ts tab listed a w) (h : runS C nest fz P ops.toList fuel ms done pa ts tab k) :
    ∃ ts', PS P Γ ops ms done (availF ops.toList done) ts' tab listed a w ∧ closedB ops.toList done (availF ops.toList done) = true ∧ Held P ops.toList (fltS ops.toList done pa) ts' tab ∧ cont C nest fz P ops.toList fuel ms done ts' tab k := by
  rw [runS_eq] at h
  obtain ⟨hok, h⟩ := h
  unfold okS at hok
  simp only [Bool.and_eq_true] at hok
  obtain ⟨⟨⟨⟨q1, q2⟩, q3⟩, q4⟩, q5⟩ := hok
  obtain ⟨E, a', s, hz, hag⟩ := I.sat
  have hf : ∀ x ∈ fltS ops.toList done pa, ∃ o, ops.toList[x.1]? = some o ∧ isFl o = true := fun x hx => by
    have := List.all_eq_true.1 q3 x hx
    rw [nth_eq] at this
    cases ho : ops.toList[x.1]? with
    | none => rw [ho] at this; cases this
    | some o => rw [ho] at this; exact ⟨o, rfl, this⟩
  obtain ⟨ts', a2, g1, g2, g3, g4, g5⟩ := stageW_sound H (ascB_spec q2) hf (fun x hx y hy => List.all_eq_true.1 (List.all_eq_true.1 q5 x hx) y hy) h s
  refine ⟨ts', { I with fl := fun i o ho hfl hl => mem_isIn (List.all_eq_true.1 q4 i (I.fl i o ho hfl hl)), sat := ⟨E, a2, g2, by rw [hz, g3], fun t ht => ?_⟩ }, q1, g4, g1⟩
  rw [(g5 t fun x hx hnew o ho e => ?_).1, hag t fun i o ho hfl hd hpa => ht i o ho hfl hd (mem_isIn (List.all_eq_true.1 q4 i hpa))]
  have hxa : x.1 ∈ availF ops.toList done := by
    unfold fltS at hx
    obtain ⟨i, hi, rfl⟩ := List.mem_map.1 hx
    exact (List.mem_filter.1 hi).1
  have h1 := ht x.1 o (by simpa using ho) (by
    obtain ⟨o', ho', hfl⟩ := hf x hx
    rw [ho] at ho'; cases ho'; exact hfl) e hxa
  unfold fltS at hx
  obtain ⟨i, hi, rfl⟩ := List.mem_map.1 hx
  have h2 := I.fl i o (by simpa using ho) (by
    obtain ⟨o', ho', hfl⟩ := hf _ hx
    rw [ho] at ho'; cases ho'; exact hfl) h1
  simp only [isIn_mem h2] at hnew
  cases hnew
theorem getD_set {listed : Array Bool} {i : Nat} (hi : i < listed.size) (q : Nat) : (listed.setIfInBounds i true).getD q true = true ↔ (q = i ∨ listed.getD q true = true) := by
  rw [Array.getD_eq_getD_getElem?, Array.getElem?_setIfInBounds]
  by_cases e : i = q
  · subst e; rw [if_pos rfl, if_pos hi]; simp
  · rw [if_neg e, ← Array.getD_eq_getD_getElem?]
    exact ⟨.inr, fun h => h.elim (fun h => (e h.symm).elim) id⟩
theorem put_get {a : Act} {d : Nat} {c : Value} {t : Nat} : (a.put (some d) c).tmps[t]? = if d = t then (if d < a.tmps.size then some c else none) else a.tmps[t]? := by
  show (a.tmps.setIfInBounds d c)[t]? = _
  rw [Array.getElem?_setIfInBounds]
theorem put_same {a a' : Act} {o : Oper} {c : Value} (hz : a.tmps.size = a'.tmps.size) {t : Nat} (h : o.dst ≠ some t → a'.tmps[t]? = a.tmps[t]?) : (a'.put o.dst c).tmps[t]? = (a.put o.dst c).tmps[t]? := by
  cases hd : o.dst with
  | none => exact h (by rw [hd]; nofun)
  | some d =>
    rw [put_get, put_get, hz]
    by_cases e : d = t
    · rw [if_pos e, if_pos e]
    · rw [if_neg e, if_neg e]; exact h (by rw [hd]; exact fun e2 => e (by cases e2; rfl))
theorem post_any {C : Contracts} {nest fz : Bool} {Q : Exit → Act → World → Prop} (hC : CAll P Γ C) (hm : NoMut Γ fz) (H : ChkS ops.toList)
    {k : List AV → List Ent → Prop} (hQ : ∀ ts' tab' E' a' w', k ts' tab' → Sat Γ E' ts' tab' a' w' → Q .normal a' w') :
    ∀ (u : Nat) {fuel ms done pa : List Nat} {ts : List AV} {tab : List Ent} {listed : Array Bool} {a : Act} {w : World}, open' listed ops.size = u → PS P Γ ops ms done (availF ops.toList done) ts tab listed a w → closedB ops.toList done (availF ops.toList done) = true →
      Held P ops.toList (fltS ops.toList done pa) ts tab → cont C nest fz P ops.toList fuel ms done ts tab k → (∀ x ∈ availF ops.toList done, surely ops.toList done x = false → ∃ b, (x, b) ∈ fltS ops.toList done pa) → wpAny P .any ops Q u listed a w
  | 0, fuel, ms, done, pa, ts, tab, listed, a, w, hu, I, hcl, hh, hc, _ => by
    have hall : ∀ i, i < ops.size → listed.getD i true = true := fun i hi => open_zero hu hi
    have hms : ms = [] := by
      cases hq : ms with
      | nil => rfl
      | cons m ms' =>
        have h1 := I.ml m (by rw [hq]; exact .head _)
        have h2 : m ∈ mainsOf ops.toList := by rw [I.hm, hq]; exact .inr (.head _)
        obtain ⟨o, ho, _⟩ := mainsOf_mem.1 h2
        have h3 := hall m (by have := (List.getElem?_eq_some_iff.1 ho).1; simpa using this)
        rw [h3] at h1; cases h1
    subst hms
    obtain ⟨E, a', s, hz, hag⟩ := I.sat
    refine ⟨?_, hQ ts tab E a w hc ?_⟩
    · cases hr : Region.ready .any ops listed with
      | nil => rfl
      | cons i l =>
        obtain ⟨o, ho, h1, _⟩ := (ready_iff I.size).1 (show i ∈ Region.ready .any ops listed by rw [hr]; exact .head _)
        rw [hall i (Array.getElem?_eq_some_iff.1 ho).1] at h1; cases h1
    · refine { s with dfr := I.dfr, len := by rw [hz]; exact s.len, vals := fun i v c h1 h2 => s.vals i v c h1 ?_ }
      rw [hag i fun j o ho _ _ _ => hall j (Array.getElem?_eq_some_iff.1 ho).1]
      exact h2
  | u + 1, fuel, ms, done, pa, ts, tab, listed, a, w, hu, I, hcl, hh, hc, hin => by
    have hsz := I.size
    have nz : ∀ {b : Nat}, listed.getD b false = true → b < ops.size := fun {b} h => by
      rcases Nat.lt_or_ge b ops.size with h2 | h2
      · exact h2
      · rw [Array.getD_eq_getD_getElem?, Array.getElem?_eq_none (by omega)] at h; cases h
    refine ⟨fun he => ?_, fun i hi => ?_⟩
    · obtain ⟨i0, h1, h2, h3⟩ := open_pos (listed := listed) (n := ops.size) (by omega)
      have : i0 ∈ Region.ready .any ops listed := (ready_iff I.size).2 ⟨ops[i0], by simp [h1], h2, fun j hj => by
        have hlt := H.before i0 ops[i0] (by simp [h1]) j hj
        rw [getD_lt (b' := true) (by omega)]
        exact h3 j hlt⟩
      rw [he] at this; cases this
    obtain ⟨o, ho, hun, hbf⟩ := (ready_iff I.size).1 hi
    have his : i < ops.size := (Array.getElem?_eq_some_iff.1 ho).1
    have hol : ops.toList[i]? = some o := by simpa using ho
    have hbf2 : ∀ b ∈ befores o, listed.getD b true = true := fun b hb => by
      have h1 := hbf b hb
      rwa [getD_lt (b' := true) (by have := nz h1; omega)] at h1
    have hg := H.guard i o hol
    have hwant : Region.wanted o (yielded ops a.tmps) = true := by unfold Region.wanted; rw [hg]
    obtain ⟨E, a', s, hz, hag⟩ := I.sat
    have hu' : open' (listed.setIfInBounds i true) ops.size = u := by
      have := open_set (by omega : i < listed.size) hun ops.size
      rw [if_pos his] at this
      omega
    have hget := getD_set (listed := listed) (i := i) (by omega)
    -- what is looked at is there
    have hlook : ∀ t ∈ tmpsOf o.op.operands.toList, a'.tmps[t]? = a.tmps[t]? := fun t ht => hag t fun j p hp hf hd hja => by
      by_cases e : j = i
      · subst e
        rw [ho] at hp; cases hp
        exact (H.own _ _ _ hol hf hd (by rw [looks_free hg]; exact ht)).elim
      · rcases H.look i j o p t hol (by simpa using hp) hd e (by rw [looks_free hg]; exact ht) with h | h
        · exact hbf2 j h
        · have := exB_done (L := fun j => listed.getD j true = true) h hja I.dl (fun j o ho hl => I.cl j o (by simpa using ho) hl)
          rw [this] at hun; cases hun
    have hexec : execOp a'.eval o = execOp a.eval o := exec_agree (H.sel i o hol) hlook
    have hcl' : ∀ (j : Nat) p, ops[j]? = some p → (listed.setIfInBounds i true).getD j true = true → ∀ b ∈ befores p, (listed.setIfInBounds i true).getD b true = true := fun j p hp hl b hb => by
      rw [hget]
      rcases (hget j).1 hl with e | e
      · subst e; rw [ho] at hp; cases hp; exact .inr (hbf2 b hb)
      · exact .inr (I.cl j p hp e b hb)
    unfold wpOp
    rw [ho]
    dsimp only
    rw [hwant, if_pos rfl]
    refine .inl ?_
    cases hf : isFl o with
    | true =>
      have hav : i ∈ availF ops.toList done := closedB_spec hcl hol hf fun b hb => by
        have h1 := hbf2 b hb
        have hbs : b < ops.size := nz (hbf b hb)
        cases hfb : isFl ops[b] with
        | true => exact .inr (I.fl b ops[b] (by simp [hbs]) hfb h1)
        | false =>
          have : b ∈ mainsOf ops.toList := mainsOf_mem.2 ⟨ops[b], by simp [hbs], hfb⟩
          rw [I.hm] at this
          rcases this with h2 | h2
          · exact .inl h2
          · rw [I.ml b h2] at h1; cases h1
      have hns : surely ops.toList done i = false := by
        cases hq : surely ops.toList done i with
        | false => rfl
        | true =>
          have := surely_in (L := fun j => listed.getD j true = true) I.dl (fun j o ho hl => I.cl j o (by simpa using ho) hl) hq
          rw [this] at hun; cases hun
      obtain ⟨b, hmem⟩ := hin i hav hns
      obtain ⟨d, hd⟩ := isFl_dst hf
      obtain ⟨c, v, hrun, hv1, hv2⟩ := opF_sound (o := o) (hh _ hmem o d hol hd) s
      have hv1 : ts[d]? = some v := by
        rw [lget_eq] at hv1
        cases hq : ts[d]? with
        | none => rw [hq] at hv1; exact hv1.elim
        | some x => rw [hq] at hv1; rw [show x = v from hv1]
      have hts : ts.set d v = ts := by
        apply List.ext_getElem?
        intro q
        rw [List.getElem?_set]
        by_cases e : d = q
        · subst e
          rw [if_pos rfl]
          have := (List.getElem?_eq_some_iff.1 hv1).1
          rw [if_pos this, hv1]
        · rw [if_neg e]
      have s2 := s.tmp (d := d) hv2
      rw [hts] at s2
      rw [hexec] at hrun
      unfold Oper.wp
      rw [hrun]
      show wpAny P .any ops Q u (listed.setIfInBounds i true) (a.put o.dst c) w
      refine post_any hC hm H hQ u (pa := pa) hu' ⟨I.hm, by simpa using I.size, fun m h => (hget m).2 (.inr (I.dl m h)), fun m h => ?_, hcl', fun j p hp hfp hl => ?_, ⟨E, a'.put o.dst c, by rw [hd]; exact s2, ?_, fun t ht => ?_⟩, ?_⟩ hcl hh hc hin
      · cases hq : (listed.setIfInBounds i true).getD m true with
        | false => rfl
        | true =>
          rcases (hget m).1 hq with e | e
          · subst e
            have : m ∈ mainsOf ops.toList := by rw [I.hm]; exact .inr h
            obtain ⟨p, hp, hfp⟩ := mainsOf_mem.1 this
            rw [hol] at hp; cases hp
            rw [hf] at hfp; cases hfp
          · rw [I.ml m h] at e; cases e
      · rcases (hget j).1 hl with e | e
        · subst e; exact hav
        · exact I.fl j p hp hfp e
      · rw [hd]; show (a.tmps.setIfInBounds d c).size = (a'.tmps.setIfInBounds d c).size; simp [hz]
      · refine put_same hz fun hne => hag t fun j p hp hfp hdp hja => ?_
        rcases (hget j).1 (ht j p hp hfp hdp hja) with e | e
        · subst e; rw [ho] at hp; cases hp; exact (hne hdp).elim
        · exact e
      · cases o.dst <;> exact I.dfr
    | false =>
      have hmi : i ∈ mainsOf ops.toList := mainsOf_mem.2 ⟨o, hol, hf⟩
      rw [I.hm] at hmi
      have hmi : i ∈ ms := hmi.resolve_left fun h => by rw [I.dl i h] at hun; cases hun
      have hrd : i ∈ readyL ops.toList ms done (availF ops.toList done) := readyL_mem hol hmi fun b hb => by
        have h1 := hbf2 b hb
        have hbs : b < ops.size := nz (hbf b hb)
        cases hfb : isFl ops[b] with
        | true => exact .inr (I.fl b ops[b] (by simp [hbs]) hfb h1)
        | false =>
          have : b ∈ mainsOf ops.toList := mainsOf_mem.2 ⟨ops[b], by simp [hbs], hfb⟩
          rw [I.hm] at this
          rcases this with h2 | h2
          · exact .inl h2
          · rw [I.ml b h2] at h1; cases h1
      obtain ⟨fuel', hc⟩ : ∃ fuel', conjL (fun m => match nth ops.toList m with
        | some o => opW C nest fz P o.op ts tab fun v ts2 tab' => putW ts2 o.dst v fun ts3 => runS C nest fz P ops.toList fuel' (remL ms m) (done ++ [m]) (availF ops.toList done) ts3 tab' k
        | none => False) (readyL ops.toList ms done (availF ops.toList done)) := by
        cases ms with
        | nil => cases hmi
        | cons m0 ms0 =>
          cases fuel with
          | nil => exact hc.elim
          | cons x fuel' => exact ⟨fuel', hc⟩
      have hc := conjL_mem hc hrd
      simp only [nth_eq, hol] at hc
      have hdid := (opW_sound hC hc s hm).agree hz hexec
      refine hdid _ _ fun c w' hr => ?_
      obtain ⟨v, ts2, tab2, E2, h1, h2, h3⟩ := hr
      obtain ⟨ts3, h4, h5⟩ := putW_sound h1 h2 h3
      have I2 : PS P Γ ops (remL ms i) (done ++ [i]) (availF ops.toList done) ts3 tab2 (listed.setIfInBounds i true) (a.put o.dst c) w' := by
        refine ⟨fun m => ?_, by simpa using I.size, fun m h => ?_, fun m h => ?_, hcl', fun j p hp hfp hl => ?_, ⟨E2, a'.put o.dst c, h5, ?_, fun t ht => ?_⟩, ?_⟩
        · rw [I.hm, remL_mem, List.mem_append, List.mem_singleton]
          constructor
          · rintro (h | h)
            · exact .inl (.inl h)
            · by_cases e : m = i
              · exact .inl (.inr e)
              · exact .inr ⟨h, e⟩
          · rintro ((h | rfl) | ⟨h, _⟩)
            · exact .inl h
            · exact .inr hmi
            · exact .inr h
        · rw [hget]
          rcases List.mem_append.1 h with h | h
          · exact .inr (I.dl m h)
          · exact .inl (List.mem_singleton.1 h)
        · rw [remL_mem] at h
          cases hq : (listed.setIfInBounds i true).getD m true with
          | false => rfl
          | true =>
            rcases (hget m).1 hq with e | e
            · exact (h.2 e).elim
            · rw [I.ml m h.1] at e; cases e
        · rcases (hget j).1 hl with e | e
          · subst e; rw [ho] at hp; cases hp; rw [hf] at hfp; cases hfp
          · exact I.fl j p hp hfp e
        · cases o.dst with
          | none => exact hz
          | some d => show (a.tmps.setIfInBounds d c).size = (a'.tmps.setIfInBounds d c).size; simp [hz]
        · refine put_same hz fun hne => hag t fun j p hp hfp hdp hja => ?_
          rcases (hget j).1 (ht j p hp hfp hdp hja) with e | e
          · subst e; rw [ho] at hp; cases hp; exact (hne hdp).elim
          · exact e
        · cases o.dst <;> exact I.dfr
      obtain ⟨ts4, I3, g1, g2, g3⟩ := I2.stage H h4
      exact post_any hC hm H hQ u (pa := availF ops.toList done) hu' I3 g1 g2 g3 fun x hx hs => ⟨_, List.mem_map.2 ⟨x, List.mem_filter.2 ⟨hx, by rw [hs]; rfl⟩, rfl⟩⟩
theorem drawS_sound {C : Contracts} {nest fz : Bool} {Q : Exit → Act → World → Prop} (hC : CAll P Γ C) (hm : NoMut Γ fz) {id : Nat} {k : List AV → List Ent → Prop}
    (h : drawS C nest fz P ops.toList ts tab k) (s : Sat Γ E ts tab a w) (hQ : ∀ ts' tab' E' a' w', k ts' tab' → Sat Γ E' ts' tab' a' w' → Q .normal a' w') : (Code.region id ops true).wp P Q a w := by
  obtain ⟨hchk, hmix, h⟩ := h
  have H := chkS_spec hchk
  refine wp_region_any hmix ?_
  have hlisted : ∀ i, i < ops.size → (Array.replicate ops.size false).getD i true = false := fun i hi => by simp [Array.getD, hi]
  have hlt : ∀ {i : Nat} {o : Oper}, ops[i]? = some o → i < ops.size := fun h => (Array.getElem?_eq_some_iff.1 h).1
  have I : PS P Γ ops (mainsOf ops.toList) [] [] ts tab (Array.replicate ops.size false) a { w with drawn := w.drawn + 1 } := by
    refine ⟨fun m => ⟨.inr, fun h => h.elim nofun fun h => h⟩, by simp, nofun, fun m hm => ?_, fun i o ho hl => ?_, fun i o ho hf hl => ?_, ⟨E, a, s.drawn _, rfl, fun _ _ => rfl⟩, s.dfr⟩
    · obtain ⟨o, ho, _⟩ := mainsOf_mem.1 hm
      exact hlisted m (hlt (by simpa using ho))
    · rw [hlisted i (hlt ho)] at hl; cases hl
    · rw [hlisted i (hlt ho)] at hl; cases hl
  obtain ⟨ts4, I3, g1, g2, g3⟩ := I.stage H h
  have hopen : open' (Array.replicate ops.size false) ops.size = ops.size := by
    unfold open'
    rw [List.filter_eq_self.2 (fun i hi => by rw [hlisted i (by have := List.mem_range.1 hi; omega)]; rfl), List.length_range]
  exact post_any hC hm H hQ ops.size (pa := []) hopen I3 g1 g2 g3 fun x hx hs => ⟨_, List.mem_map.2 ⟨x, List.mem_filter.2 ⟨hx, by rw [hs]; rfl⟩, rfl⟩⟩
end
end Sx

/- A region whose order is drawn: the first operations only look, the others run in every order that is left open. -/
set_option linter.unusedVariables false
namespace Sx
open Go Go.RowKit
section
variable [Glb] {E : Env} {tab : List Ent} {P : Program} {Γ : Ctx} {ops : Array Oper} {n N : Nat} {T : Nat → List AV} {vv : Nat → AV}
theorem rangeT_mem : ∀ (k n i : Nat), i ∈ rangeT k n ↔ n ≤ i ∧ i < n + k
  | 0, n, i => by
    show i ∈ ([] : List Nat) ↔ _
    simp
  | k + 1, n, i => by
    show i ∈ n :: rangeT k (n + 1) ↔ _
    rw [List.mem_cons, rangeT_mem k (n + 1) i]
    omega
theorem rangeT_len : ∀ (k n : Nat), (rangeT k n).length = k
  | 0, n => rfl
  | k + 1, n => by show (n :: rangeT k (n + 1)).length = _; rw [List.length_cons, rangeT_len]
theorem rangeT_nodup : ∀ (k n : Nat), (rangeT k n).Nodup
  | 0, n => List.nodup_nil
  | k + 1, n => by
    show (n :: rangeT k (n + 1)).Nodup
    rw [List.nodup_cons]
    exact ⟨fun h => by have := (rangeT_mem _ _ _).1 h; omega, rangeT_nodup k (n + 1)⟩
structure TailT (ops : List Oper) (n : Nat) : Prop where
  before : ∀ (j : Nat) p, ops[j]? = some p → ∀ i ∈ befores p, i < j
  reach : ∀ (j : Nat) p, n ≤ j → ops[j]? = some p → (∃ i ∈ befores p, n ≤ i) ∨ ∀ i, i < n → latU ops n i = true ∨ i ∈ cloT ops p (rangeT n 0)
theorem tailT_spec {ops : List Oper} {n : Nat} (h : tailT ops n = true) : TailT ops n := by
  unfold tailT at h
  have key := fun (j : Nat) (p : Oper) (hp : ops[j]? = some p) => List.all_eq_true.1 h (p, j) (zip_mem hp)
  refine ⟨fun j p hp i hi => ?_, fun j p hj hp => ?_⟩
  · have := key j p hp
    simp only [Bool.and_eq_true] at this
    have := List.all_eq_true.1 this.1 i hi
    simpa using this
  · have := key j p hp
    simp only [Bool.and_eq_true] at this
    have h2 := this.2
    rw [show Nat.blt j n = false by
      cases hq : Nat.blt j n with
      | false => rfl
      | true => have : j < n := by simpa using hq
                omega] at h2
    simp only [Bool.or_eq_true] at h2
    rcases h2 with h2 | h2
    · obtain ⟨i, hi, h3⟩ := List.any_eq_true.1 h2
      exact .inl ⟨i, hi, by simpa using h3⟩
    · right
      intro i hi
      have := List.all_eq_true.1 h2 i ((rangeT_mem n 0 i).2 ⟨Nat.zero_le _, by omega⟩)
      simp only [Bool.or_eq_true] at this
      exact this.imp id mem_isIn
theorem clo_listed {ops : Array Oper} {listed : Array Bool} {n : Nat} {p : Oper} (hp : ∀ i ∈ befores p, i < n → listed.getD i true = true) (hcl : ∀ (j : Nat) q, j < n → ops[j]? = some q → listed.getD j true = true → ∀ i ∈ befores q, listed.getD i true = true) :
    ∀ l : List Nat, (∀ i ∈ l, i < n) → ∀ i ∈ cloT ops.toList p l, i < n ∧ listed.getD i true = true
  | [], _, i, hi => by cases hi
  | x :: l, hl, i, hi => by
    have ih := clo_listed hp hcl l (fun i hi => hl i (.tail _ hi))
    have e : cloT ops.toList p (x :: l) = match isIn (befores p) x || (cloT ops.toList p l).any (fun m => match nth ops.toList m with | some q => isIn (befores q) x | none => false) with
      | true => x :: cloT ops.toList p l
      | false => cloT ops.toList p l := rfl
    rw [e] at hi
    split at hi
    · rename_i hc
      rcases List.mem_cons.1 hi with e | e
      · subst e
        refine ⟨hl i (.head _), ?_⟩
        simp only [Bool.or_eq_true] at hc
        rcases hc with hc | hc
        · exact hp i (mem_isIn hc) (hl i (.head _))
        · obtain ⟨m, hm, h2⟩ := List.any_eq_true.1 hc
          obtain ⟨h3, h4⟩ := ih m hm
          split at h2
          · rename_i q hq
            rw [nth_eq] at hq
            exact hcl m q h3 (by simpa using hq) h4 i (mem_isIn h2)
          · cases h2
      · exact ih i e
    · exact ih i hi
theorem remL_nodup {ms : List Nat} {m : Nat} (h : ms.Nodup) : (remL ms m).Nodup := h.filter _
theorem remL_len {ms : List Nat} {m : Nat} (h : ms.Nodup) (hm : m ∈ ms) : (remL ms m).length + 1 = ms.length := by
  induction ms with
  | nil => cases hm
  | cons x xs ih =>
    rw [List.nodup_cons] at h
    unfold remL
    by_cases e : x = m
    · subst e
      have : xs.filter (fun q => !(Nat.beq q x)) = xs := List.filter_eq_self.2 fun q hq => by
        have hne : q ≠ x := fun e => h.1 (e ▸ hq)
        cases hb : Nat.beq q x with
        | false => rfl
        | true => exact (hne (Nat.eq_of_beq_eq_true hb)).elim
      rw [List.filter_cons, if_neg (by simp), this]
      rfl
    · have hx : m ∈ xs := by
        rcases List.mem_cons.1 hm with h | h
        · exact (e h.symm).elim
        · exact h
      have := ih h.2 hx
      rw [List.filter_cons, if_pos (by
        cases hb : Nat.beq x m with
        | false => rfl
        | true => exact (e (Nat.eq_of_beq_eq_true hb)).elim), List.length_cons, List.length_cons]
      unfold remL at this
      omega
/-- The operations that are left, in every order. -/
theorem perm_any {C : Contracts} {nest fz : Bool} {Q : Exit → Act → World → Prop} (hC : CAll P Γ C) (hm : NoMut Γ fz) (HT : TailT ops.toList n) :
    ∀ (f : Nat) (rem : List Nat) {ts : List AV} {tab : List Ent} {E : Env} {a : Act} {w : World} {k : List AV → List Ent → Prop} {listed : Array Bool}, rem.Nodup → rem.length = f → listed.size = ops.size →
    (∀ i, i < ops.size → (listed.getD i true = true ↔ i ∉ rem)) → (∀ i ∈ rem, i < ops.size) → runT C nest fz P ops.toList f rem ts tab k → Sat Γ E ts tab a w →
    (∀ ts' tab' E' a' w', k ts' tab' → Sat Γ E' ts' tab' a' w' → Q .normal a' w') → wpAny P .any ops Q f listed a w
  | 0, rem, ts, tab, E, a, w, k, listed, hnd, hlen, hs, hli, hr, h, s, hQ => by
    have := List.eq_nil_of_length_eq_zero hlen
    subst this
    refine ⟨List.eq_nil_iff_forall_not_mem.2 fun i hi => ?_, hQ _ _ _ _ _ h s⟩
    obtain ⟨o, ho, h1, _⟩ := (ready_iff hs).1 hi
    have his : i < ops.size := (Array.getElem?_eq_some_iff.1 ho).1
    rw [(hli i his).2 (by simp)] at h1; cases h1
  | f + 1, rem, ts, tab, E, a, w, k, listed, hnd, hlen, hs, hli, hr, h, s, hQ => by
    obtain ⟨x, xs, rfl⟩ : ∃ x xs, rem = x :: xs := by
      cases rem with
      | nil => cases hlen
      | cons x xs => exact ⟨x, xs, rfl⟩
    generalize hrem : x :: xs = rem at *
    have hlist : ∀ (i b : Nat), ops[i]? ≠ none → b ∉ rem → b < ops.size → listed.getD b false = true := fun i b _ hb hbs => by
      rw [getD_lt (b' := true) (by omega)]; exact (hli b hbs).2 hb
    -- one that is ready
    have hex : ∃ i, i ∈ rem ∧ ∀ j ∈ rem, i ≤ j := by
      have hne : rem ≠ [] := by rw [← hrem]; exact List.cons_ne_nil _ _
      refine ⟨rem.min hne, List.min_mem hne, fun j hj => List.min_le_of_mem hj⟩
    obtain ⟨i0, hi0, hmin⟩ := hex
    have his0 := hr i0 hi0
    have hready0 : i0 ∈ Region.ready .any ops listed := (ready_iff hs).2 ⟨ops[i0], by simp [his0], by
      cases hq : listed.getD i0 true with
      | false => rfl
      | true => exact ((hli i0 his0).1 hq hi0).elim, fun j hj => by
        have hjlt := HT.before i0 ops[i0] (by simp [his0]) j hj
        rw [getD_lt (b' := true) (by omega)]
        exact (hli j (by omega)).2 fun hjr => by have := hmin j hjr; omega⟩
    refine ⟨fun he => (by rw [he] at hready0; cases hready0), fun i hi => ?_⟩
    obtain ⟨o, ho, g1, g2⟩ := (ready_iff hs).1 hi
    have his : i < ops.size := (Array.getElem?_eq_some_iff.1 ho).1
    have hin : i ∈ rem := by
      by_cases h : i ∈ rem
      · exact h
      · rw [(hli i his).2 h] at g1; cases g1
    have hrd : i ∈ readyT ops.toList rem := by
      unfold readyT
      rw [List.mem_filter]
      refine ⟨hin, ?_⟩
      rw [nth_eq, show ops.toList[i]? = some o by simpa using ho]
      dsimp only
      rw [List.all_eq_true]
      intro b hb
      have hbs : b < ops.size := by have := HT.before i o (by simpa using ho) b hb; omega
      have := g2 b hb
      rw [getD_lt (b' := true) (by omega)] at this
      have := (hli b hbs).1 this
      cases hq : isIn rem b with
      | false => rfl
      | true => exact (this (mem_isIn hq)).elim
    have hc : conjL (fun m => match nth ops.toList m with
        | some o => operW C nest fz P ops.toList o ts tab fun ts' tab' => runT C nest fz P ops.toList f (remL rem m) ts' tab' k
        | none => False) (readyT ops.toList rem) := by
      rw [← hrem] at h ⊢
      exact h
    have hc := conjL_mem hc hrd
    rw [nth_eq, show ops.toList[i]? = some o by simpa using ho] at hc
    replace hc : operW C nest fz P ops.toList o ts tab fun ts' tab' => runT C nest fz P ops.toList f (remL rem i) ts' tab' k := hc
    have hli' : ∀ q, q < ops.size → ((listed.setIfInBounds i true).getD q true = true ↔ q ∉ remL rem i) := fun q hq => by
      rw [Array.getD_eq_getD_getElem?, Array.getElem?_setIfInBounds, remL_mem]
      by_cases e : i = q
      · subst e; rw [if_pos rfl, if_pos (by omega)]; simp
      · rw [if_neg e, ← Array.getD_eq_getD_getElem?, hli q hq]
        exact ⟨fun h h2 => h h2.1, fun h h2 => h ⟨h2, fun e2 => e e2.symm⟩⟩
    have hlen' := remL_len hnd hin
    unfold wpOp
    rw [ho]
    dsimp only
    unfold operW at hc
    obtain ⟨b, ts1, h, s1, hw⟩ := guardW_sound hc s
    rw [hw]
    cases b with
    | true =>
      refine .inl ((opW_sound hC h s1 hm) _ _ fun c w' hr' => ?_)
      obtain ⟨v, ts', tab', E', h1, h2, h3⟩ := hr'
      obtain ⟨ts2, h4, h5⟩ := putW_sound h1 h2 h3
      exact perm_any hC hm HT f (remL rem i) (remL_nodup hnd) (by omega) (by simpa using hs) hli' (fun q hq => hr q (remL_mem.1 hq).1) h4 h5 hQ
    | false =>
      obtain ⟨ts2, h4, h5⟩ := putW_sound h s1 .undef
      exact perm_any hC hm HT f (remL rem i) (remL_nodup hnd) (by omega) (by simpa using hs) hli' (fun q hq => hr q (remL_mem.1 hq).1) h4 h5 hQ
theorem latsV_mem {ops : List Oper} {ts : List AV} : ∀ {l : List Nat} {i : Nat}, latsV ops ts l → i ∈ l → latV ops ts i
  | [], i, _, hi => by cases hi
  | x :: l, i, h, hi => by
    have h : latV ops ts x ∧ latsV ops ts l := h
    rcases List.mem_cons.1 hi with e | e
    · subst e; exact h.1
    · exact latsV_mem h.2 e
theorem str_const (op : BinOp) (a b : ByteArray) : (∃ c, ∀ w, (Op.stringOp op a b).run P w = .ok c w) ∨ ∃ m, (∀ w, (Op.stringOp op a b).run P w = .halt m w) ∧ (match m with | .panic _ => False | _ => True) := by
  unfold Op.stringOp
  dsimp only
  split
  · split
    · exact .inr ⟨_, fun _ => rfl, trivial⟩
    · exact .inl ⟨_, fun _ => rfl⟩
  all_goals first
    | exact .inl ⟨_, fun _ => rfl⟩
    | exact .inr ⟨_, fun _ => rfl, trivial⟩
theorem ofVal_str {v : Value} {s : List UInt8} (h : ofVal v = .str s) : ∃ b, v = .string b := by
  unfold ofVal ofVal1 at h
  split at h
  · cases h
  · split at h <;> first | exact ⟨_, rfl⟩ | cases h
theorem head_anyT {C : Contracts} {nest fz : Bool} {Q : Exit → Act → World → Prop} (hC : CAll P Γ C) (hm : NoMut Γ fz) (HH : HeadOK ops.toList n) (HT : TailT ops.toList n) (hn : n ≤ ops.size)
    (R : Recs P ops tab n T vv) {k : List AV → List Ent → Prop} (hreg : runT C nest fz P ops.toList (ops.size - n) (rangeT (ops.size - n) n) (T n) tab k) (hV : latsV ops.toList (T n) (binL ops.toList n)) (hP : ∀ c a w, ¬ Q (.panic c) a w) (hQ : ∀ ts' tab' E' a' w', k ts' tab' → Sat Γ E' ts' tab' a' w' → Q .normal a' w') :
    ∀ (u : Nat) {listed : Array Bool} {a : Act} {w : World}, open' listed n = u → Inv Γ E tab ops n T vv listed a w → (∀ (j : Nat) p, j < n → ops[j]? = some p → listed.getD j true = true → ∀ i ∈ befores p, listed.getD i true = true) →
      wpAny P .any ops Q (u + (ops.size - n)) listed a w
  | 0, listed, a, w, hu, I, hcl => by
    have hall : ∀ i, i < n → listed.getD i true = true := fun i hi => open_zero hu hi
    have s : Sat Γ E (T n) tab a w := by
      have hlen : (T n).length = (T 0).length := recs_len R hn n (Nat.le_refl _)
      refine { I.sat with len := by rw [hlen]; simpa using I.sat.len, vals := fun t x c h1 h2 => ?_ }
      exact inv_fact R HH hn I (Nat.le_refl _) h1 (fun j p hj _ _ => ⟨hj, hall j hj⟩) c h2
    rw [Nat.zero_add]
    refine perm_any hC hm HT (ops.size - n) (rangeT (ops.size - n) n) (rangeT_nodup _ _) (rangeT_len _ _) I.size (fun i hi => ?_) (fun i hi => by have := (rangeT_mem _ _ _).1 hi; omega) hreg s hQ
    rw [rangeT_mem]
    rcases Nat.lt_or_ge i n with h | h
    · exact ⟨fun _ => by omega, fun _ => hall i h⟩
    · rw [I.tail i h hi]; exact ⟨nofun, fun h2 => by omega⟩
  | u + 1, listed, a, w, hu, I, hcl => by
    rw [show u + 1 + (ops.size - n) = (u + (ops.size - n)) + 1 by omega]
    obtain ⟨i0, h1, h2, h3⟩ := open_pos (listed := listed) (n := n) (by omega)
    have hi0 : i0 < ops.size := by omega
    have hready : i0 ∈ Region.ready .any ops listed := (ready_iff I.size).2 ⟨ops[i0], by simp [hi0], h2, fun j hj => by
      have hlt := HH.before i0 ops[i0] h1 (by simp [hi0]) j hj
      rw [getD_lt (b' := true) (by have := I.size; omega)]
      exact h3 j hlt⟩
    by_cases hlat : latU ops.toList n i0 = true
    · -- it may as well come first
      obtain ⟨o, ho⟩ : ∃ o, ops[i0]? = some o := ⟨ops[i0], by simp [hi0]⟩
      have hlat' := hlat
      unfold latU at hlat
      rw [nth_eq, show ops.toList[i0]? = some o by simpa using ho] at hlat
      simp only [Bool.and_eq_true] at hlat
      obtain ⟨⟨_, _⟩, hkind, hap⟩ := hlat
      have hlistb : ∀ j ∈ befores o, listed.getD j true = true := fun j hj => h3 j (HH.before i0 o h1 (by simpa using ho) j hj)
      have hT : (T i0).length = (T 0).length := recs_len R hn i0 (by omega)
      have hfact : ∀ t ∈ looks ops.toList o, ∀ x, (T i0)[t]? = some x → Fact Γ E tab a w t x := fun t ht x hx => inv_fact R HH hn I (by omega) hx (fun j p hj hp hd => by
        obtain ⟨q1, q2⟩ := HH.look i0 j o p t h1 hj (by simpa using ho) (by simpa using hp) hd ht
        exact ⟨q1, h3 j q1⟩)
      have hrun := (R i0 o h1 ho).run Γ E a w hC.2 (by rw [hT]; exact I.sat) hfact
      have hopen := open_set (by have := I.size; omega : i0 < listed.size) h2 n
      rw [if_pos h1] at hopen
      have hu' : open' (listed.setIfInBounds i0 true) n = u := by omega
      have hget : ∀ q, (listed.setIfInBounds i0 true).getD q true = true ↔ (q = i0 ∨ listed.getD q true = true) := fun q => by
        rw [Array.getD_eq_getD_getElem?, Array.getElem?_setIfInBounds]
        by_cases e : i0 = q
        · subst e; rw [if_pos rfl, if_pos (by have := I.size; omega)]; simp
        · rw [if_neg e, ← Array.getD_eq_getD_getElem?]
          exact ⟨.inr, fun h => h.elim (fun h => (e h.symm).elim) id⟩
      have hcl' : ∀ (j : Nat) p, j < n → ops[j]? = some p → (listed.setIfInBounds i0 true).getD j true = true → ∀ q ∈ befores p, (listed.setIfInBounds i0 true).getD q true = true := fun j p hj hp hlj q hq => by
        rw [hget]
        rcases (hget j).1 hlj with e | e
        · subst e
          rw [ho] at hp; cases hp
          exact .inr (hlistb q hq)
        · exact .inr (hcl j p hj hp e q hq)
      have hfirst : ∀ (v : Value), Yields P ops o v a → wpAny P .any ops Q (u + (ops.size - n)) (listed.setIfInBounds i0 true) (a.put o.dst v) w → wpAny P .any ops Q (u + (ops.size - n) + 1) listed a w := fun v hy hw => by
        refine wpAny_first ho (fun j p cs b hp hsel => ?_) (fun c a w h => (hP _ _ _ h).elim) _ _ _ _ (fun j p hp hj hlj hno => ?_) hready hy hw
        · have := List.all_eq_true.1 hap (p, j) (zip_mem (by simpa using hp))
          simp only [Bool.and_eq_true] at this
          unfold isSel at this
          rw [hsel] at this
          exact absurd this.1 (by simp)
        · have := List.all_eq_true.1 hap (p, j) (zip_mem (by simpa using hp))
          simp only [Bool.and_eq_true, Bool.or_eq_true] at this
          rcases this.2 with ((e | e) | e) | e
          · exact (hj (Nat.eq_of_beq_eq_true e)).elim
          · exfalso
            have hm := mem_isIn e
            unfold befores at hm
            obtain ⟨e, he, e2⟩ := List.mem_map.1 hm
            rw [List.mem_filter] at he
            exact hno e (by simpa using he.1) he.2 e2
          · have hb := hlistb j (mem_isIn e)
            rw [hlj] at hb; cases hb
          · exact apartB_apart e
      cases hw : Region.wanted o (yielded ops a.tmps) with
      | false =>
        refine hfirst undef (.inr ⟨hw, rfl⟩) ?_
        refine head_anyT hC hm HH HT hn R hreg hV hP hQ u hu' (I.next HH h1 ho (Below.refl _ _) ?_) hcl'
        rw [hrun.2 hw]; exact .undef
      | true =>
        have hdid := hrun.1 hw
        have hlatV : isBin o = true → latV ops.toList (T n) i0 := fun hb => latsV_mem hV (by
          unfold binL
          rw [List.mem_filter]
          refine ⟨(rangeT_mem _ _ _).2 ⟨Nat.zero_le _, by omega⟩, ?_⟩
          rw [nth_eq, show ops.toList[i0]? = some o by simpa using ho]
          simp only [Bool.and_eq_true]
          exact ⟨hlat', hb⟩)
        have hstr : ∀ (x : Operand) (s : List UInt8), x ∈ o.op.operands.toList → ev (T n) x (fun u => u = .str s) → ∃ b, a.eval x = .string b := fun x s hx hev => by
          cases x with
          | tmp t =>
            obtain ⟨v, hv, e⟩ := lget_spec hev
            subst e
            have hlt : t < (T i0).length := by
              rw [recs_len R hn i0 (by omega), ← recs_len R hn n (Nat.le_refl _)]
              exact (List.getElem?_eq_some_iff.1 hv).1
            have htl : t ∈ looks ops.toList o := looks_ops (tmpsOf_mem hx)
            have hf := hfact t htl (T i0)[t] (by simp [hlt])
            have himp := recs_chain R hn (t := t) (i := i0) (n - i0) (by omega) (fun q p q1 q2 hp hd => by
              obtain ⟨r1, _⟩ := HH.look i0 q o p t h1 (by omega) (by simpa using ho) (by simpa using hp) hd htl
              omega) (show (T i0)[t]? = some (T i0)[t] by simp [hlt]) (by rw [show i0 + (n - i0) = n by omega]; exact hv)
            have hsz : t < a.tmps.size := by
              have := I.sat.len
              rw [List.length_replicate] at this
              rw [this, ← recs_len R hn i0 (by omega)]; exact hlt
            obtain ⟨b, hb, _⟩ := (himp _ _ _ _ _ (hf a.tmps[t] (by simp [hsz]))).str_inv
            refine ⟨b, ?_⟩
            show a.tmps.getD t undef = _
            rw [Array.getD_eq_getD_getElem?, Array.getElem?_eq_getElem hsz, Option.getD_some, hb]
          | const v =>
            obtain ⟨b, rfl⟩ := ofVal_str (show ofVal v = .str s from hev)
            exact ⟨b, rfl⟩
          | func f => cases (show AV.fn (.func f) [] [] = .str s from hev)
          | global g => exact (show False from hev).elim
        obtain ⟨c, hcw⟩ : ∃ c, ∀ w, (execOp a.eval o).run P w = .ok (.value c) w := by
          cases hop : o.op with
          | move x => exact ⟨_, fun w => by unfold execOp; rw [hop]; rfl⟩
          | assign x => exact ⟨_, fun w => by unfold execOp; rw [hop]; rfl⟩
          | pick c x y =>
            cases hc : a.eval c with
            | bool b => exact ⟨_, fun w => by unfold execOp; rw [hop]; dsimp only; rw [hc]; rfl⟩
            | _ =>
              exfalso
              have := hdid (fun _ _ => True) (fun _ _ _ => False) (fun _ _ _ => trivial)
              unfold Oper.wp execOp at this
              rw [hop] at this
              dsimp only at this
              rw [hc] at this
              exact this
          | binOp op t x y pos =>
            have hb : isBin o = true := by unfold isBin; rw [hop]
            have hv := hlatV hb
            unfold latV at hv
            rw [nth_eq, show ops.toList[i0]? = some o by simpa using ho] at hv
            dsimp only at hv
            obtain ⟨d, hd⟩ : ∃ d, o.dst = some d := by
              cases hq : o.dst with
              | none => rw [hq] at hv; exact hv.elim
              | some d => exact ⟨d, rfl⟩
            rw [hd] at hv
            dsimp only at hv
            obtain ⟨vd, hvd, hv⟩ := lget_spec hv
            have hnt : isTup0 vd = false := by
              cases hq : isTup0 vd with
              | false => rfl
              | true =>
                exfalso
                have hvv := (R i0 o h1 ho).dst d hd
                have himp := recs_chain R hn (t := d) (i := i0 + 1) (n - (i0 + 1)) (by omega) (fun q p q1 q2 hp hd2 => by
                  have := HH.once q i0 p o d (by omega) h1 (by simpa using hp) (by simpa using ho) hd hd2
                  omega) hvv (show (T (i0 + 1 + (n - (i0 + 1))))[d]? = some vd by rw [show i0 + 1 + (n - (i0 + 1)) = n by omega]; exact hvd)
                have hvd0 : vd = .tuple [] := by
                  unfold isTup0 at hq
                  split at hq
                  · rfl
                  · cases hq
                subst hvd0
                have := (R i0 o h1 ho).bin hb (fun _ _ _ _ c hc => (himp _ _ _ _ _ hc).nil_inv) Γ E a w hC.2 (by rw [hT]; exact I.sat) hfact
                rw [hw] at this; cases this
            rw [hnt] at hv
            rw [hop] at hv
            dsimp only at hv
            obtain ⟨v1, hv, e1⟩ := ev_val hv
            obtain ⟨v2, hv, e2⟩ := ev_val hv
            obtain ⟨s1, rfl⟩ : ∃ s, v1 = .str s := by
              unfold strs at hv
              split at hv
              · exact ⟨_, rfl⟩
              · cases hv
            obtain ⟨s2, rfl⟩ : ∃ s, v2 = .str s := by
              unfold strs at hv
              dsimp only at hv
              split at hv
              · exact ⟨_, rfl⟩
              · cases hv
            obtain ⟨b1, g1⟩ := hstr x s1 (by rw [hop]; simp [Op.operands]) e1
            obtain ⟨b2, g2⟩ := hstr y s2 (by rw [hop]; simp [Op.operands]) e2
            have hbo : binOp op t (.string b1) (.string b2) = Op.stringOp op b1 b2 := by cases op <;> rfl
            rcases str_const (P := P) op b1 b2 with ⟨c, hc⟩ | ⟨m, hno, hm2⟩
            · refine ⟨c, fun w => ?_⟩
              unfold execOp
              rw [hop]
              dsimp only
              rw [g1, g2, hbo]
              have g4 := eqGuard_ok (P := P) (w := w) (op := op) (t := t) (x := x) (y := y) (a := .string b1) (b := .string b2) ⟨nofun, nofun⟩
              simp [g4, hc w]
            · exfalso
              have := hdid (fun _ _ => True) (fun _ _ _ => False) (fun _ _ _ => trivial)
              unfold Oper.wp execOp at this
              rw [hop] at this
              dsimp only at this
              rw [g1, g2, hbo] at this
              have g4 := eqGuard_ok (P := P) (w := w) (op := op) (t := t) (x := x) (y := y) (a := .string b1) (b := .string b2) ⟨nofun, nofun⟩
              simp [g4, hno w] at this
              cases m <;> first | exact hm2 | exact this
          | _ => unfold latK at hkind; rw [hop] at hkind; simp at hkind
        obtain ⟨c', ⟨_, hv⟩, hput⟩ := hdid.at (hcw w) fun _ => trivial
        refine hfirst c (.inl ⟨hw, hcw⟩) ?_
        rw [← hput]
        exact head_anyT hC hm HH HT hn R hreg hV hP hQ u hu' (I.next HH h1 ho (Below.refl _ _) hv) hcl'
    refine ⟨fun he => (by rw [he] at hready; cases hready), fun i hi => ?_⟩
    obtain ⟨o, ho, g1, g2⟩ := (ready_iff I.size).1 hi
    have his : i < ops.size := (Array.getElem?_eq_some_iff.1 ho).1
    have g2' : ∀ j ∈ befores o, j < ops.size → listed.getD j true = true := fun j hj hjs => by
      have := g2 j hj
      rwa [getD_lt (b' := true) (by have := I.size; omega)] at this
    have hin : i < n := by
      rcases Nat.lt_or_ge i n with h | h
      · exact h
      · exfalso
        rcases HT.reach i o h (by simpa using ho) with ⟨b, hb, hbn⟩ | hall
        · have hbi := HT.before i o (by simpa using ho) b hb
          have := g2' b hb (by omega)
          rw [I.tail b hbn (by omega)] at this; cases this
        · rcases hall i0 h1 with e | e
          · exact hlat e
          · have := (clo_listed (listed := listed) (n := n) (p := o) (fun q hq hqn => g2' q hq (by omega)) hcl (rangeT n 0) (fun q hq => by have := (rangeT_mem _ _ _).1 hq; omega) i0 e).2
            rw [this] at h2; cases h2
    have hrec := R i o hin ho
    have hT : (T i).length = (T 0).length := recs_len R hn i (by omega)
    have hrun := hrec.run Γ E a w hC.2 (by rw [hT]; exact I.sat) (fun t ht x hx => inv_fact R HH hn I (by omega) hx (fun j p hj hp hd => by
      obtain ⟨q1, q2⟩ := HH.look i j o p t hin hj (by simpa using ho) (by simpa using hp) hd ht
      exact ⟨q1, g2' j q2 (by omega)⟩))
    have hu' : open' (listed.setIfInBounds i true) n = u := by
      have := open_set (by have := I.size; omega : i < listed.size) g1 n
      rw [if_pos hin] at this
      omega
    have hget : ∀ q, (listed.setIfInBounds i true).getD q true = true ↔ (q = i ∨ listed.getD q true = true) := fun q => by
      rw [Array.getD_eq_getD_getElem?, Array.getElem?_setIfInBounds]
      by_cases e : i = q
      · subst e; rw [if_pos rfl, if_pos (by have := I.size; omega)]; simp
      · rw [if_neg e, ← Array.getD_eq_getD_getElem?]
        exact ⟨.inr, fun h => h.elim (fun h => (e h.symm).elim) id⟩
    have hcl' : ∀ (j : Nat) p, j < n → ops[j]? = some p → (listed.setIfInBounds i true).getD j true = true → ∀ q ∈ befores p, (listed.setIfInBounds i true).getD q true = true := fun j p hj hp hlj q hq => by
      rw [hget]
      rcases (hget j).1 hlj with e | e
      · subst e
        rw [ho] at hp; cases hp
        exact .inr (g2' q hq (by have := HH.before j o hj (by simpa using ho) q hq; omega))
      · exact .inr (hcl j p hj hp e q hq)
    unfold wpOp
    rw [ho]
    dsimp only
    cases hw : Region.wanted o (yielded ops a.tmps) with
    | true =>
      rw [if_pos rfl]
      refine .inl (hrun.1 hw _ _ fun c w' hr => ?_)
      exact head_anyT hC hm HH HT hn R hreg hV hP hQ u hu' (I.next HH hin ho hr.1 hr.2) hcl'
    | false =>
      rw [if_neg (by simp)]
      refine head_anyT hC hm HH HT hn R hreg hV hP hQ u hu' (I.next HH hin ho (Below.refl _ _) ?_) hcl'
      rw [hrun.2 hw]; exact .undef
theorem drawT_sound {C : Contracts} {nest fz : Bool} {Q : Exit → Act → World → Prop} (hC : CAll P Γ C) (hm : NoMut Γ fz) {id : Nat} {ts : List AV} {a : Act} {w : World} {k : List AV → List Ent → Prop}
    (h : drawT C nest fz P ops.toList n ts tab k) (s : Sat Γ E ts tab a w) (hQ : ∀ ts' tab' E' a' w', k ts' tab' → Sat Γ E' ts' tab' a' w' → Q .normal a' w') : (Code.region id ops true).wp P Q a w := by
  obtain ⟨hn, hh, ht, hmix, h⟩ := h
  have hn : n ≤ ops.size := by simpa using hn
  obtain ⟨T, vv, h1, h2, h3⟩ := regP_rec hC.1 (ops := ops) (by simpa using hn) h
  have s' := s.drawn (w.drawn + 1)
  have R : Recs P ops tab n T vv := fun i o hi ho => h3 i o hi (by simpa using ho)
  refine wp_mono (Q := fun e a w => e = .normal ∧ Q e a w) (wp_region_any hmix ?_) fun e a w h => h.2
  have hlisted : ∀ i, i < ops.size → (Array.replicate ops.size false).getD i true = false := fun i hi => by simp [Array.getD, hi]
  have hopen : open' (Array.replicate ops.size false) n = n := by
    unfold open'
    rw [List.filter_eq_self.2 (fun i hi => by rw [hlisted i (by have := List.mem_range.1 hi; omega)]; rfl), List.length_range]
  obtain ⟨h2v, h2⟩ := h2
  have h2 : runT C nest fz P ops.toList (ops.size - n) (rangeT (ops.size - n) n) (T n) tab k := by simpa using h2
  have := head_anyT (E := E) (Q := fun e a w => e = .normal ∧ Q e a w) hC hm (headOk_spec hh) (tailT_spec ht) hn R h2 h2v (fun c a w h => nomatch h.1) (fun ts' tab' E' a' w' h1 h2 => ⟨rfl, hQ _ _ _ _ _ h1 h2⟩) _ hopen (a := a) (w := { w with drawn := w.drawn + 1 }) ⟨by
      rw [h1]
      refine { s' with len := by simpa using s'.len, vals := fun i v c q1 q2 => ?_ }
      rw [List.eq_of_mem_replicate (mem_of_get q1)]; exact .imm (.unk _), by simp, fun i o d hi hl => (by rw [hlisted i (by omega)] at hl; cases hl), fun t x _ hx c hc => (by rw [h1] at hx; exact s'.vals t x c hx hc), fun j _ hj => hlisted j hj⟩
    (fun j p hj hp hl => by rw [hlisted j (by omega)] at hl; cases hl)
  rwa [show n + (ops.size - n) = ops.size by omega] at this
end
end Sx

/- Regions and code keep the state; a body makes a contract. -/
set_option linter.unusedVariables false
namespace Sx
open Go Go.RowKit
section
variable [Glb] {E E' : Env} {Z Z' : Nat → Prop} {tab tab' : List Ent} {P : Program} {w : World} {Γ : Ctx} {ts : List AV} {a : Act} {o : Oper}
theorem regW_sound {C : Contracts} {nest fz : Bool} {ops : Array Oper} {Q : Exit → Act → World → Prop} (hC : CAll P Γ C) (hm : NoMut Γ fz) :
    ∀ {l : List Oper} {ts : List AV} {tab : List Ent} {E : Env} {a : Act} {w : World} {k : List AV → List Ent → Prop}, regW C nest fz P ops.toList l ts tab k → Sat Γ E ts tab a w →
    (∀ ts' tab' E' a' w', k ts' tab' → Sat Γ E' ts' tab' a' w' → Q .normal a' w') → wpList P ops Q l a w
  | [], ts, tab, E, a, w, k, h, s, hQ => hQ _ _ _ _ _ h s
  | o :: rest, ts, tab, E, a, w, k, h, s, hQ => by
    rw [regW_cons] at h
    unfold operW at h
    obtain ⟨b, ts1, h, s1, hw⟩ := guardW_sound h s
    unfold wpList
    rw [hw]
    cases b with
    | true =>
      refine .inl ((opW_sound hC h s1 hm) _ _ fun c w' hr => ?_)
      obtain ⟨v, ts', tab', E', h1, h2, h3⟩ := hr
      obtain ⟨ts2, h4, h5⟩ := putW_sound h1 h2 h3
      exact regW_sound hC hm h4 h5 hQ
    | false =>
      obtain ⟨ts2, h4, h5⟩ := putW_sound h s1 .undef
      exact regW_sound hC hm h4 h5 hQ
def exOf : Exit → Option Ex
  | .normal => some .normal
  | .exit id => some (.exit id)
  | .goto l => some (.goto l)
  | .ret => some .ret
  | _ => none
/-- What code leaves. -/
def Lv (Γ : Ctx) (K : Ex → List AV → List Ent → Prop) (e : Exit) (a : Act) (w : World) : Prop := ∃ x E ts tab, exOf e = some x ∧ K x ts tab ∧ Sat Γ E ts tab a w
/-- A loop that goes round. -/
def Round (P : Program) (c : Code) (Q : Exit → Act → World → Prop) (a : Act) (w : World) : Prop :=
  ∀ (b : Frame) (k : List Item) (cs : List Frame), ∃ e a' w', Q e a' w' ∧ Arrives P (lone (b.at a (.code c :: .inLoop c :: k)) cs w) b k cs e a' w'
theorem Round.loop {c : Code} {Q : Exit → Act → World → Prop} (h : Round P c Q a w) : (Code.loop c).wp P Q a w := fun b k cs =>
  let ⟨e, a', w', hq, harr⟩ := h b k cs
  ⟨e, a', w', hq, .of_steps (.one step_loop) harr⟩
theorem Round.next {c : Code} {Q : Exit → Act → World → Prop} (h : c.wp P (Exit.then (Round P c Q) Q) a w) : Round P c Q a w := fun b k cs => by
  obtain ⟨e, a₁, w₁, hq, harr⟩ := h b (.inLoop c :: k) cs
  cases e with
  | normal =>
    obtain ⟨e₂, a₂, w₂, hq₂, harr₂⟩ := hq b k cs
    exact ⟨e₂, a₂, w₂, hq₂, .of_steps (Steps.trans harr (.one step_inLoop)) harr₂⟩
  | exit id => exact ⟨_, a₁, w₁, hq, .pass (x := .inLoop c) rfl (fun _ _ => .inl (by simp)) harr⟩
  | goto l => exact ⟨_, a₁, w₁, hq, .pass (x := .inLoop c) rfl (fun _ _ => .inl (by simp)) harr⟩
  | ret => exact ⟨_, a₁, w₁, hq, .pass (x := .inLoop c) rfl (fun _ _ => .inl (by simp)) harr⟩
  | panic ch => exact ⟨_, a₁, w₁, hq, .pass (x := .inLoop c) rfl (fun _ _ => .inl (by simp)) harr⟩
  | outgrown => exact ⟨_, a₁, w₁, hq, .pass (x := .inLoop c) rfl (fun _ _ => .inl (by simp)) harr⟩
theorem codeW_sound {C : Contracts} {nest fz : Bool} (hC : CAll P Γ C) (hm : NoMut Γ fz) :
    ∀ (c : Code) {K : Ex → List AV → List Ent → Prop} {ts : List AV} {tab : List Ent} {E : Env} {a : Act} {w : World}, codeW C nest fz P Γ.muts.length c K ts tab → Sat Γ E ts tab a w → c.wp P (Lv Γ K) a w
  | .skip, K, ts, tab, E, a, w, h, s => wp_skip ⟨.normal, E, ts, tab, rfl, h, s⟩
  | .seq x y, K, ts, tab, E, a, w, h, s => by
    refine wp_seq (wp_mono (codeW_sound hC hm x h s) fun e a' w' hq => ?_)
    obtain ⟨ex, E', ts', tab', h1, h2, h3⟩ := hq
    cases e with
    | normal => cases h1; exact codeW_sound hC hm y h2 h3
    | exit => cases h1; exact ⟨_, E', ts', tab', rfl, h2, h3⟩
    | goto => cases h1; exact ⟨_, E', ts', tab', rfl, h2, h3⟩
    | ret => cases h1; exact ⟨_, E', ts', tab', rfl, h2, h3⟩
    | panic => cases h1
    | outgrown => cases h1
  | .region id ops draw, K, ts, tab, E, a, w, h, s => by
    cases draw with
    | true =>
      cases h with
      | mk n h => exact drawW_sound hC hm h s fun ts' tab' E' a' w' h1 h2 => ⟨.normal, E', ts', tab', rfl, h1, h2⟩
      | mkS h => exact drawS_sound hC hm h s fun ts' tab' E' a' w' h1 h2 => ⟨.normal, E', ts', tab', rfl, h1, h2⟩
      | mkT n h => exact drawT_sound hC hm h s fun ts' tab' E' a' w' h1 h2 => ⟨.normal, E', ts', tab', rfl, h1, h2⟩
      | mkL late n h => exact drawW_sound hC hm h s fun ts' tab' E' a' w' h1 h2 => ⟨.normal, E', ts', tab', rfl, h1, h2⟩
    | false =>
      refine wp_region_list (regW_sound hC hm h s fun ts' tab' E' a' w' h1 h2 => ⟨.normal, E', ts', tab', rfl, h1, h2⟩)
  | .cond c t e, K, ts, tab, E, a, w, h, s => by
    obtain ⟨v, h1, h2⟩ := ev_sound h s
    obtain ⟨b, hb, h3, h4⟩ := two_sound h1 h2
    exact wp_cond_split hb (fun e => codeW_sound hC hm _ (h3 e) s) (fun e => codeW_sound hC hm _ (h4 e) s)
  | .block id body, K, ts, tab, E, a, w, h, s => by
    refine wp_block (wp_mono (codeW_sound hC hm body h s) fun e a' w' hq => ?_)
    obtain ⟨ex, E', ts', tab', h1, h2, h3⟩ := hq
    cases e with
    | normal => cases h1; exact ⟨_, E', ts', tab', rfl, h2, h3⟩
    | exit j =>
      cases h1
      show if j = id then _ else _
      cases hb : Nat.beq j id with
      | true =>
        rw [if_pos (Nat.eq_of_beq_eq_true hb)]
        exact ⟨_, E', ts', tab', rfl, (by have e : exN id (.exit j) = .normal := by simp [exN, hb]
                                          rwa [← e]), h3⟩
      | false =>
        rw [if_neg (fun e => by subst e; rw [Nat.beq_refl] at hb; cases hb)]
        exact ⟨_, E', ts', tab', rfl, (by have e : exN id (.exit j) = .exit j := by simp [exN, hb]
                                          rwa [← e]), h3⟩
    | goto => cases h1; exact ⟨_, E', ts', tab', rfl, h2, h3⟩
    | ret => cases h1; exact ⟨_, E', ts', tab', rfl, h2, h3⟩
    | panic => cases h1
    | outgrown => cases h1
  | .loop body, K, ts, tab, E, a, w, h, s => by
    have h : LoopW fz Γ.muts.length (codeW C nest fz P Γ.muts.length body) K ts tab := h
    refine Round.loop (h.h (fun ts tab => ∀ E a w, Sat Γ E ts tab a w → Round P body (Lv Γ K) a w) (fun ts tab ts' tab' hw hr E a w s => ?_) (fun ts tab hb E a w s => ?_) E a w s)
    · obtain ⟨E', s'⟩ := s.weak hm hw
      exact hr E' a w s'
    · refine Round.next (wp_mono (codeW_sound hC hm body hb s) fun e a' w' hq => ?_)
      obtain ⟨ex, E', ts', tab', h1, h2, h3⟩ := hq
      cases e with
      | normal => cases h1; exact h2 _ _ _ h3
      | exit => cases h1; exact ⟨_, E', ts', tab', rfl, h2, h3⟩
      | goto => cases h1; exact ⟨_, E', ts', tab', rfl, h2, h3⟩
      | ret => cases h1; exact ⟨_, E', ts', tab', rfl, h2, h3⟩
      | panic => cases h1
      | outgrown => cases h1
  | .exit id, K, ts, tab, E, a, w, h, s => wp_exit ⟨_, E, ts, tab, rfl, h, s⟩
  | .label l, K, ts, tab, E, a, w, h, s => wp_label ⟨_, E, ts, tab, rfl, h, s⟩
  | .ret, K, ts, tab, E, a, w, h, s => wp_ret ⟨_, E, ts, tab, rfl, h, s⟩
end
end Sx

/- A body makes a contract. -/
set_option linter.unusedVariables false
namespace Sx
open Go Go.RowKit
section
variable [Glb] {E E' : Env} {Z Z' : Nat → Prop} {tab tab' : List Ent} {P : Program} {w : World} {Γ : Ctx} {ts : List AV} {a : Act} {o : Oper}
theorem Rep.pure1 {v : AV} {c : Value} (h : Sx.pure1 v = true) (r : Rep Z w v c) : Rep Z' w v c := by
  cases r with
  | unk => exact .unk _
  | tt => exact .tt
  | ff => exact .ff
  | prop => exact .prop _ _
  | int => exact .int _ _
  | str s b hb => exact .str s b hb
  | nilsl => exact .nilsl
  | emp => exact .emp _
  | nilptr => exact .nilptr
  | nilfn => exact .nilfn
  | nilif => exact .nilif
  | _ => cases h
theorem V.pure1 {v : AV} {c : Value} (h : Sx.pure1 v = true) (hv : V E Z tab w v c) : V E Z' tab w v c := by
  cases hv with
  | imm r => exact .imm (r.pure1 h)
  | loc i c h1 h2 => exact .loc i c h1 h2
  | part i off len c h1 h2 => exact .part i off len c h1 h2
  | prow i j t c h1 h2 => exact .prow i j t c h1 h2
  | sub i j c h1 h2 => exact .sub i j c h1 h2
  | psub i j k t c h1 h2 => exact .psub i j k t c h1 h2
  | _ => cases h
theorem all_get {cs : List AV} {f : AV → Bool} (h : cs.all f = true) {i : Nat} {x : AV} (hx : cs[i]? = some x) : f x = true := List.all_eq_true.1 h x (mem_of_get hx)
theorem V.pure2 {v : AV} {c : Value} (h : Sx.pure2 v = true) (hv : V E Z tab w v c) : V E Z' tab w v c := by
  unfold Sx.pure2 at h
  split at h
  · obtain ⟨vs, rfl, hl, hc⟩ := hv.agg_inv
    exact .agg _ _ hl fun i x y h1 h2 => (hc i x y h1 h2).pure1 (all_get h h1)
  · rw [Bool.and_eq_true] at h
    obtain ⟨va, vb, rfl, l1, l2, c1, c2⟩ := hv.fn_inv
    exact .fn _ _ _ _ _ l1 l2 (fun i x y h1 h2 => (c1 i x y h1 h2).pure1 (all_get h.1 h1)) (fun i x y h1 h2 => (c2 i x y h1 h2).pure1 (all_get h.2 h1))
  · exact hv.pure1 h
theorem V.pure3 {v : AV} {c : Value} (h : Sx.pure3 v = true) (hv : V E Z tab w v c) : V E Z' tab w v c := by
  unfold Sx.pure3 at h
  split at h
  · obtain ⟨vs, rfl, hl, hc⟩ := hv.tuple_inv
    exact .tuple _ _ hl fun i x y h1 h2 => (hc i x y h1 h2).pure2 (all_get h h1)
  · obtain ⟨c', rfl, hc⟩ := hv.ifc_inv
    exact .ifc _ _ _ (hc.pure2 h)
  · exact hv.pure2 h
theorem pure2_cells {e v : AV} (h : Sx.pure2 e = true) (hv : v ∈ cellsOf e) : Sx.pure1 v = true ∨ ∃ f a b, e = .fn f a b := by
  unfold Sx.pure2 at h
  split at h
  · exact .inl (List.all_eq_true.1 h v hv)
  · exact .inr ⟨_, _, _, rfl⟩
  · rename_i hn _
    rw [cellsOf_atom hn] at hv
    simp at hv
    subst hv
    exact .inl h
theorem EntOK.pureE {i : Nat} {e : Ent} (h : Sx.pureE e) (he : EntOK E Z tab w i e) : EntOK E Z' tab w i e := by
  cases e with
  | dead => trivial
  | row k sz es =>
    obtain ⟨h1, h2, h3, h4, h5⟩ := he
    refine ⟨h1, h2, h3, h4, fun hne => ?_⟩
    obtain ⟨ho, cs, ty, fr, hh, hu, hs, hc⟩ := h5 hne
    refine ⟨ho, cs, ty, fr, hh, hu, hs, fun j t e v e1 e2 => ?_⟩
    obtain ⟨c, g1, g2⟩ := hc j t e v e1 e2
    refine ⟨c, g1, ?_⟩
    cases k with
    | var =>
      rcases pure2_cells (h e (mem_of_get e1)) (mem_of_get e2) with hp | ⟨f, a, b, rfl⟩
      · exact V.pure1 hp g2
      · have := h4 rfl _ (mem_of_get e1); cases this
    | plain =>
      rcases pure2_cells (h e (mem_of_get e1)) (mem_of_get e2) with hp | ⟨f, a, b, rfl⟩
      · exact Rep.pure1 hp g2
      · have hv : v = .fn f a b := by
          cases t with
          | zero => simpa [cellsOf] using e2.symm
          | succ t => simp [cellsOf] at e2
        subst hv
        have hp : Sx.pure2 (.fn f a b) = true := h _ (mem_of_get e1)
        have hp : (a.all Sx.pure1 && b.all Sx.pure1) = true := hp
        rw [Bool.and_eq_true] at hp
        have g2 : Rep Z w (.fn f a b) c := g2
        show Rep Z' w (.fn f a b) c
        cases g2 with
        | fn _ _ _ va vb l1 l2 c1 c2 => exact .fn _ _ _ _ _ l1 l2 (fun i x y h1 h2 => (c1 i x y h1 h2).pure1 (all_get hp.1 h1)) (fun i x y h1 h2 => (c2 i x y h1 h2).pure1 (all_get hp.2 h1))
    | nest =>
      have hp : pureN e := h e (mem_of_get e1)
      have hs1 := h2 rfl
      subst hs1
      have hl := h1 e (mem_of_get e1)
      have ht : t = 0 := by have := (List.getElem?_eq_some_iff.1 e2).1; omega
      subst ht
      have g2 : OwnCell E Z w i j v c := g2
      show OwnCell E Z' w i j v c
      cases v with
      | sl sz' es' =>
        have he : e = .sl sz' es' := by
          cases e with
          | agg cs =>
            have hp : Sx.pure1 (.agg cs) = true := hp
            cases hp
          | _ => first | (simp [cellsOf] at e2; done) | simpa [cellsOf] using e2
        subst he
        obtain ⟨b, q1, q2, q3, q4⟩ := g2
        refine ⟨b, q1, q2, q3, fun hne => ?_⟩
        obtain ⟨r1, cs, ty, fr, r2, r3, r4, r5⟩ := q4 hne
        refine ⟨r1, cs, ty, fr, r2, r3, r4, fun j t e v f1 f2 => ?_⟩
        obtain ⟨c, p1, p2⟩ := r5 j t e v f1 f2
        refine ⟨c, p1, ?_⟩
        have hpe := hp e (mem_of_get f1)
        have okc := q3 e (mem_of_get f1) v (mem_of_get f2)
        rcases pure2_cells hpe (mem_of_get f2) with hq | ⟨f, a, b, rfl⟩
        · exact p2.pure1 hq
        · have hv : v = .fn f a b := by
            cases t with
            | zero => simpa [cellsOf] using f2.symm
            | succ t => simp [cellsOf] at f2
          subst hv
          have hpe : (a.all Sx.pure1 && b.all Sx.pure1) = true := hpe
          rw [Bool.and_eq_true] at hpe
          cases p2 with
          | fn _ _ _ va vb l1 l2 c1 c2 => exact .fn _ _ _ _ _ l1 l2 (fun i x y h1 h2 => (c1 i x y h1 h2).pure1 (all_get hpe.1 h1)) (fun i x y h1 h2 => (c2 i x y h1 h2).pure1 (all_get hpe.2 h1))
      | nilsl => exact g2
      | emp => exact g2
      | unk => exact g2
      | _ => exact g2.elim
theorem pureT_get : ∀ {t : List Ent}, pureT t → ∀ i, Sx.pureE (ent t i)
  | [], _, i => trivial
  | e :: t, h, 0 => h.1
  | e :: t, h, i + 1 => pureT_get h.2 i
def rsv (tmps : Array Value) : ResultVar → Sem Value
  | .tmp t => pure (tmps.getD t undef)
  | .cell a t => do loadVar t (← asAddr (tmps.getD a undef))
theorem cell_run {t : Nat} {ty : TypeId} {p : AV} {k : AV → Prop} (h1 : ts[t]? = some p) (h2 : loadW P ty p tab k) (s : Sat Γ E ts tab a w) : ∃ v c, k v ∧ (rsv a.tmps (.cell t ty)).run P w = .ok c w ∧ V E (zone Γ E) tab w v c := by
  have hlt : t < a.tmps.size := by rw [s.len]; exact (List.getElem?_eq_some_iff.1 h1).1
  obtain ⟨v, c, g1, g2, g3⟩ := loadW_sound h2 s (s.vals t p _ h1 (Array.getElem?_eq_getElem hlt))
  refine ⟨v, c, g2, ?_, g3⟩
  have hget : a.tmps.getD t undef = a.tmps[t] := by simp [Array.getD, hlt]
  have hp : ∃ ad, a.tmps[t] = .pointer (some ad) ∧ (loadVar ty ad).run P w = .ok c w := by
    cases hc : a.tmps[t] with
    | pointer q => cases q with
      | some ad => rw [hc] at g1; exact ⟨ad, rfl, by simpa [Instr.loadAt, Instr.sureAddr] using g1⟩
      | none => rw [hc] at g1; simp [Instr.loadAt, Instr.sureAddr, stuck] at g1
    | _ => rw [hc] at g1; simp [Instr.loadAt, Instr.sureAddr, stuck] at g1
  obtain ⟨ad, e1, e2⟩ := hp
  simp [rsv, hget, e1, asAddr, e2]
theorem resL_sound {rs : List ResultVar} {k : List AV → Prop} (h : resL P ts tab rs k) (s : Sat Γ E ts tab a w) : ∃ vs cs, k vs ∧ (rs.mapM (rsv a.tmps)).run P w = .ok cs w ∧ Vs E (zone Γ E) tab w vs cs ∧ vs.length = rs.length := by
  induction rs generalizing k with
  | nil => exact ⟨[], [], h, by simp, .nil, rfl⟩
  | cons r rs ih =>
    unfold resL at h
    split at h
    · rename_i e; cases e
    · rename_i t rs' e
      cases e
      obtain ⟨v, h1, h⟩ := lget_spec h
      obtain ⟨vs, cs, h2, h3, h4, h5⟩ := ih h
      have hlt : t < a.tmps.size := by rw [s.len]; exact (List.getElem?_eq_some_iff.1 h1).1
      refine ⟨v :: vs, a.tmps[t] :: cs, h2, ?_, .cons (s.vals t v _ h1 (Array.getElem?_eq_getElem hlt)) h4, by simp [h5]⟩
      simp [List.mapM_cons, rsv, hlt, h3]
    · rename_i t ty rs' e
      cases e
      obtain ⟨p, h1, h⟩ := lget_spec h
      obtain ⟨v, c, g1, g2, g3⟩ := cell_run h1 h s
      obtain ⟨vs, cs, h2, h3, h4, h5⟩ := ih g1
      refine ⟨v :: vs, c :: cs, h2, ?_, .cons g3 h4, by simp [h5]⟩
      simp [List.mapM_cons, g2, h3]
theorem resW_sound {fn : Func} {k : AV → Prop} (h : resW P ts tab fn.results.toList k) (s : Sat Γ E ts tab a w) : ∃ v c, k v ∧ (results fn a.tmps).run P w = .ok c w ∧ V E (zone Γ E) tab w v c := by
  have hr : (results fn a.tmps) = (do let vs ← fn.results.mapM (rsv a.tmps); pure (if h : vs.size = 1 then vs[0] else .tuple vs)) := by
    unfold results
    congr 1
  unfold resW at h
  split at h
  · rename_i t ht
    obtain ⟨v, h1, h2⟩ := lget_spec h
    have hlt : t < a.tmps.size := by rw [s.len]; exact (List.getElem?_eq_some_iff.1 h1).1
    refine ⟨v, a.tmps[t], h2, ?_, s.vals t v _ h1 (Array.getElem?_eq_getElem hlt)⟩
    rw [hr, Array.mapM_eq_mapM_toList, ht]
    simp [rsv, hlt]
  · rename_i t ty ht
    obtain ⟨p, h1, h2⟩ := lget_spec h
    have hlt : t < a.tmps.size := by rw [s.len]; exact (List.getElem?_eq_some_iff.1 h1).1
    obtain ⟨v, c, g1, g2, g3⟩ := loadW_sound h2 s (s.vals t p _ h1 (Array.getElem?_eq_getElem hlt))
    refine ⟨v, c, g2, ?_, g3⟩
    rw [hr, Array.mapM_eq_mapM_toList, ht]
    have hget : a.tmps.getD t undef = a.tmps[t] := by simp [Array.getD, hlt]
    have hp : ∃ ad, a.tmps[t] = .pointer (some ad) ∧ (loadVar ty ad).run P w = .ok c w := by
      cases hc : a.tmps[t] with
      | pointer q => cases q with
        | some ad => rw [hc] at g1; exact ⟨ad, rfl, by simpa [Instr.loadAt, Instr.sureAddr] using g1⟩
        | none => rw [hc] at g1; simp [Instr.loadAt, Instr.sureAddr, stuck] at g1
      | _ => rw [hc] at g1; simp [Instr.loadAt, Instr.sureAddr, stuck] at g1
    obtain ⟨ad, e1, e2⟩ := hp
    simp [rsv, hget, e1, asAddr, e2]
  · rename_i hn hn2
    obtain ⟨vs, cs, h1, h2, h3, h4⟩ := resL_sound (P := P) h s
    have hne : cs.length ≠ 1 := fun e => by
      have hl : fn.results.toList.length = 1 := by rw [← h4, h3.1, e]
      match hq : fn.results.toList, hl with
      | [.tmp t], _ => exact hn t hq
      | [.cell _ _], _ => exact hn2 _ _ hq
    refine ⟨_, .tuple cs.toArray, h1, ?_, .tuple _ _ h3.1 h3.2⟩
    rw [hr, Array.mapM_eq_mapM_toList]
    simp [h2, hne]
theorem Sat.only (s : Sat Γ E ts tab a w) {v : AV} {c : Value} (hv : V E (zone Γ E) tab w v c) : Sat Γ E [v] tab { tmps := #[c], defers := [] } w := by
  refine { s with dfr := rfl, len := rfl, vals := fun i x y h1 h2 => ?_ }
  cases i with
  | zero => simp at h1 h2; subst h1; subst h2; exact hv
  | succ i => simp at h1
theorem Sat.lifts {i j q : Nat} {v : AV} {c : Value} {k : AV → List Ent → Prop} (s : Sat Γ E [v] tab { tmps := #[c], defers := [] } w) (h : liftW i j q v tab k) : ∃ v' tab' E', k v' tab' ∧ Sat Γ E' [v'] tab' { tmps := #[c], defers := [] } w := by
  unfold liftW at h
  split at h
  · rename_i sz es he
    replace h := optP.o h
    split at h
    · rename_i sz' es' hj
      have hj := nth_some hj
      replace h := (eset_spec h.o).2
      replace h := snoc_spec h
      obtain ⟨p2, _⟩ := s.take (j := j) he
      obtain ⟨E', p3, s3, hs⟩ := s.lift he hj
      have hl : ∀ {v : AV} {c : Value}, V E (zone Γ E) tab w v c → V E' (zone Γ E') (tab.set i (.row .nest sz (es.set j .unk)) ++ [.row .plain sz' es']) w (lift0 v) c := fun h => by
        unfold lift0
        split
        all_goals first | exact .imm (.unk _) | exact (h.p p2).p p3
      have hlen : (tab.set i (.row .nest sz (es.set j .unk))).length = tab.length := by simp
      rw [hlen] at h
      have hv := s.vals 0 v c rfl rfl
      split at h
      · rename_i vs
        obtain ⟨hq, h⟩ := h
        rw [nth_eq] at hq
        have h := lnorm_iff (liftL_spec h)
        obtain ⟨cs, rfl, hlc, hc⟩ := hv.tuple_inv
        refine ⟨_, _, E', h, { s3 with vals := fun p x y h1 h2 => ?_ }⟩
        cases p with
        | succ p => simp at h1
        | zero =>
          simp at h1 h2
          subst h1; subst h2
          refine .tuple _ _ (by simpa using hlc) fun p x y h1 h2 => ?_
          rw [List.getElem?_set] at h1
          split at h1
          · rename_i e
            subst e
            split at h1
            · cases h1
              exact hs y (hc _ _ y hq h2)
            · cases h1
          · obtain ⟨z, hz, rfl⟩ := map_get h1
            exact hl (hc p z y hz h2)
      · obtain ⟨rfl, h⟩ := h
        refine ⟨_, _, E', h, { s3 with vals := fun p x y h1 h2 => ?_ }⟩
        cases p with
        | succ p => simp at h1
        | zero =>
          simp at h1 h2
          rw [← h1, ← h2]
          exact hs _ hv
    · exact h.elim
  · exact h.elim
/-- A row is cut: its first elements become a row of their own. -/
theorem Sat.cutRow (s : Sat Γ E ts tab a w) {i sz n : Nat} {es : List AV} (he : ent tab i = .row .plain sz es) :
    ∃ E', Pres (fun _ => False) E (zone Γ E) tab w E' (zone Γ E') (tab.set i .dead ++ [.row .plain sz (es.take n)]) w ∧ Sat Γ E' ts (tab.set i .dead ++ [.row .plain sz (es.take n)]) a w ∧
      ∀ c, V E (zone Γ E) tab w (.part i 0 n) c → V E' (zone Γ E') (tab.set i .dead ++ [.row .plain sz (es.take n)]) w (.loc tab.length) c := by
  have hi := ent_lt he
  have hlen : (tab.set i .dead).length = tab.length := by simp
  have hent := s.ents i
  rw [he] at hent
  obtain ⟨h1, _, h2, _, h3⟩ := hent
  let E' : Env := ⟨fun x => if x = E.L i ∧ E.O (E.L i) = some (i, none) then some (tab.length, none) else E.O x, fun j => if j = tab.length then E.L i else E.L j⟩
  have hLn : E'.L tab.length = E.L i := by show (if _ then _ else _) = _; rw [if_pos rfl]
  have hLo : ∀ j, j < tab.length → E'.L j = E.L j := fun j hj => by show (if _ then _ else _) = _; rw [if_neg (by omega)]
  have hOo : ∀ x, ¬ (x = E.L i ∧ E.O (E.L i) = some (i, none)) → E'.O x = E.O x := fun x h => by show (if _ then _ else _) = _; rw [if_neg h]
  have hOn : E.O (E.L i) = some (i, none) → E'.O (E.L i) = some (tab.length, none) := fun h => by show (if _ then _ else _) = _; rw [if_pos ⟨rfl, h⟩]
  have hnew : ent (tab.set i .dead ++ [.row .plain sz (es.take n)]) tab.length = .row .plain sz (es.take n) := by rw [ent_snoc, if_pos hlen.symm]
  obtain ⟨p, s'⟩ := s.remake (E' := E') (tabD := tab.set i .dead) (tl := [.row .plain sz (es.take n)]) (w' := w) (fun x => x = i) (fun _ => False) (fun _ h => h.elim) hlen (fun x hx => by subst hx; rw [ent_set hi, if_pos rfl]) (fun x hx => by rw [ent_set hi, if_neg hx])
    (fun b h _ => ⟨by rw [hOo b fun ⟨e, e2⟩ => by subst e; rw [e2] at h; cases h]; exact h, rfl⟩) (fun j hj _ => hLo j hj) (fun b j x h hd _ => ⟨by rw [hOo b fun ⟨e, e2⟩ => by subst e; rw [e2] at h; cases h; exact hd rfl]; exact h, rfl⟩)
    (fun p j hj => by
      have hj : tab.length ≤ j := hj.elim id fun ⟨_, _, _, h, _⟩ => h.elim
      by_cases e : j = tab.length
      · subst e
        rw [hnew]
        refine ⟨fun e h => h1 e (List.mem_of_mem_take h), nofun, fun _ e h => h2 rfl e (List.mem_of_mem_take h), nofun, fun hne => ?_⟩
        obtain ⟨ho, cs, ty, fr, hh, hu, hs, hc⟩ := h3 (by rintro rfl; simp at hne)
        rw [hLn]
        refine ⟨hOn ho, cs, ty, fr, hh, hu, Nat.le_trans (Nat.mul_le_mul_right _ (by simp; omega)) hs, fun j t e v e1 e2 => ?_⟩
        rw [List.getElem?_take] at e1
        split at e1
        · obtain ⟨c, h5, h6⟩ := hc j t e v e1 e2
          exact ⟨c, h5, (show Rep (zone Γ E) w v c from h6).mono p.imm⟩
        · cases e1
      · rw [ent_eq, List.getElem?_eq_none (by simp; omega)]; trivial)
    (fun b x h => by
      by_cases e : b = E.L i ∧ E.O (E.L i) = some (i, none)
      · rw [e.1]; exact s.own _ _ e.2
      · rw [hOo b e] at h; exact s.own b x h) rfl rfl rfl (Nat.le_refl _)
  refine ⟨E', p, s', fun c hc => .loc _ _ (by simp) fun k2 sz2 es2 h => ?_⟩
  rw [hnew] at h
  cases h
  obtain ⟨hsl, hle⟩ := hc.part_inv.2 _ _ _ he
  obtain ⟨a', cap, rfl, h5, h6⟩ := hsl
  have hn2 : (es.take n).length = n := by simp; omega
  rw [hn2, hLn]
  refine ⟨a', cap, rfl, h5, h6.imp id fun ⟨g1, g2, g3⟩ => ⟨g1, hOn g2, g3⟩⟩
theorem cutRowW_sound {x : Option AV} {k : Nat → List Ent → Prop} (s : Sat Γ E ts tab a w) (h : cutRowW x tab k) :
    ∃ i n sz es E', x = some (.part i 0 n) ∧ ent tab i = .row .plain sz es ∧ k tab.length (tab.set i .dead ++ [.row .plain sz (es.take n)]) ∧ Pres (fun _ => False) E (zone Γ E) tab w E' (zone Γ E') (tab.set i .dead ++ [.row .plain sz (es.take n)]) w ∧ Sat Γ E' ts (tab.set i .dead ++ [.row .plain sz (es.take n)]) a w ∧
      ∀ c, V E (zone Γ E) tab w (.part i 0 n) c → V E' (zone Γ E') (tab.set i .dead ++ [.row .plain sz (es.take n)]) w (.loc tab.length) c := by
  unfold cutRowW at h
  split at h
  · rename_i i off n
    split at h
    · rename_i sz es he
      obtain ⟨rfl, h⟩ := h
      have h := snoc_spec (eset_spec h.o).2
      obtain ⟨E', p, s', hv⟩ := s.cutRow (n := n) he
      rw [List.length_set] at h
      exact ⟨i, n, sz, es, E', rfl, he, h, p, s', hv⟩
    · exact h.elim
  · exact h.elim
theorem Sat.cuts {p : CutP} {v : AV} {c : Value} {k : AV → List Ent → Prop} (s : Sat Γ E [v] tab { tmps := #[c], defers := [] } w) (h : cutW p v tab k) : ∃ v' tab' E', k v' tab' ∧ Sat Γ E' [v'] tab' { tmps := #[c], defers := [] } w := by
  unfold cutW at h
  split at h
  · rename_i r t
    split at h
    · rename_i sz cs he
      obtain ⟨i, n, sz2, es, E', hx, hei, h, p, s2, hv⟩ := cutRowW_sound s h
      obtain ⟨hr2, h⟩ := eset_spec (lnorm_iff h)
      rw [nth_eq] at hx
      have hri : r ≠ i := fun e => by subst e; rw [he] at hei; cases hei
      have hr := ent_lt he
      have her : ent (tab.set i .dead ++ [.row .plain sz2 (es.take n)]) r = .row .var sz [.agg cs] := by
        rw [ent_snoc, if_neg (by simp; omega), ent_set (ent_lt hei), if_neg hri]
        exact he
      have hent0 := s.ents r
      rw [he] at hent0
      have hent := s2.ents r
      rw [her] at hent
      obtain ⟨h1, _, _, h2, h3⟩ := hent
      obtain ⟨ho, cv, ty, fr, hh, hu, hs, hc⟩ := h3 (by simp)
      obtain ⟨_, _, _, _, h30⟩ := hent0
      obtain ⟨_, cv0, ty0, fr0, hh0, _, _, hc0⟩ := h30 (by simp)
      have hL : E'.L r = E.L r := (p.row r hr _ _ _ her).1
      rw [hL, hh0] at hh
      cases hh
      refine ⟨v, _, E', h, s2.write (es' := [.agg (cs.set t (.loc tab.length))]) her nofun rfl (fun e he => ?_) nofun (fun _ e he => ?_) ho (hL ▸ hh0) hu ⟨hL ▸ hh0, fun _ _ => rfl, rfl, rfl, rfl, rfl⟩ rfl hs (fun j t' e v' e1 e2 => ?_)⟩
      · rw [List.mem_singleton] at he
        subst he
        have := h1 _ (List.mem_singleton.2 rfl)
        simpa [cellsOf] using this
      · rw [List.mem_singleton] at he
        subst he
        have := h2 rfl _ (List.mem_singleton.2 rfl)
        exact okVar_of_cells fun x hx => by
          rcases List.mem_or_eq_of_mem_set (show x ∈ cs.set t (.loc tab.length) from hx) with hx | rfl
          · exact List.all_eq_true.1 (show cs.all okVar1 = true from this) x hx
          · rfl
      · cases j with
        | succ j => simp at e1
        | zero =>
          simp at e1; subst e1
          rw [Nat.zero_mul, Nat.zero_add]
          have e3 : (cs.set t (.loc tab.length))[t']? = some v' := e2
          rw [List.getElem?_set] at e3
          split at e3
          · rename_i e
            subst e
            split at e3
            · cases e3
              obtain ⟨c0, h5, h6⟩ := hc0 0 t _ _ rfl hx
              rw [Nat.zero_mul, Nat.zero_add] at h5
              exact ⟨c0, h5, hv _ h6⟩
            · cases e3
          · obtain ⟨c0, h5, h6⟩ := hc0 0 t' _ _ rfl e3
            rw [Nat.zero_mul, Nat.zero_add] at h5
            exact ⟨c0, h5, V.p p h6⟩
    · exact h.elim
  · rename_i t
    split at h
    · rename_i cs
      obtain ⟨i, n, sz2, es, E', hx, hei, h, p, s2, hv⟩ := cutRowW_sound s h
      have h := lnorm_iff h
      rw [nth_eq] at hx
      refine ⟨_, _, E', h, { s2 with vals := fun q x y h1 h2 => ?_ }⟩
      cases q with
      | succ q => simp at h1
      | zero =>
        simp at h1 h2
        subst h1; subst h2
        obtain ⟨vs, rfl, hlc, hc⟩ := (s.vals 0 _ _ rfl rfl).agg_inv
        refine .agg _ _ (by simpa using hlc) fun q x y h1 h2 => ?_
        rw [List.getElem?_set] at h1
        split at h1
        · rename_i e
          subst e
          split at h1
          · cases h1
            exact hv _ (hc _ _ _ hx h2)
          · cases h1
        · exact V.p p (hc _ _ _ h1 h2)
    · exact h.elim
theorem Sat.post {r : AV} {al : Bool} {c : Value} (s : Sat Γ E [r] tab { tmps := #[c], defers := [] } w) (hp : match al with | true => True | false => pure3 r = true ∧ pureT tab) : Post Γ E r tab al c w := by
  have hv := s.vals 0 r c rfl rfl
  refine ⟨?_, fun i => ?_, s.own, s.os, s.tape, s.output, s.size, s.frame, s.mt⟩
  · cases al with
    | true => exact hv
    | false => exact hv.pure3 hp.1
  · cases al with
    | true => exact s.ents i
    | false => exact (s.ents i).pureE (pureT_get hp.2 i)
theorem bodyD_sound {C : Contracts} {nest fz : Bool} {f : FuncId} {fn : Func} {args : List AV} {muts : List Ent} {Q : AV → List Ent → Prop} {al : Bool} {D : AV → List Ent → Prop} (hC : ∀ f args muts Q al, C f args muts Q al → AFn P f args muts Q al)
    (hf : P.funcs[f]? = some fn) (hname : (fn.name == "runtime.NumGoroutine") = false) (hD : Ends fz muts.length Q al D) (h : bodyD C nest fz P fn args muts D) : AFn P f args muts Q al := by
  obtain ⟨hfz, h⟩ := h
  intro w O L Z vs hgw hown hents hvs
  cases hb : fn.body with
  | none => rw [hb] at h; exact h.elim
  | some c =>
    rw [hb] at h
    have h := lnorm_iff h
    refine .inl ⟨by simp only [beq_eq_false_iff_ne] at hname; simp [callFunc, hf, hname, hb], calls_of_wp hf hb ?_⟩
    have s : Sat ⟨w, O, L, muts, Z⟩ ⟨O, L⟩ (args ++ List.replicate (fn.ntmps - args.length) .unk) muts { tmps := vs.toArray ++ Array.replicate (fn.ntmps - vs.toArray.size) undef, defers := [] } w := by
      refine ⟨rfl, by simp [hvs.1], fun i v c h1 h2 => ?_, hents, fun b x hb => ?_, rfl, rfl, rfl, Nat.le_refl _, fun b _ h => ⟨h, rfl⟩, fun i hi => ⟨hi, fun k sz es he => ⟨rfl, ⟨es, he, rfl⟩, fun ho => ⟨ho, fun cs ty fr hh => ⟨cs, ty, hh, rfl⟩⟩⟩⟩⟩
      · by_cases hi : i < args.length
        · rw [List.getElem?_append_left hi] at h1
          rw [Array.getElem?_append_left (by simp [← hvs.1]; exact hi)] at h2
          exact hvs.2 i v c h1 (by simpa using h2)
        · rw [List.getElem?_append_right (by omega)] at h1
          have := List.eq_of_mem_replicate (mem_of_get h1)
          subst this
          exact .imm (.unk _)
      · obtain ⟨i, y⟩ := x
        exact (hown b i y hb).1
    have hm : NoMut ⟨w, O, L, muts, Z⟩ fz := fun e => by
      have := hfz e
      subst this
      refine ⟨rfl, fun b => ?_⟩
      cases hq : O b with
      | none => exact hq
      | some x =>
        obtain ⟨i, y⟩ := x
        have := (hown b i y hq).2
        simp at this
    have done : ∀ E' ts' tab' a' w', doneW P fn D ts' tab' → Sat ⟨w, O, L, muts, Z⟩ E' ts' tab' a' w' →
        a'.defers = [] ∧ ∃ v, (results fn a'.tmps).run P w' = .ok v w' ∧ ∃ r muts' E', Q r muts' ∧ Post ⟨w, O, L, muts, Z⟩ E' r muts' al v w' := by
      intro E' ts' tab' a' w' hd s'
      obtain ⟨v, c, hd, h2, h3⟩ := resW_sound (P := P) hd s'
      obtain ⟨r, muts', hq, hd⟩ := hD _ _ hd
      have fin : ∀ {v : AV} {tab : List Ent} {E : Env}, doneX fz muts.length r muts' al v tab → Sat ⟨w, O, L, muts, Z⟩ E [v] tab { tmps := #[c], defers := [] } w' → ∃ E', Post ⟨w, O, L, muts, Z⟩ E' r muts' al c w' := by
        intro v tab E hd s3
        cases hd with
        | mk ext σ hu hn hl ht hp => exact ⟨cutE σ E, (((s3.exts ext).cut hu hn).le (ts' := [r]) ⟨hl, trivial⟩ ht).post hp⟩
        | fz ext σ hu hn hf hs hl ht hp => exact ⟨cutE σ E, (((s3.exts ext).frz (hm hf).2 hu hn hs).1.le (ts' := [r]) ⟨hl, trivial⟩ ht).post hp⟩
      refine ⟨s'.dfr, c, h2, r, muts', ?_⟩
      have key : ∃ E', Post ⟨w, O, L, muts, Z⟩ E' r muts' al c w' := by
        cases hd with
        | mk ext σ hu hn hl ht hp => exact fin (.mk ext σ hu hn hl ht hp) (s'.only h3)
        | fz ext σ hu hn hf hs hl ht hp => exact fin (.fz ext σ hu hn hf hs hl ht hp) (s'.only h3)
        | lift i j q hd =>
          obtain ⟨v2, tab2, E2, hd2, s2⟩ := (s'.only h3).lifts hd
          exact fin hd2 s2
        | cut p hd =>
          obtain ⟨v2, tab2, E2, hd2, s2⟩ := (s'.only h3).cuts hd
          exact fin hd2 s2
      exact key.imp fun _ h => ⟨hq, h⟩
    refine Code.wp_mono (fun e a' w' hq => ?_) (codeW_sound ⟨hC, hgw⟩ hm c h s)
    obtain ⟨ex, E', ts', tab', h1, h2, h3⟩ := hq
    cases e with
    | normal => cases h1; exact done _ _ _ _ _ h2 h3
    | ret => cases h1; exact done _ _ _ _ _ h2 h3
    | exit => cases h1; exact h2.elim
    | goto => cases h1; exact h2.elim
    | panic => cases h1
    | outgrown => cases h1
end
end Sx

/- Arguments as the statements read them: trees. -/
set_option linter.unusedVariables false
namespace Sx
open Go Go.RowKit
section
variable {P : Program} {w : World}
def anyB : Nat → Prop := fun _ => True
def CellsR (w : World) (vs : List AV) (cs : List Value) : Prop := vs.length = cs.length ∧ ∀ (i : Nat) (v : AV) (c : Value), vs[i]? = some v → cs[i]? = some c → Rep anyB w v c ∧ okCell v = true
theorem CellsR.one {v : AV} {c : Value} (h : Rep anyB w v c) (hk : okCell v = true) : CellsR w [v] [c] := ⟨rfl, fun i x y h1 h2 => by
  cases i with
  | zero => simp at h1 h2; subst h1; subst h2; exact ⟨h, hk⟩
  | succ i => simp at h1⟩
/-- What the statements read of a type, as trees. -/
def Reads (P : Program) (t : TypeId) (R : AV → Prop) : Prop :=
  ∀ {H : Type} (enc : TypeId × Value → H) (w : World) (fuel : Nat) (cs : List Value) (x : DataW H × List MemPlace), DataW.trod enc P w 0 (fun _ => true) true fuel t cs = some x → ∃ e, R e ∧ CellsR w (cellsOf e) cs
theorem reads_int {t : TypeId} {k : IntKind} (hu : P.underlying t = some (.int k)) : Reads P t (fun e => ∃ n, k.min ≤ n ∧ n ≤ k.max ∧ e = .int k n) := by
  intro H enc w fuel cs x h
  obtain ⟨n, rfl, _, hw⟩ := DataW.trod_int hu h
  simp [Lit.wf] at hw
  exact ⟨_, ⟨n, hw.1, hw.2, rfl⟩, .one (.int _ _) rfl⟩
theorem cells_get {base : Nat} {a : Addr} {n : Nat} {cs : List Value} (h : w.cells? base a n = some cs) : cs.length = n ∧ ∀ (i : Nat) (c : Value), cs[i]? = some c → w.cell? (a.add i) = some c := by
  unfold World.cells? at h
  split at h
  · have hl := mapM_some_length h
    refine ⟨by simpa using hl, fun i c hi => ?_⟩
    have hlt : i < n := by have := (List.getElem?_eq_some_iff.1 hi).1; simpa [hl] using this
    have := mapM_some_get h i i (by simp [hlt])
    rw [this]; exact hi
  · cases h
theorem cell_spot {a : Addr} {c : Value} (h : w.cell? a = some c) : a = ⟨a.block, a.off, none⟩ := by
  obtain ⟨b, o, s⟩ := a
  unfold World.cell? at h
  split at h
  · split at h
    · cases h
    · rename_i hs; simp at hs; subst hs; rfl
  · cases h
theorem add_cell {a : Addr} (ha : a = ⟨a.block, a.off, none⟩) (i : Nat) : a.add i = ⟨a.block, a.off + i, none⟩ := by
  obtain ⟨b, o, s⟩ := a
  cases ha
  unfold Addr.add
  split
  · rename_i h; subst h; rfl
  · rfl
theorem reads_slice {t e : TypeId} {R : AV → Prop} (hu : P.underlying t = some (.slice e)) (he : Reads P e R) (hpos : 0 < P.cellsOf e) :
    Reads P t (fun x => ∃ es, x = .sl (P.cellsOf e) es ∧ (∀ y ∈ es, R y) ∧ es.length ≤ maxLen) := by
  intro H enc w fuel cs x h
  rcases DataW.trod_slice hu h with ⟨rfl, _⟩ | ⟨a, len, cap, elems, rest, n, _, rfl, _, _, hle, hmax, hlen, hel, _, _⟩
  · exact ⟨_, ⟨[], rfl, nofun, Nat.zero_le _⟩, .one (.sl0 _ _ _) rfl⟩
  · have each : ∀ i, i < len → ∃ y, R y ∧ ∃ cs, w.cells? 0 (a.add (i * P.cellsOf e)) (P.cellsOf e) = some cs ∧ CellsR w (cellsOf y) cs := fun i hi => by
      have := hel i hi
      have hi2 : i < elems.length := by omega
      rw [List.getElem?_eq_getElem hi2, Option.bind_eq_some_iff] at this
      obtain ⟨cs, h1, h2⟩ := this
      obtain ⟨y, h3, h4⟩ := he enc w n cs _ h2
      exact ⟨y, h3, cs, h1, h4⟩
    obtain ⟨es, hl, hes⟩ := choose_list (fun i y => R y ∧ ∃ cs, w.cells? 0 (a.add (i * P.cellsOf e)) (P.cellsOf e) = some cs ∧ CellsR w (cellsOf y) cs) len each
    refine ⟨.sl (P.cellsOf e) es, ⟨es, rfl, fun y hy => ?_, by omega⟩, .one ?_ rfl⟩
    · obtain ⟨i, hi⟩ := List.getElem?_of_mem hy
      exact (hes i y hi).1
    · by_cases hz : len = 0
      · subst hz
        have := List.eq_nil_of_length_eq_zero hl
        subst this
        exact .sl0 _ _ _
      · have ha : a = ⟨a.block, a.off, none⟩ := by
          obtain ⟨y, _, cs, h1, _⟩ := each 0 (by omega)
          obtain ⟨h2, h3⟩ := cells_get h1
          have h0 : 0 < cs.length := by omega
          have := h3 0 cs[0] (List.getElem?_eq_getElem h0)
          have e1 : (a.add (0 * P.cellsOf e)).add 0 = a := by simp [Addr.add]
          rw [e1] at this
          exact cell_spot this
        have cell : ∀ (j t : Nat) (x v : AV), es[j]? = some x → (cellsOf x)[t]? = some v → ∃ c, w.cell? ⟨a.block, a.off + j * P.cellsOf e + t, none⟩ = some c ∧ Rep anyB w v c ∧ okCell v = true := fun j t x v e1 e2 => by
          obtain ⟨_, cs, h1, h2⟩ := hes j x e1
          obtain ⟨h3, h4⟩ := cells_get h1
          have ht : t < cs.length := by rw [← h2.1]; exact (List.getElem?_eq_some_iff.1 e2).1
          have h5 := h4 t cs[t] (List.getElem?_eq_getElem ht)
          rw [add_cell ha] at h5
          rw [add_cell rfl] at h5
          obtain ⟨h6, h7⟩ := h2.2 t v cs[t] e2 (List.getElem?_eq_getElem ht)
          exact ⟨_, h5, h6, h7⟩
        rw [ha, ← hl]
        refine .sl (P.cellsOf e) es a.block a.off cap (fun q => (w.cell? ⟨a.block, a.off + q, none⟩).getD undef) (by omega) (fun x hx => ?_) (fun x hx v hv => ?_) (fun _ _ _ _ _ _ => trivial) (fun j t x v e1 e2 => ?_) (fun j t x v e1 e2 => ?_)
        · obtain ⟨i, hi⟩ := List.getElem?_of_mem hx
          obtain ⟨_, cs, h1, h2⟩ := hes i x hi
          rw [h2.1, (cells_get h1).1]
        · obtain ⟨i, hi⟩ := List.getElem?_of_mem hx
          obtain ⟨t, ht⟩ := List.getElem?_of_mem hv
          obtain ⟨c, _, _, h⟩ := cell i t x v hi ht
          exact h
        · obtain ⟨c, h1, _⟩ := cell j t x v e1 e2
          rw [h1, ← Nat.add_assoc, h1]; rfl
        · obtain ⟨c, h1, h2, _⟩ := cell j t x v e1 e2
          rw [← Nat.add_assoc, h1]; exact h2
/-- The cells of a struct's fields. -/
def Parts : List (AV → Prop) → List AV → Prop
  | [], vs => vs = []
  | R :: Rs, vs => ∃ e rest, R e ∧ vs = cellsOf e ++ rest ∧ Parts Rs rest
def FieldsR (P : Program) : List Field → Nat → Nat → List (AV → Prop) → Prop
  | [], off, n, [] => off = n
  | f :: fs, off, n, R :: Rs => f.offset = off ∧ Reads P f.type R ∧ FieldsR P fs (off + P.cellsOf f.type) n Rs
  | _, _, _, _ => False
/-- A type whose values are one cell, told so. -/
def atomT : Option TypeDesc → Bool
  | some .bool => true
  | some (.int _) => true
  | some .string => true
  | some (.slice _) => true
  | _ => false
def structT : Option TypeDesc → Bool
  | some (.struct _) => true
  | some (.array _ _) => true
  | _ => false
def kindOk (P : Program) (t : TypeId) : Bool := atomT (P.underlying t) || structT (P.underlying t)
theorem atom_value {t : TypeId} {r : Reach} {b : Nat} {v : Value} (ha : atomT (P.underlying t) = true) (h : Value.okWide P w r b t v) : v.cells.toList = [v] := by
  have hn : ∀ cs, v ≠ .agg cs := fun cs e => by
    subst e
    unfold Value.okWide at h
    cases hu : P.underlying t with
    | none => rw [hu] at ha; cases ha
    | some d => cases d <;> rw [hu] at ha <;> first | (cases ha; done) | (rw [hu] at h; simp [Cell.okWide, Cell.ok, hu] at h)
  unfold Value.cells
  split
  · exact (hn _ rfl).elim
  · rfl
theorem struct_value {t : TypeId} {r : Reach} {b : Nat} {v : Value} (ha : structT (P.underlying t) = true) (h : Value.okWide P w r b t v) : ∃ cs : Array Value, v = .agg cs := by
  unfold Value.okWide at h
  cases hu : P.underlying t with
  | none => rw [hu] at ha; cases ha
  | some d => cases d <;> rw [hu] at ha <;> first | (cases ha; done) | (rw [hu] at h; obtain ⟨cs, h, _⟩ := h; exact ⟨cs, h⟩)
theorem read_value {H : Type} {enc : TypeId × Value → H} {t : TypeId} {R : AV → Prop} {r : Reach} {b : Nat} {v : Value} {d : DataW H} {ps : List MemPlace} (hR : Reads P t R) (hk : kindOk P t = true) (hat : atomT (P.underlying t) = true → ∀ e, R e → ∀ cs, e ≠ .agg cs)
    (hst : structT (P.underlying t) = true → ∀ e, R e → ∃ cs, e = .agg cs) (h : Value.okWide P w r b t v) (hd : DataW.Trod enc P w 0 (fun _ => true) true t v d ps) : ∃ e, R e ∧ Rep anyB w e v := by
  obtain ⟨fuel, hd⟩ := hd
  obtain ⟨e, h1, h2⟩ := hR enc w fuel _ _ hd
  refine ⟨e, h1, ?_⟩
  rcases Bool.or_eq_true _ _ ▸ hk with ha | hs
  · have he : cellsOf e = [e] := cellsOf_atom (hat ha e h1)
    rw [he, atom_value ha h] at h2
    exact (h2.2 0 e v rfl rfl).1
  · obtain ⟨cs, rfl⟩ := struct_value hs h
    obtain ⟨vs, rfl⟩ := hst hs e h1
    have := Rep.agg (Z := anyB) (w := w) vs cs.toList h2.1 fun i c v e1 e2 => (h2.2 i c v e1 e2).1
    simpa using this
/-- The arguments of a law. -/
def ArgsR (P : Program) : List TypeId → List (AV → Prop) → Prop
  | [], [] => True
  | t :: ts, R :: Rs => (Reads P t R ∧ kindOk P t = true ∧ (atomT (P.underlying t) = true → ∀ e, R e → ∀ cs, e ≠ .agg cs) ∧ (structT (P.underlying t) = true → ∀ e, R e → ∃ cs, e = .agg cs)) ∧ ArgsR P ts Rs
  | _, _ => False
def AllR : List (AV → Prop) → List AV → Prop
  | [], [] => True
  | R :: Rs, e :: es => R e ∧ AllR Rs es
  | _, _ => False
theorem args_read {H : Type} {enc : TypeId × Value → H} {r : Reach} {b : Nat} : ∀ {ts : List TypeId} {Rs : List (AV → Prop)} {vs : List Value} {ds : List (DataW H)} {ps : List MemPlace}, ArgsR P ts Rs →
    (∀ (j : Nat) t v, ts[j]? = some t → vs[j]? = some v → Value.okWide P w r b t v) → DataW.TrodAll enc P w 0 (fun _ => true) true ts vs ds ps → ∃ es, AllR Rs es ∧ es.length = vs.length ∧ ∀ (i : Nat) (e : AV) (v : Value), es[i]? = some e → vs[i]? = some v → Rep anyB w e v
  | [], [], [], [], _, _, _, _ => ⟨[], trivial, rfl, fun i e v h => by simp at h⟩
  | [], _ :: _, _, _, _, h, _, _ => h.elim
  | _ :: _, [], _, _, _, h, _, _ => h.elim
  | [], _, _ :: _, _, _, _, _, h => by simp [DataW.TrodAll] at h
  | [], _, [], _ :: _, _, _, _, h => by simp [DataW.TrodAll] at h
  | _ :: _, _, [], _, _, _, _, h => by simp [DataW.TrodAll] at h
  | _ :: _, _, _ :: _, [], _, _, _, h => by simp [DataW.TrodAll] at h
  | t :: ts, R :: Rs, v :: vs, d :: ds, ps, ⟨⟨h1, h2, h3, h4⟩, h5⟩, hok, ⟨p, q, g1, g2, g3⟩ => by
    obtain ⟨e, h6, h7⟩ := read_value h1 h2 h3 h4 (hok 0 t v rfl rfl) g1
    obtain ⟨es, h8, h9, h10⟩ := args_read h5 (fun j t v q1 q2 => hok (j + 1) t v q1 q2) g2
    refine ⟨e :: es, ⟨h6, h8⟩, by simp [h9], fun i x y q1 q2 => ?_⟩
    cases i with
    | zero => simp at q1 q2; subst q1; subst q2; exact h7
    | succ i => exact h10 i x y (by simpa using q1) (by simpa using q2)
theorem AFn.calls {f : FuncId} {fn : Func} {c : Code} (hf : P.funcs[f]? = some fn) (hname : (fn.name == "runtime.NumGoroutine") = false) (hb : fn.body = some c) {vs : List Value} {R : Value → World → Prop} (h : ACall P f vs w R) :
    Calls P f vs.toArray w fun e w' => match e with | .returned v => R v w' | _ => False := by
  rcases h with ⟨_, h⟩ | ⟨v, w', h, _⟩
  · exact h
  · simp only [beq_eq_false_iff_ne] at hname
    simp [callFunc, hf, hname, hb] at h
theorem trodAll_below {H : Type} {enc : TypeId × Value → H} {W W' : World} (hl : laidOutB P = true) (hb : Below W.heap.size W W') : ∀ {ts : List TypeId} {vs : List Value} {ds : List (DataW H)} {ps : List MemPlace}, (∀ t ∈ ts, P.readableRec t = true ∧ t < P.types.size) →
    DataW.TrodAll enc P W 0 (fun _ => true) true ts vs ds ps → DataW.TrodAll enc P W' 0 (fun b => decide (b < W.heap.size)) true ts vs ds ps
  | [], [], [], ps, _, h => h
  | [], _ :: _, _, _, _, h => by simp [DataW.TrodAll] at h
  | [], [], _ :: _, _, _, h => by simp [DataW.TrodAll] at h
  | _ :: _, [], _, _, _, h => by simp [DataW.TrodAll] at h
  | _ :: _, _ :: _, [], _, _, h => by simp [DataW.TrodAll] at h
  | t :: ts, v :: vs, d :: ds, ps, hr, ⟨p, q, g1, g2, g3⟩ => by
    obtain ⟨r1, r2⟩ := hr t (List.mem_cons_self ..)
    refine ⟨p, q, Below.trod hl r1 r2 g1 hb (fun x hx => ?_), trodAll_below hl hb (fun t ht => hr t (List.mem_cons_of_mem _ ht)) g2, g3⟩
    obtain ⟨n, g1⟩ := g1
    exact DataW.trod_lt n t _ _ g1 x hx
theorem trodAll_len {H : Type} {enc : TypeId × Value → H} {sp : Nat → Bool} {b : Nat} {hd : Bool} : ∀ {ts : List TypeId} {vs : List Value} {ds : List (DataW H)} {ps : List MemPlace}, DataW.TrodAll enc P w b sp hd ts vs ds ps → ds.length = ts.length
  | [], [], [], _, _ => rfl
  | [], _ :: _, _, _, h => by simp [DataW.TrodAll] at h
  | [], [], _ :: _, _, h => by simp [DataW.TrodAll] at h
  | _ :: _, [], _, _, h => by simp [DataW.TrodAll] at h
  | _ :: _, _ :: _, [], _, h => by simp [DataW.TrodAll] at h
  | t :: ts, v :: vs, d :: ds, ps, ⟨p, q, _, g2, _⟩ => by simp [trodAll_len g2]
/-- A law whose contract says 'true' does what its row says. -/
theorem law_rowG [Glb] {H : Type} {enc : TypeId × Value → H} {f : FuncId} {fn : Func} {c : Code} {s : ChangeSpec} {Rs : List (AV → Prop)} {tb : TypeId} (hf : P.funcs[f]? = some fn) (hname : (fn.name == "runtime.NumGoroutine") = false) (hb : fn.body = some c)
    (hl : laidOutB P = true) (hread : ∀ t ∈ fn.params.toList, P.readableRec t = true ∧ t < P.types.size) (hargs : ArgsR P fn.params.toList Rs) (hvars : s.vars = []) (hres : fn.resultTypes = #[tb]) (htb : P.underlying tb = some .bool)
    (hs : ∀ ds : List (DataW H), ds.length = fn.params.toList.length → s.fn H ds = { results := [.lit (.bool true)], args := ds }) (hc : ∀ es, AllR Rs es → AFn P f es [] (is .tt []) false)
    (W : World) (base : Nat) (args : Array Value) (ds gs : List (DataW H)) (before : List MemPlace) (hG : Gw (fun _ => none) W)
    (hval : ∀ (j : Nat) t v, fn.params[j]? = some t → args[j]? = some v → Value.okWide P W .any base t v) (hW : DataW.Whole enc P fn.params.toList s.vars false W args.toList ds gs before) :
    Calls P f args W fun e W' => ∃ v, e = .returned v ∧ s.post enc P fn false true false false W args v W' := by
  have hW' := hW
  obtain ⟨p, q, hA, hV, rfl, hfz, hnd⟩ := hW
  rw [hvars] at hV
  obtain ⟨rfl, rfl⟩ := Go.ChangeShapes.trodVars_none hV
  obtain ⟨es, h1, h2, h3⟩ := args_read (r := .any) (b := base) hargs (fun j t v q1 q2 => hval j t v (by simpa using q1) (by simpa using q2)) hA
  have hcall := hc es h1 W (fun _ => none) (fun _ => 0) anyB args.toList hG nofun (fun i => by rw [ent_out (Nat.zero_le _)]; trivial) ⟨h2, fun i v c q1 q2 => .imm ((h3 i v c q1 q2).mono fun b _ _ => ⟨⟨rfl, fun _ => trivial⟩, rfl⟩)⟩
  have hcalls := AFn.calls hf hname hb hcall
  rw [Array.toArray_toList] at hcalls
  refine calls_mono hcalls fun e W' hr => ?_
  cases e with
  | returned v =>
    obtain ⟨_, _, E', ⟨e1, e2⟩, hp⟩ := hr
    subst e1; subst e2
    have hv := hp.val.tt_inv
    subst hv
    have bel : Below W.heap.size W W' := ⟨hp.os, hp.tape, hp.output, hp.size, fun k hk => (hp.frame k hk rfl).2⟩
    have hlen : ds.length = fn.params.toList.length := trodAll_len hA
    refine ⟨_, rfl, ds, [], _, [], p, [], hW', ?_, ?_, ?_, bel.frame _, fun h => by cases h⟩
    all_goals rw [List.append_nil, hs ds hlen]
    · rw [hres]
      exact Go.ChangeShapes.trodAll_mk1 (shut_bool htb _)
    · exact trodAll_below hl bel hread hA
    · rw [hvars]; rfl
  | panicked => exact hr.elim
  | outgrown => exact hr.elim
theorem law_row [Glb] {H : Type} {enc : TypeId × Value → H} {f : FuncId} {fn : Func} {c : Code} {s : ChangeSpec} {Rs : List (AV → Prop)} {tb : TypeId} (hf : P.funcs[f]? = some fn) (hname : (fn.name == "runtime.NumGoroutine") = false) (hb : fn.body = some c)
    (hl : laidOutB P = true) (hread : ∀ t ∈ fn.params.toList, P.readableRec t = true ∧ t < P.types.size) (hargs : ArgsR P fn.params.toList Rs) (hvars : s.vars = []) (hres : fn.resultTypes = #[tb]) (htb : P.underlying tb = some .bool)
    (hs : ∀ ds : List (DataW H), ds.length = fn.params.toList.length → s.fn H ds = { results := [.lit (.bool true)], args := ds }) (hc : ∀ es, AllR Rs es → AFn P f es [] (is .tt []) false) (hG : ∀ w : World, Glb.G w)
    (W : World) (base : Nat) (args : Array Value) (ds gs : List (DataW H)) (before : List MemPlace)
    (hval : ∀ (j : Nat) t v, fn.params[j]? = some t → args[j]? = some v → Value.okWide P W .any base t v) (hW : DataW.Whole enc P fn.params.toList s.vars false W args.toList ds gs before) :
    Calls P f args W fun e W' => ∃ v, e = .returned v ∧ s.post enc P fn false true false false W args v W' :=
  law_rowG hf hname hb hl hread hargs hvars hres htb hs hc W base args ds gs before ⟨fun _ => False, fun _ h => h.elim, fun w' _ => hG w'⟩ hval hW
end
end Sx

/- Words for proofs of contracts. -/
namespace Sx
open Go
set_option linter.unusedVariables false
set_option linter.unusedSimpArgs false
structure Cf [Glb] (P : Program) (f : FuncId) (args : List AV) (muts : List Ent) (Q : AV → List Ent → Prop) (al : Bool) : Prop where
  h : AFn P f args muts Q al
theorem mkC [Glb] {P : Program} (nest fz : Bool) {f : FuncId} {fn : Func} {args : List AV} {muts : List Ent} {r : AV} {muts' : List Ent} {al : Bool} (hf : P.funcs[f]? = some fn) (hn : (fn.name == "runtime.NumGoroutine") = false)
    (h : bodyD (Cf P) nest fz P fn args muts fun v tab => doneV fz muts.length r muts' al v tab) : Cf P f args muts (is r muts') al := ⟨bodyD_sound (fun _ _ _ _ _ h => h.h) hf hn (fun _ _ h => ⟨r, muts', ⟨rfl, rfl⟩, h⟩) h⟩
theorem mkE [Glb] {P : Program} (nest fz : Bool) {f : FuncId} {fn : Func} {args : List AV} {muts : List Ent} {α : Type} {p : α → Prop} {rf : α → AV} {mf : α → List Ent} {al : Bool} (hf : P.funcs[f]? = some fn) (hn : (fn.name == "runtime.NumGoroutine") = false)
    (h : bodyD (Cf P) nest fz P fn args muts fun v tab => doneE fz muts.length p rf mf al v tab) : Cf P f args muts (some' p rf mf) al := ⟨bodyD_sound (fun _ _ _ _ _ h => h.h) hf hn (fun _ _ ⟨x, hx, h⟩ => ⟨rf x, mf x, ⟨x, hx, rfl, rfl⟩, h⟩) h⟩
/-- A contract that says less. -/
theorem Cf.to [Glb] {P : Program} {f : FuncId} {args : List AV} {muts : List Ent} {Q Q' : AV → List Ent → Prop} {al : Bool} (h : Cf P f args muts Q al) (hq : ∀ r m, Q r m → Q' r m) : Cf P f args muts Q' al := ⟨fun w O L Z vs h0 h1 h2 h3 =>
  (h.h w O L Z vs h0 h1 h2 h3).mono fun _ _ ⟨r, m, E, q, p⟩ => ⟨r, m, E, hq r m q, p⟩⟩
/-- One of the results, whichever it is. -/
theorem Cf.ex [Glb] {P : Program} {f : FuncId} {args : List AV} {muts : List Ent} {Q : AV → List Ent → Prop} {al : Bool} {α : Type} {p : α → Prop} {rf : α → AV} {mf : α → List Ent} (h : Cf P f args muts Q al) (hq : ∀ r m, Q r m → ∃ x, p x ∧ r = rf x ∧ m = mf x) : Cf P f args muts (some' p rf mf) al := h.to hq
section
variable {α : Type} {K : AV → Prop} {KL : List AV → Prop} {p y n : Prop}
/-! numbers -/
theorem wr {a : Int} (h1 : -9223372036854775808 ≤ a) (h2 : a ≤ 9223372036854775807) : IntKind.i64.wrap a = a := by
  have e : IntKind.i64.wrap a = (if a % 18446744073709551616 ≥ 9223372036854775808 then a % 18446744073709551616 - 18446744073709551616 else a % 18446744073709551616) := by simp [IntKind.wrap, IntKind.signed, IntKind.bits]
  rw [e]
  split <;> omega
theorem nw {a : Int} (h1 : -9223372036854775808 ≤ a) (h2 : a ≤ 9223372036854775807) (hk : K (.int .i64 a)) : num .i64 (IntKind.i64.wrap a) K := .mk a (wr h1 h2) hk
theorem nr {k : IntKind} {a : Int} (hk : K (.int k a)) : num k a K := .mk a rfl hk
theorem Z {α : Type _} {x : α} {q : Prop} (h : q) : x = x ∧ q := ⟨rfl, h⟩
theorem ntd {a b : Int} (h0 : 0 ≤ a) (h1 : a ≤ 9223372036854775807) (h2 : 0 < b) (hk : K (.int .i64 (a / b))) : num .i64 (IntKind.i64.wrap (a.tdiv b)) K := by
  have e : a.tdiv b = a / b := Int.tdiv_eq_ediv_of_nonneg h0
  refine .mk (a / b) ?_ hk
  rw [e]
  have h3 : 0 ≤ a / b := Int.ediv_nonneg h0 (by omega)
  have h4 : a / b ≤ a := Int.ediv_le_self b h0
  exact wr (by omega) (by omega)
theorem ntm {a b : Int} (h0 : 0 ≤ a) (hk : K (.int .i64 (a % b))) : num .i64 (a.tmod b) K := .mk (a % b) (Int.tmod_eq_emod_of_nonneg h0) hk
/-! two ways -/
theorem tY (h : p) (hy : y) : twoP p y n := ⟨fun _ => hy, fun h' => (h' h).elim⟩
theorem tN (h : ¬ p) (hn : n) : twoP p y n := ⟨fun h' => (h h').elim, fun _ => hn⟩
theorem twoN {q : Prop} (hy : ¬ q → y) (hn : q → n) : twoP (¬ q) y n := ⟨hy, fun h => hn (Classical.not_not.1 h)⟩
/-! lists -/
theorem nth_map {f : α → AV} {l : List α} {k : Nat} (h : k < l.length) : nth (l.map f) k = some (f l[k]) := by rw [nth_eq]; simp [h]
theorem gm {f : α → AV} {l : List α} {k : Nat} (h : k < l.length) (hk : K (f l[k])) : getP (l.map f) k K := .mk _ (nth_map h) hk
theorem gmv {f : α → AV} {l : List α} {k k' : Nat} {x : α} {h0 : k < l.length} (hk' : k' = k) (e : l[k]'h0 = x) (hk : K (f x)) : getP (l.map f) k' K := by subst hk'; exact .mk _ (nth_map h0) (by rw [e]; exact hk)
section
variable {KN : Nat → Prop}
theorem jk {k len : Nat} (h : k < len) (hk : KN k) : idxN (k : Int) len KN := .mk k (by omega) (by omega) (by omega) hk
theorem jkm {f : α → AV} {l : List α} {k : Nat} (h : k < l.length) (hk : KN k) : idxN (k : Int) (l.map f).length KN := jk (by simpa using h) hk
theorem jkm1 {f : α → AV} {l : List α} {k : Nat} (h : k ≤ l.length) (hk : KN k) : idxN (k : Int) ((l.map f).length + 1) KN := jk (by simp; omega) hk
theorem jm {k len : Nat} (h0 : 0 < k) (h : k - 1 < len) (hk : KN (k - 1)) : idxN ((k : Int) - 1) len KN := .mk (k - 1) (by omega) (by omega) (by omega) hk
theorem jmm {f : α → AV} {l : List α} {k : Nat} (h0 : 0 < k) (h : k - 1 < l.length) (hk : KN (k - 1)) : idxN ((k : Int) - 1) (l.map f).length KN := jm h0 (by simpa using h) hk
theorem jn {m : Int} {len : Nat} (h0 : 0 ≤ m) (h1 : m < (len : Int)) (hk : KN m.toNat) : idxN m len KN := .mk _ h0 h1 rfl hk
theorem jnm {f : α → AV} {l : List α} {m : Int} (h0 : 0 ≤ m) (h1 : m < (l.length : Int)) (hk : KN m.toNat) : idxN m (l.map f).length KN := jn h0 (by simpa using h1) hk
end
theorem lm {f : α → AV} {l : List α} {K : Nat → Prop} (hk : K l.length) : lenP (l.map f) K := .mk _ (by simp) hk
theorem ea {f : α → AV} {l : List α} {x : α} (hk : KL ((l ++ [x]).map f)) : eqL (l.map f ++ [f x]) KL := .mk _ (by simp) hk
theorem eap {f : α → AV} {l l' : List α} (hk : KL ((l ++ l').map f)) : eqL (l.map f ++ l'.map f) KL := .mk _ (by simp) hk
theorem eset' {f : α → AV} {l : List α} {k : Nat} {x : α} (hk : KL ((l.set k x).map f)) : eqL ((l.map f).set k (f x)) KL := .mk _ (by simp [List.map_set]) hk
theorem esub {f : α → AV} {l : List α} {a b : Nat} (hk : KL (((l.take b).drop a).map f)) : eqL (((l.map f).take b).drop a) KL := .mk _ (by simp [List.map_take, List.map_drop]) hk
theorem knownSS {L : List (List Int)} : knownL (L.map fun l => .sl 1 (l.map i64)) := fun e he v hv => by
  obtain ⟨l, _, rfl⟩ := List.mem_map.1 he
  simp [cellsOf] at hv
  subst hv
  rfl
theorem knownApp {a b : List AV} (ha : knownL a) (hb : knownL b) : knownL (a ++ b) := fun e he => (List.mem_append.1 he).elim (ha e) (hb e)
theorem knownNil {n k : Nat} : knownL ((List.replicate n AV.nilsl).drop k) := fun e he v hv => by
  have := List.eq_of_mem_replicate (List.mem_of_mem_drop he)
  subst this
  simp [cellsOf] at hv
  subst hv
  rfl
theorem lem1 {f : α → AV} {l : List α} {x : AV} (h : l.length + 1 ≤ 1099511627776) (hk : p) : leP ((l.map f).length + [x].length) big p := ⟨by simpa [big] using h, hk⟩
theorem lem0 {β : Type} {g : β → AV} {l' : List β} (h : l'.length ≤ 1099511627776) (hk : p) : leP (l'.map g).length big p := ⟨by simpa [big] using h, hk⟩
/-! loops -/
theorem loop_ind {β : Type} {fz : Bool} {m : Nat} {b : (Ex → List AV → List Ent → Prop) → List AV → List Ent → Prop} {K : Ex → List AV → List Ent → Prop} {ts : List AV} {tab : List Ent}
    (T : β → List AV) (U : β → List Ent) (Inv : β → Prop) (μ : β → Nat) (a0 : β) (h0 : Inv a0) (hw : weak fz m ts tab (T a0) (U a0))
    (hs : ∀ a, Inv a → ∀ R : List AV → List Ent → Prop, (∀ a' ts' tab', Inv a' → μ a' < μ a → weak fz m ts' tab' (T a') (U a') → R ts' tab') →
      b (fun e ts' tab' => match e with | .normal => R ts' tab' | e => K e ts' tab') (T a) (U a)) : LoopW fz m b K ts tab := by
  refine ⟨fun R hR hb => ?_⟩
  have key : ∀ k a, μ a < k → Inv a → R (T a) (U a) := by
    intro k
    induction k with
    | zero => intro a h; omega
    | succ k ih =>
      intro a h hi
      exact hb _ _ (hs a hi R fun a' ts' tab' h1 h2 h3 => hR _ _ _ _ h3 (ih a' (by omega) h1))
  exact hR _ _ _ _ hw (key _ a0 (Nat.lt_succ_self _) h0)
/-- Some slots, told anew. -/
def setW : List (Nat × AV) → List AV → (List AV → Prop) → Prop
  | [], ts, k => k ts
  | (i, v) :: vs, ts, k => lset ts i v fun ts' => setW vs ts' k
def setE : List (Nat × Ent) → List Ent → (List Ent → Prop) → Prop
  | [], ts, k => k ts
  | (i, v) :: vs, ts, k => eset ts i v fun ts' => setE vs ts' k
def setL (vs : List (Nat × AV)) (ts : List AV) : List AV := vs.foldl (fun ts p => ts.set p.1 p.2) ts
def setR (vs : List (Nat × Ent)) (ts : List Ent) : List Ent := vs.foldl (fun ts p => ts.set p.1 p.2) ts
theorem setW_iff : ∀ {vs : List (Nat × AV)} {ts : List AV} {k : List AV → Prop}, setW vs ts k → k (setL vs ts)
  | [], _, _, h => h
  | _ :: vs, _, _, h => setW_iff (vs := vs) (lset_spec h).2
theorem setE_iff : ∀ {vs : List (Nat × Ent)} {ts : List Ent} {k : List Ent → Prop}, setE vs ts k → k (setR vs ts)
  | [], _, _, h => h
  | _ :: vs, _, _, h => setE_iff (vs := vs) (eset_spec h).2
/-- A round's end. -/
structure RdE (p q : Prop) : Prop where
  inv : p
  dec : q
theorem loop_up {β : Type} {fz : Bool} {m : Nat} {b : (Ex → List AV → List Ent → Prop) → List AV → List Ent → Prop} {K : Ex → List AV → List Ent → Prop} {ts : List AV} {tab : List Ent}
    (T : β → List (Nat × AV)) (U : β → List (Nat × Ent)) (ext : List Nat) (Inv : β → Prop) (μ : β → Nat) (a0 : β) (h0 : Inv a0)
    (hw : setW (T a0) ts fun ts' => lnorm (tab ++ newR ext) fun tab0 => setE (U a0) tab0 fun tab' => weak fz m ts tab ts' tab')
    (hs : ∀ a, Inv a → ∀ R : List AV → List Ent → Prop, (∀ a' ts' tab', RdE (Inv a') (μ a' < μ a) → (setW (T a') ts fun ts2 => lnorm (tab ++ newR ext) fun tab0 => setE (U a') tab0 fun tab2 => weak fz m ts' tab' ts2 tab2) → R ts' tab') →
      setW (T a) ts fun ts1 => lnorm (tab ++ newR ext) fun tab0 => setE (U a) tab0 fun tab1 => b (fun e ts' tab' => match e with | .normal => R ts' tab' | e => K e ts' tab') ts1 tab1) : LoopW fz m b K ts tab :=
  loop_ind (fun a => setL (T a) ts) (fun a => setR (U a) (tab ++ newR ext)) Inv μ a0 h0 (setE_iff (lnorm_iff (setW_iff hw))) fun a hi R hR =>
    have hh := hs a hi R fun a' ts' tab' h1 h3 => hR a' ts' tab' h1.inv h1.dec (setE_iff (lnorm_iff (setW_iff h3)))
    setE_iff (lnorm_iff (setW_iff hh))
/-! ends -/
theorem dv0 {fz : Bool} {v r : AV} {tab : List Ent} (hp : pure3 r = true) (hl : le3 [] (cut3 [] v) r) : doneV fz 0 r [] false v tab := .mk [] [] rfl rfl hl trivial ⟨hp, trivial⟩
end
def isl (l : List Int) : AV := .sl 1 (l.map i64)
end Sx

/- Arguments of laws, as lists of one's own. -/
set_option linter.unusedVariables false
namespace Sx
open Go
section
variable {P : Program} {α : Type}
theorem Reads.imp {t : TypeId} {R R' : AV → Prop} (h : Reads P t R) (hi : ∀ x, R x → R' x) : Reads P t R' := by
  intro H enc w fuel cs x hx
  obtain ⟨e, h1, h2⟩ := h enc w fuel cs x hx
  exact ⟨e, hi e h1, h2⟩
theorem list_map {f : α → AV} {Q : α → Prop} : ∀ {es : List AV}, (∀ y ∈ es, ∃ a, Q a ∧ y = f a) → ∃ l : List α, (∀ a ∈ l, Q a) ∧ es = l.map f
  | [], _ => ⟨[], nofun, rfl⟩
  | e :: es, h => by
    obtain ⟨a, h1, rfl⟩ := h e (List.mem_cons_self ..)
    obtain ⟨l, h2, rfl⟩ := list_map (es := es) fun y hy => h y (List.mem_cons_of_mem _ hy)
    exact ⟨a :: l, fun b hb => by
      rcases List.mem_cons.1 hb with rfl | hb
      · exact h1
      · exact h2 b hb, rfl⟩
def inInt (n : Int) : Prop := -9223372036854775808 ≤ n ∧ n ≤ 9223372036854775807
def RF (f : α → AV) (Q : α → Prop) (x : AV) : Prop := ∃ a, Q a ∧ x = f a
def okL (Q : α → Prop) (l : List α) : Prop := (∀ a ∈ l, Q a) ∧ l.length ≤ 9223372036854775807
theorem reads_l {t e : TypeId} {sz : Nat} {f : α → AV} {Q : α → Prop} (hu : P.underlying t = some (.slice e)) (hs : P.cellsOf e = sz) (hp : 0 < sz) (he : Reads P e (RF f Q)) : Reads P t (RF (fun l => .sl sz (l.map f)) (okL Q)) := by
  subst hs
  refine Reads.imp (reads_slice hu he hp) fun x ⟨es, h1, h2, h3⟩ => ?_
  obtain ⟨l, h4, rfl⟩ := list_map h2
  exact ⟨l, ⟨h4, by unfold maxLen at h3; simpa using h3⟩, h1⟩
def sfields (P : Program) (t : TypeId) : Array Field := match P.underlying t with
  | some (.struct fs) => fs
  | _ => #[]
def FieldsT (P : Program) : List (TypeId × Nat) → Nat → Nat → List (AV → Prop) → Prop
  | [], off, n, [] => off = n
  | (t, o) :: fs, off, n, R :: Rs => o = off ∧ Reads P t R ∧ FieldsT P fs (off + P.cellsOf t) n Rs
  | _, _, _, _ => False
/-- An argument that is no struct. -/
theorem arg_atom {t : TypeId} {R : AV → Prop} {ts : List TypeId} {Rs : List (AV → Prop)} (h : Reads P t R) (hk : atomT (P.underlying t) = true) (hs : structT (P.underlying t) = false) (hr : ∀ e, R e → ∀ cs, e ≠ .agg cs) (rest : ArgsR P ts Rs) : ArgsR P (t :: ts) (R :: Rs) :=
  ⟨⟨h, by simp [kindOk, hk], fun _ => hr, fun h => by rw [hs] at h; cases h⟩, rest⟩
theorem len1 {β : Type _} {Q : List β → Prop} {n : Nat} (hn : n = 1) (h : ∀ a0, Q [a0]) : ∀ ds : List β, ds.length = n → Q ds := by
  subst hn
  intro ds hd
  rcases ds with _ | ⟨a0, r0⟩
  · simp at hd
  rcases r0 with _ | ⟨b, r⟩
  · exact h a0
  · simp at hd
theorem all1 {R0 : AV → Prop} {Q : List AV → Prop} (h : ∀ a0, R0 a0 → Q [a0]) : ∀ es, AllR [R0] es → Q es := by
  intro es he
  rcases es with _ | ⟨a0, r0⟩
  · exact he.elim
  rcases r0 with _ | ⟨b, r⟩
  · exact h a0 he.1
  · exact he.2.elim
theorem len2 {β : Type _} {Q : List β → Prop} {n : Nat} (hn : n = 2) (h : ∀ a0 a1, Q [a0, a1]) : ∀ ds : List β, ds.length = n → Q ds := by
  subst hn
  intro ds hd
  rcases ds with _ | ⟨a0, r0⟩
  · simp at hd
  rcases r0 with _ | ⟨a1, r1⟩
  · simp at hd
  rcases r1 with _ | ⟨b, r⟩
  · exact h a0 a1
  · simp at hd
end
end Sx

/- Contracts of the kit's shelf, as contracts here. -/
namespace Sx
open Go Go.RowKit
/-- Nothing is known of variables of the program. -/
@[reducible] def glb0 : Glb := ⟨fun _ => True⟩
end Sx
