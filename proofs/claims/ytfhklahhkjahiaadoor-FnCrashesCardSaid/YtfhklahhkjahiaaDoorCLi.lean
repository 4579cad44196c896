/- Contracts: logs that are drawn. -/
import Derived.Test.YtfhklahhkjahiaaDoorCDn
import Derived.Test.YtfhklahhkjahiaaDoorCLe
import Derived.Test.YtfhklahhkjahiaaDoorMxX
set_option linter.all false
namespace Sx
open Go Go.Proofs
set_option maxRecDepth 100000
set_option maxHeartbeats 8000000
set_option linter.unusedSimpArgs false
set_option linter.unusedSectionVars false
variable [Glb]
variable [HasTab]
def allSB (m : Nat) : List AV → Bool
  | [] => true
  | .str s :: es => Nat.ble s.length m && allSB m es
  | _ => false
def allS (m : Nat) (es : List AV) : Prop := match allSB m es with
  | true => True
  | false => False
theorem allSB_get {m : Nat} : ∀ {es : List AV}, allSB m es = true → ∃ l : List (List UInt8), es = l.map AV.str ∧ ∀ s ∈ l, s.length ≤ m
  | [], _ => ⟨[], rfl, nofun⟩
  | .str s :: es, h => by
    have h2 : (Nat.ble s.length m && allSB m es) = true := h
    rw [Bool.and_eq_true] at h2
    obtain ⟨l, e, g⟩ := allSB_get (es := es) h2.2
    refine ⟨s :: l, by rw [e]; rfl, fun x hx => ?_⟩
    rcases List.mem_cons.1 hx with y | y
    · subst y; exact Nat.le_of_ble_eq_true h2.1
    · exact g x y
theorem allS_get {m : Nat} {es : List AV} (h : allS m es) : ∃ l : List (List UInt8), es = l.map AV.str ∧ ∀ s ∈ l, s.length ≤ m := by
  refine allSB_get ?_
  unfold allS at h
  split at h
  · assumption
  · exact h.elim
theorem of_r (L : List UInt8) (hL : L.length ≤ 1099511627776) (a s : Int) (h0 : 0 ≤ a) (h1 : a ≤ 1099511627000) (l : List (List UInt8)) (hl : 0 < l.length ∧ l.length ≤ 1099511627776) : CE 78 [.prow 0 0 0, .loc 1] [cur L a s, rowT l] (fun e : List UInt8 × Int × Int => e.1 ∈ l ∧ a ≤ e.2.1 ∧ e.2.1 ≤ a + 2) (fun e => .str e.1) (fun e => [cur L e.2.1 e.2.2, rowT l]) true := by
  refine mkE false false Tryd.func78 rfl ?_
  refine And.intro nofun ?_
  refine lm ?_
  refine callW.mkE [] [0] 2 _ _ _ _ (pick_c _ (by first | omega | assumption | (simp; omega) | (simp; done) | exact trivial) _ _ (by first | omega | assumption | (simp; omega) | (simp; done) | exact trivial) (by first | omega | assumption | (simp; omega) | (simp; done) | exact trivial) _) rfl rfl (by repeat' first | exact trivial | assumption | exact knownSS | exact knownApp knownSS knownNil | refine And.intro ?_ ?_) (fun _ => ⟨rfl, rfl⟩) (fun _ _ => ?_)
  iterate 2 refine Z ?_
  refine jnm (by omega) (by omega) ?_
  refine gm (by omega) ?_
  rotate_left
  rename_i e h2
  refine doneE.mk ((l[e.1.toNat]'(by omega), e.2.1, e.2.2)) ?_ ?_
  rotate_left
  focus
    refine doneV.mk [] [0, 1] rfl rfl ?_ ?_ ?_
    repeat' first | exact trivial | exact rfl | exact Iff.rfl | assumption | exact pureI | exact (show _ = _ by omega) | exact (show _ ≤ _ by omega) | exact (show _ < _ by omega) | exact (show ¬ _ by omega) | refine And.intro ?_ ?_
  rotate_right
  exact ⟨List.getElem_mem _, h2.2⟩
theorem of_c (L : List UInt8) (hL : L.length ≤ 1099511627776) (a s : Int) (h0 : 0 ≤ a) (h1 : a ≤ 1099511627000) (es : List AV) (he : allS 8 es) (hl : 0 < es.length ∧ es.length ≤ 100) : CE 78 [.prow 0 0 0, .loc 1] [cur L a s, .row .plain 1 es] (fun e : List UInt8 × Int × Int => e.1.length ≤ 8 ∧ a ≤ e.2.1 ∧ e.2.1 ≤ a + 2) (fun e => .str e.1) (fun e => [cur L e.2.1 e.2.2, .row .plain 1 es]) true := by
  obtain ⟨l, rfl, hg⟩ := allS_get he
  rw [List.length_map] at hl
  have h := of_r L hL a s h0 h1 l ⟨hl.1, by omega⟩
  exact ⟨fun w O L' Z vs g1 g2 g3 g4 => (h.h w O L' Z vs g1 g2 g3 g4).mono fun v w' ⟨r, m, E', ⟨e, he, hr, hm⟩, hp⟩ => ⟨r, m, E', ⟨e, ⟨hg _ he.1, he.2⟩, hr, hm⟩, hp⟩⟩
theorem spoilt_c (L : List UInt8) (hL : L.length ≤ 1099511627776) (a s : Int) (h0 : 0 ≤ a) (h1 : a ≤ 1099511620000) (t x : List UInt8) (ht : t.length ≤ 100000000) (hx : 0 < x.length ∧ x.length ≤ 100) : CE 65 [.prow 0 0 0, .str t, .str x] [cur L a s] (fun e : List UInt8 × Int × Int => e.1.length ≤ t.length + 1 ∧ a ≤ e.2.1 ∧ e.2.1 ≤ a + 10) (fun e => .str e.1) (fun e => [cur L e.2.1 e.2.2]) true := by
  refine mkE false false Tryd.func65 rfl ?_
  refine And.intro nofun ?_
  by_cases h : t = []
  · subst h
    refine tY (by first | omega | assumption | exact rfl | exact Iff.rfl) ?_
    refine idxN.mk 1 (by omega) (by omega) rfl ?_
    refine eqS.mk _ rfl ?_
    rotate_left
    refine doneE.mk ((List.drop 0 (List.take 1 x), a, s)) ?_ ?_
    rotate_left
    focus
      refine doneV.mk [] [0] rfl rfl ?_ ?_ ?_
      repeat' first | exact trivial | exact rfl | exact Iff.rfl | assumption | exact pureI | exact (show _ = _ by omega) | exact (show _ ≤ _ by omega) | exact (show _ < _ by omega) | exact (show ¬ _ by omega) | refine And.intro ?_ ?_
    rotate_right
    refine ⟨?_, Int.le_refl _, by show a ≤ a + 10; omega⟩
    simp only [List.length_drop, List.length_take, List.length_nil]
    omega
  · have hl := List.length_pos_iff.2 h
    refine tN (by first | omega | assumption | exact fun h => h (by assumption) | exact fun h => h rfl | exact fun h => h Iff.rfl) ?_
    refine lenS.mk _ rfl ?_
    refine callW.mkE [] [0] 1 _ _ _ _ (pick_c _ (by first | omega | assumption | (simp; omega) | (simp; done) | exact trivial) _ _ (by first | omega | assumption | (simp; omega) | (simp; done) | exact trivial) (by first | omega | assumption | (simp; omega) | (simp; done) | exact trivial) _) rfl rfl (by repeat' first | exact trivial | assumption | exact knownSS | exact knownApp knownSS knownNil | refine And.intro ?_ ?_) (fun _ => ⟨rfl, rfl⟩) (fun _ _ => ?_)
    refine lenS.mk _ rfl ?_
    refine callW.mkE [] [0] 1 _ _ _ _ (pick_c _ (by first | omega | assumption | (simp; omega) | (simp; done) | exact trivial) _ _ (by first | omega | assumption | (simp; omega) | (simp; done) | exact trivial) (by first | omega | assumption | (simp; omega) | (simp; done) | exact trivial) _) rfl rfl (by repeat' first | exact trivial | assumption | exact knownSS | exact knownApp knownSS knownNil | refine And.intro ?_ ?_) (fun _ => ⟨rfl, rfl⟩) (fun _ _ => ?_)
    refine jn (by omega) (by omega) ?_
    refine eqS.mk _ rfl ?_
    refine idxN.mk 1 (by omega) (by simp; omega) rfl ?_
    refine eqS.mk _ rfl ?_
    refine callW.mkE [] [0] 1 _ _ _ _ (pick_c _ (by first | omega | assumption | (simp; omega) | (simp; done) | exact trivial) _ _ (by first | omega | assumption | (simp; omega) | (simp; done) | exact trivial) (by first | omega | assumption | (simp; omega) | (simp; done) | exact trivial) _) rfl rfl (by repeat' first | exact trivial | assumption | exact knownSS | exact knownApp knownSS knownNil | refine And.intro ?_ ?_) (fun _ => ⟨rfl, rfl⟩) (fun _ _ => ?_)
    refine twoP.mk (fun _ => ?_) (fun _ => ?_)
    refine drawP.mkS (Z (Z ?_))
    refine Z ?_
    apply exP.mk
    exact rfl
    apply exP.mk
    exact rfl
    apply exP.mk
    refine jn (by omega) (by omega) ?_
    refine eqS.mk _ rfl ?_
    exact rfl
    apply exP.mk
    exact rfl
    apply exP.mk
    refine And.intro (by simp; omega) ?_
    refine eqS.mk _ rfl ?_
    exact rfl
    apply exP.mk
    exact rfl
    apply exP.mk
    exact rfl
    apply exP.mk
    refine jn (by omega) (by omega) ?_
    refine eqS.mk _ rfl ?_
    exact rfl
    apply exP.mk
    refine And.intro (by simp; omega) ?_
    refine eqS.mk _ rfl ?_
    exact rfl
    apply exP.mk
    exact rfl
    rotate_left
    refine twoP.mk (fun _ => ?_) (fun _ => ?_)
    refine drawP.mkS (Z (Z ?_))
    refine Z ?_
    apply exP.mk
    exact rfl
    apply exP.mk
    exact rfl
    apply exP.mk
    refine jn (by omega) (by omega) ?_
    refine eqS.mk _ rfl ?_
    exact rfl
    apply exP.mk
    exact rfl
    apply exP.mk
    refine And.intro (by simp; omega) ?_
    refine eqS.mk _ rfl ?_
    exact rfl
    apply exP.mk
    exact rfl
    apply exP.mk
    exact rfl
    apply exP.mk
    refine nw (by omega) (by omega) ?_
    exact rfl
    apply exP.mk
    refine jn (by omega) (by omega) ?_
    refine eqS.mk _ rfl ?_
    exact rfl
    apply exP.mk
    refine And.intro (by simp; omega) ?_
    refine eqS.mk _ rfl ?_
    exact rfl
    apply exP.mk
    exact rfl
    rotate_left
    refine drawP.mkS (Z (Z ?_))
    refine Z ?_
    apply exP.mk
    exact rfl
    apply exP.mk
    exact rfl
    apply exP.mk
    refine jn (by omega) (by omega) ?_
    refine eqS.mk _ rfl ?_
    exact rfl
    apply exP.mk
    exact rfl
    apply exP.mk
    exact rfl
    apply exP.mk
    refine nw (by omega) (by omega) ?_
    exact rfl
    apply exP.mk
    refine jn (by omega) (by omega) ?_
    refine eqS.mk _ rfl ?_
    exact rfl
    apply exP.mk
    refine And.intro (by simp; omega) ?_
    refine eqS.mk _ rfl ?_
    exact rfl
    apply exP.mk
    exact rfl
    rotate_left
    · rename_i e1 g1 e2 g2 e3 g3 g4
      refine doneE.mk ((List.drop 0 (List.take e1.1.toNat t) ++ List.drop 0 (List.take 1 (List.drop e2.1.toNat (List.take x.length x))) ++ List.drop e1.1.toNat (List.take t.length t), e3.2.1, e3.2.2)) ?_ ?_
      rotate_left
      focus
        refine doneV.mk [] [0] rfl rfl ?_ ?_ ?_
        repeat' first | exact trivial | exact rfl | exact Iff.rfl | assumption | exact pureI | exact (show _ = _ by omega) | exact (show _ ≤ _ by omega) | exact (show _ < _ by omega) | exact (show ¬ _ by omega) | refine And.intro ?_ ?_
      rotate_right
      refine ⟨?_, by dsimp only; omega, by dsimp only; omega⟩
      simp only [List.length_append, List.length_drop, List.length_take]
      omega
    · rename_i e1 g1 e2 g2 e3 g3 g4 g5
      refine doneE.mk ((List.drop 0 (List.take e1.1.toNat t) ++ List.drop 0 (List.take 1 (List.drop e2.1.toNat (List.take x.length x))) ++ List.drop (e1.1 + 1).toNat (List.take t.length t), e3.2.1, e3.2.2)) ?_ ?_
      rotate_left
      focus
        refine doneV.mk [] [0] rfl rfl ?_ ?_ ?_
        repeat' first | exact trivial | exact rfl | exact Iff.rfl | assumption | exact pureI | exact (show _ = _ by omega) | exact (show _ ≤ _ by omega) | exact (show _ < _ by omega) | exact (show ¬ _ by omega) | refine And.intro ?_ ?_
      rotate_right
      refine ⟨?_, by dsimp only; omega, by dsimp only; omega⟩
      simp only [List.length_append, List.length_drop, List.length_take]
      omega
    · rename_i e1 g1 e2 g2 e3 g3 g4 g5
      refine doneE.mk ((List.drop 0 (List.take e1.1.toNat t) ++ List.drop (e1.1 + 1).toNat (List.take t.length t), e3.2.1, e3.2.2)) ?_ ?_
      rotate_left
      focus
        refine doneV.mk [] [0] rfl rfl ?_ ?_ ?_
        repeat' first | exact trivial | exact rfl | exact Iff.rfl | assumption | exact pureI | exact (show _ = _ by omega) | exact (show _ ≤ _ by omega) | exact (show _ < _ by omega) | exact (show ¬ _ by omega) | refine And.intro ?_ ?_
      rotate_right
      refine ⟨?_, by dsimp only; omega, by dsimp only; omega⟩
      simp only [List.length_append, List.length_drop, List.length_take]
      omega
theorem logRecord_c (L : List UInt8) (hL : L.length ≤ 1099511627776) (a s : Int) (h0 : 0 ≤ a) (h1 : a ≤ 1099511620000) : CE 57 [.prow 0 0 0] [cur L a s] (fun e : (List UInt8 × List UInt8) × Int × Int => (e.1.1.length ≤ 8 ∧ e.1.2.length ≤ 8) ∧ a ≤ e.2.1 ∧ e.2.1 ≤ a + 10) (fun e => rec2 e.1.1 e.1.2) (fun e => [cur L e.2.1 e.2.2]) true := by
  refine mkE false false Tryd.func57 rfl ?_
  refine And.intro nofun ?_
  iterate 10 refine Z ?_
  refine callW.mkE [] [0, 2] 3 _ _ _ _ (of_c _ (by first | omega | assumption | (simp; omega) | (simp; done) | exact trivial) _ _ (by first | omega | assumption | (simp; omega) | (simp; done) | exact trivial) (by first | omega | assumption | (simp; omega) | (simp; done) | exact trivial) _ (by first | omega | assumption | (simp; omega) | (simp; done) | exact trivial) (by first | omega | assumption | (simp; omega) | (simp; done) | exact trivial)) rfl rfl (by repeat' first | exact trivial | assumption | exact knownSS | exact knownApp knownSS knownNil | refine And.intro ?_ ?_) (fun _ => ⟨rfl, rfl⟩) (fun _ _ => ?_)
  iterate 9 refine Z ?_
  refine callW.mkE [] [0, 3] 4 _ _ _ _ (of_c _ (by first | omega | assumption | (simp; omega) | (simp; done) | exact trivial) _ _ (by first | omega | assumption | (simp; omega) | (simp; done) | exact trivial) (by first | omega | assumption | (simp; omega) | (simp; done) | exact trivial) _ (by first | omega | assumption | (simp; omega) | (simp; done) | exact trivial) (by first | omega | assumption | (simp; omega) | (simp; done) | exact trivial)) rfl rfl (by repeat' first | exact trivial | assumption | exact knownSS | exact knownApp knownSS knownNil | refine And.intro ?_ ?_) (fun _ => ⟨rfl, rfl⟩) (fun _ _ => ?_)
  iterate 12 refine Z ?_
  refine callW.mkE [] [0] 5 _ _ _ _ (pick_c _ (by first | omega | assumption | (simp; omega) | (simp; done) | exact trivial) _ _ (by first | omega | assumption | (simp; omega) | (simp; done) | exact trivial) (by first | omega | assumption | (simp; omega) | (simp; done) | exact trivial) _) rfl rfl (by repeat' first | exact trivial | assumption | exact knownSS | exact knownApp knownSS knownNil | refine And.intro ?_ ?_) (fun _ => ⟨rfl, rfl⟩) (fun _ _ => ?_)
  refine twoP.mk (fun _ => ?_) (fun _ => ?_)
  iterate 2 refine Z ?_
  refine idxN.mk 3 (by omega) (by omega) rfl ?_
  refine ixb (by omega) (by omega) ?_
  iterate 2 refine Z ?_
  refine er ?_
  refine Z ?_
  refine (bytesP.mk [0, 0, 0] rfl) ?_
  iterate 9 refine Z ?_
  refine callW.mkE [] [0, 6] 7 _ _ _ _ (of_c _ (by first | omega | assumption | (simp; omega) | (simp; done) | exact trivial) _ _ (by first | omega | assumption | (simp; omega) | (simp; done) | exact trivial) (by first | omega | assumption | (simp; omega) | (simp; done) | exact trivial) _ (by first | omega | assumption | (simp; omega) | (simp; done) | exact trivial) (by first | omega | assumption | (simp; omega) | (simp; done) | exact trivial)) rfl rfl (by repeat' first | exact trivial | assumption | exact knownSS | exact knownApp knownSS knownNil | refine And.intro ?_ ?_) (fun _ => ⟨rfl, rfl⟩) (fun _ _ => ?_)
  iterate 9 refine Z ?_
  rotate_left
  refine twoP.mk (fun _ => ?_) (fun _ => ?_)
  iterate 7 refine Z ?_
  refine callW.mkE [] [0, 5] 6 _ _ _ _ (of_c _ (by first | omega | assumption | (simp; omega) | (simp; done) | exact trivial) _ _ (by first | omega | assumption | (simp; omega) | (simp; done) | exact trivial) (by first | omega | assumption | (simp; omega) | (simp; done) | exact trivial) _ (by first | omega | assumption | (simp; omega) | (simp; done) | exact trivial) (by first | omega | assumption | (simp; omega) | (simp; done) | exact trivial)) rfl rfl (by repeat' first | exact trivial | assumption | exact knownSS | exact knownApp knownSS knownNil | refine And.intro ?_ ?_) (fun _ => ⟨rfl, rfl⟩) (fun _ _ => ?_)
  iterate 9 refine Z ?_
  rotate_left
  iterate 4 refine Z ?_
  rotate_left
  · rename_i e1 g1 e2 g2 e3 g3 g4 e4 g5
    refine doneE.mk (((e4.1, e2.1), e4.2.1, e4.2.2)) ?_ ?_
    rotate_left
    focus
      refine doneV.mk [] [0] rfl rfl ?_ ?_ ?_
      repeat' first | exact trivial | exact rfl | exact Iff.rfl | assumption | exact pureI | exact (show _ = _ by omega) | exact (show _ ≤ _ by omega) | exact (show _ < _ by omega) | exact (show ¬ _ by omega) | refine And.intro ?_ ?_
    rotate_right
    refine ⟨⟨?_, ?_⟩, ?_, ?_⟩ <;> dsimp only <;> omega
  · rename_i e1 g1 e2 g2 e3 g3 g4 g5 e4 g6
    refine doneE.mk (((e1.1, e4.1), e4.2.1, e4.2.2)) ?_ ?_
    rotate_left
    focus
      refine doneV.mk [] [0] rfl rfl ?_ ?_ ?_
      repeat' first | exact trivial | exact rfl | exact Iff.rfl | assumption | exact pureI | exact (show _ = _ by omega) | exact (show _ ≤ _ by omega) | exact (show _ < _ by omega) | exact (show ¬ _ by omega) | refine And.intro ?_ ?_
    rotate_right
    refine ⟨⟨?_, ?_⟩, ?_, ?_⟩ <;> dsimp only <;> omega
  · rename_i e1 g1 e2 g2 e3 g3 g4 g5
    refine doneE.mk (((e1.1, e2.1), e3.2.1, e3.2.2)) ?_ ?_
    rotate_left
    focus
      refine doneV.mk [] [0] rfl rfl ?_ ?_ ?_
      repeat' first | exact trivial | exact rfl | exact Iff.rfl | assumption | exact pureI | exact (show _ = _ by omega) | exact (show _ ≤ _ by omega) | exact (show _ < _ by omega) | exact (show ¬ _ by omega) | refine And.intro ?_ ?_
    rotate_right
    refine ⟨⟨?_, ?_⟩, ?_, ?_⟩ <;> dsimp only <;> omega
abbrev Lgt := List UInt8 × List UInt8 × Int
theorem log12_c (L : List UInt8) (hL : L.length ≤ 1099511627776) (a s : Int) (h0 : 0 ≤ a) (h1 : a ≤ 1099511610000) : CE 64 [.prow 0 0 0] [cur L a s] (fun e : Lgt × Int × Int => (e.1.1.length + e.1.2.1.length ≤ 2640 ∧ 0 ≤ e.1.2.2 ∧ e.1.2.2 ≤ 60) ∧ a ≤ e.2.1 ∧ e.2.1 ≤ a + 200) (fun e => lgv e.1.1 e.1.2.1 e.1.2.2) (fun e => [cur L e.2.1 e.2.2]) true := by
  refine mkE false false Tryd.func64 rfl ?_
  refine And.intro nofun ?_
  iterate 7 refine Z ?_
  refine callW.mkE [] [0] 3 _ _ _ _ (pick_c _ (by first | omega | assumption | (simp; omega) | (simp; done) | exact trivial) _ _ (by first | omega | assumption | (simp; omega) | (simp; done) | exact trivial) (by first | omega | assumption | (simp; omega) | (simp; done) | exact trivial) _) rfl rfl (by repeat' first | exact trivial | assumption | exact knownSS | exact knownApp knownSS knownNil | refine And.intro ?_ ?_) (fun _ => ⟨rfl, rfl⟩) (fun _ _ => ?_)
  rotate_left
  rename_i e0 g0
  refine loop_up (β := Nat × Lgt × Int × Int) (fun (k, l, p, q) => [(4, i64 k)]) (fun (k, l, p, q) => [(0, cur L p q), (2, .row .var 3 [lgv l.1 l.2.1 l.2.2])]) [] (fun (k, l, p, q) => (k : Int) ≤ 6 ∧ l.1.length + l.2.1.length + 440 * k ≤ 2640 ∧ (0 ≤ l.2.2 ∧ l.2.2 ≤ 60) ∧ a ≤ p ∧ p + 20 * k ≤ a + 200) (fun (k, l, p, q) => k) ((e0.1.toNat, ([], [], 0), e0.2.1, e0.2.2)) ?_ ?_ ?_
  · refine ⟨by omega, ?_, ⟨Int.le_refl _, by decide⟩, by omega, by omega⟩
    show 0 + 0 + 440 * e0.1.toNat ≤ 2640
    omega
  · refine weak.mk [] [0, 1, 2] rfl rfl ?_ ?_
    repeat' first | exact trivial | exact rfl | exact Iff.rfl | assumption | exact pureI | exact (show _ = _ by omega) | exact (show _ ≤ _ by omega) | exact (show _ < _ by omega) | exact (show ¬ _ by omega) | refine And.intro ?_ ?_
  · rintro ⟨k, l, p, q⟩ ⟨hk, hl, hn, hp, hp2⟩ R hR
    have sd1 : ∀ (c r : List UInt8), (apP l.1 l.2.1 l.2.2 c r).length ≤ 1048576 := fun c r => by have := (ap_bd (D := l.1) (P := l.2.1) (c := c) (r := r) hn).1; omega
    by_cases hk0 : 0 < k
    · refine tY (by first | omega | assumption | exact rfl | exact Iff.rfl) ?_
      refine drawP.mkS (Z (Z ?_))
      refine Z ?_
      apply exP.mk
      exact rfl
      apply exP.mk
      exact rfl
      refine callW.mkE [] [0] 3 _ _ _ _ (logRecord_c _ (by first | omega | assumption | (simp; omega) | (simp; done) | exact trivial | (apply sd1 <;> first | omega | assumption)) _ _ (by first | omega | assumption | (simp; omega) | (simp; done) | exact trivial | (apply sd1 <;> first | omega | assumption)) (by first | omega | assumption | (simp; omega) | (simp; done) | exact trivial | (apply sd1 <;> first | omega | assumption))) rfl rfl (by repeat' first | exact trivial | assumption | exact knownSS | exact knownApp knownSS knownNil | refine And.intro ?_ ?_) (fun _ => ⟨rfl, rfl⟩) (fun _ _ => ?_)
      iterate 2 refine Z ?_
      refine callW.mk [] 3 _ _ _ (sAppendRecord_c _ _ _ _ _ (by first | omega | assumption | (simp; omega) | (simp; done) | exact trivial | (apply sd1 <;> first | omega | assumption)) (by first | omega | assumption | (simp; omega) | (simp; done) | exact trivial | (apply sd1 <;> first | omega | assumption)) (by first | omega | assumption | (simp; omega) | (simp; done) | exact trivial | (apply sd1 <;> first | omega | assumption)) (by first | omega | assumption | (simp; omega) | (simp; done) | exact trivial | (apply sd1 <;> first | omega | assumption))) rfl rfl trivial nofun ?_
      refine Z ?_
      apply exP.mk
      exact rfl
      apply exP.mk
      exact rfl
      apply exP.mk
      exact rfl
      iterate 6 refine Z ?_
      refine callW.mkE [] [0] 3 _ _ _ _ (one_c _ (by first | omega | assumption | (simp; omega) | (simp; done) | exact trivial | (apply sd1 <;> first | omega | assumption)) _ _ (by first | omega | assumption | (simp; omega) | (simp; done) | exact trivial | (apply sd1 <;> first | omega | assumption)) (by first | omega | assumption | (simp; omega) | (simp; done) | exact trivial | (apply sd1 <;> first | omega | assumption)) _) rfl rfl (by repeat' first | exact trivial | assumption | exact knownSS | exact knownApp knownSS knownNil | refine And.intro ?_ ?_) (fun _ => ⟨rfl, rfl⟩) (fun _ _ => ?_)
      refine twoP.mk (fun _ => ?_) (fun _ => ?_)
      refine callW.mk [] 3 _ _ _ (sSyncLog_c _ _ _ (by first | omega | assumption | (simp; omega) | (simp; done) | exact trivial | (apply sd1 <;> first | omega | assumption)) (by first | omega | assumption | (simp; omega) | (simp; done) | exact trivial | (apply sd1 <;> first | omega | assumption))) rfl rfl trivial nofun ?_
      iterate 4 refine Z ?_
      refine nw (by omega) (by omega) ?_
      rotate_left
      refine nw (by omega) (by omega) ?_
      rotate_left
      · rename_i e1 g1 e2 g2 g3
        have b1 := ap_bd (D := l.1) (P := l.2.1) (c := e1.1.1) (r := e1.1.2) hn
        have b2 := sy_bd (D := l.1) (P := (apP l.1 l.2.1 l.2.2 e1.1.1 e1.1.2)) b1.2
        refine hR ((k - 1, (if logOk l.1 (apP l.1 l.2.1 l.2.2 e1.1.1 e1.1.2) (apN l.1 l.2.1 l.2.2 e1.1.1 e1.1.2) then l.1 ++ (apP l.1 l.2.1 l.2.2 e1.1.1 e1.1.2) else [], [], if logOk l.1 (apP l.1 l.2.1 l.2.2 e1.1.1 e1.1.2) (apN l.1 l.2.1 l.2.2 e1.1.1 e1.1.2) then (apN l.1 l.2.1 l.2.2 e1.1.1 e1.1.2) else 0), e2.2.1, e2.2.2)) _ _ ?_ ?_
        rotate_left
        refine weak.mk [] [0, 1, 2] rfl rfl ?_ ?_
        repeat' first | exact trivial | exact rfl | exact Iff.rfl | assumption | exact pureI | exact (show _ = _ by omega) | exact (show _ ≤ _ by omega) | exact (show _ < _ by omega) | exact (show ¬ _ by omega) | refine And.intro ?_ ?_
        rotate_right
        refine ⟨⟨by omega, ?_, b2.2, by omega, by omega⟩, by show k - 1 < k; omega⟩
        dsimp only
        rw [List.length_nil]
        omega
      · rename_i e1 g1 e2 g2 g3
        have b1 := ap_bd (D := l.1) (P := l.2.1) (c := e1.1.1) (r := e1.1.2) hn
        refine hR ((k - 1, (l.1, (apP l.1 l.2.1 l.2.2 e1.1.1 e1.1.2), (apN l.1 l.2.1 l.2.2 e1.1.1 e1.1.2)), e2.2.1, e2.2.2)) _ _ ?_ ?_
        rotate_left
        refine weak.mk [] [0, 1, 2] rfl rfl ?_ ?_
        repeat' first | exact trivial | exact rfl | exact Iff.rfl | assumption | exact pureI | exact (show _ = _ by omega) | exact (show _ ≤ _ by omega) | exact (show _ < _ by omega) | exact (show ¬ _ by omega) | refine And.intro ?_ ?_
        rotate_right
        refine ⟨⟨by omega, ?_, b1.2, by omega, by omega⟩, by show k - 1 < k; omega⟩
        dsimp only
        omega
    · refine tN (by first | omega | assumption | exact fun h => h (by assumption) | exact fun h => h rfl | exact fun h => h Iff.rfl) ?_
      iterate 4 refine Z ?_
      rotate_left
      refine doneE.mk ((l, p, q)) ?_ ?_
      rotate_left
      focus
        refine doneV.mk [] [0] rfl rfl ?_ ?_ ?_
        repeat' first | exact trivial | exact rfl | exact Iff.rfl | assumption | exact pureI | exact (show _ = _ by omega) | exact (show _ ≤ _ by omega) | exact (show _ < _ by omega) | exact (show ¬ _ by omega) | refine And.intro ?_ ?_
      rotate_right
      refine ⟨⟨by dsimp only; omega, hn⟩, ?_, ?_⟩ <;> dsimp only <;> omega
theorem anyLog_c (L : List UInt8) (hL : L.length ≤ 1099511627776) (a s : Int) (h0 : 0 ≤ a) (h1 : a ≤ 1099511600000) : CE 59 [.prow 0 0 0] [cur L a s] (fun e : Lgt × Int × Int => (e.1.1.length ≤ 3000 ∧ e.1.2.1.length ≤ 3000) ∧ a ≤ e.2.1 ∧ e.2.1 ≤ a + 300) (fun e => lgv e.1.1 e.1.2.1 e.1.2.2) (fun e => [cur L e.2.1 e.2.2]) true := by
  refine mkE false false Tryd.func59 rfl ?_
  refine And.intro nofun ?_
  refine Z ?_
  refine callW.mkE [] [0] 2 _ _ _ _ (log12_c _ (by first | omega | assumption | (simp; omega) | (simp; done) | exact trivial) _ _ (by first | omega | assumption | (simp; omega) | (simp; done) | exact trivial) (by first | omega | assumption | (simp; omega) | (simp; done) | exact trivial)) rfl rfl (by repeat' first | exact trivial | assumption | exact knownSS | exact knownApp knownSS knownNil | refine And.intro ?_ ?_) (fun _ => ⟨rfl, rfl⟩) (fun _ _ => ?_)
  iterate 5 refine Z ?_
  refine callW.mkE [] [0] 3 _ _ _ _ (pick_c _ (by first | omega | assumption | (simp; omega) | (simp; done) | exact trivial) _ _ (by first | omega | assumption | (simp; omega) | (simp; done) | exact trivial) (by first | omega | assumption | (simp; omega) | (simp; done) | exact trivial) _) rfl rfl (by repeat' first | exact trivial | assumption | exact knownSS | exact knownApp knownSS knownNil | refine And.intro ?_ ?_) (fun _ => ⟨rfl, rfl⟩) (fun _ _ => ?_)
  refine twoP.mk (fun _ => ?_) (fun _ => ?_)
  refine Z ?_
  refine nw (by omega) (by omega) ?_
  iterate 9 refine Z ?_
  rotate_left
  refine twoP.mk (fun _ => ?_) (fun _ => ?_)
  refine Z ?_
  refine callW.mkE [] [0] 3 _ _ _ _ (spoilt_c _ (by first | omega | assumption | (simp; omega) | (simp; done) | exact trivial) _ _ (by first | omega | assumption | (simp; omega) | (simp; done) | exact trivial) (by first | omega | assumption | (simp; omega) | (simp; done) | exact trivial) _ _ (by first | omega | assumption | (simp; omega) | (simp; done) | exact trivial) (by first | omega | assumption | (simp; omega) | (simp; done) | exact trivial)) rfl rfl (by repeat' first | exact trivial | assumption | exact knownSS | exact knownApp knownSS knownNil | refine And.intro ?_ ?_) (fun _ => ⟨rfl, rfl⟩) (fun _ _ => ?_)
  iterate 9 refine Z ?_
  rotate_left
  refine twoP.mk (fun _ => ?_) (fun _ => ?_)
  iterate 2 refine Z ?_
  refine And.intro (by omega) ?_
  refine eqS.mk _ rfl ?_
  iterate 9 refine Z ?_
  rotate_left
  iterate 4 refine Z ?_
  rotate_left
  · rename_i e1 g1 e2 g2 g3
    refine doneE.mk (((e1.1.1, e1.1.2.1, e1.1.2.2 + 1), e2.2.1, e2.2.2)) ?_ ?_
    rotate_left
    focus
      refine doneV.mk [] [0] rfl rfl ?_ ?_ ?_
      repeat' first | exact trivial | exact rfl | exact Iff.rfl | assumption | exact pureI | exact (show _ = _ by omega) | exact (show _ ≤ _ by omega) | exact (show _ < _ by omega) | exact (show ¬ _ by omega) | refine And.intro ?_ ?_
    rotate_right
    refine ⟨⟨?_, ?_⟩, ?_, ?_⟩ <;> dsimp only <;> omega
  · rename_i e1 g1 e2 g2 g3 g4 e3 g5
    refine doneE.mk (((e1.1.1, e3.1, e1.1.2.2), e3.2.1, e3.2.2)) ?_ ?_
    rotate_left
    focus
      refine doneV.mk [] [0] rfl rfl ?_ ?_ ?_
      repeat' first | exact trivial | exact rfl | exact Iff.rfl | assumption | exact pureI | exact (show _ = _ by omega) | exact (show _ ≤ _ by omega) | exact (show _ < _ by omega) | exact (show ¬ _ by omega) | refine And.intro ?_ ?_
    rotate_right
    refine ⟨⟨?_, ?_⟩, ?_, ?_⟩ <;> dsimp only <;> omega
  · rename_i e1 g1 e2 g2 g3 g4 g5
    refine doneE.mk (((e1.1.1 ++ e1.1.2.1, e1.1.2.1, e1.1.2.2), e2.2.1, e2.2.2)) ?_ ?_
    rotate_left
    focus
      refine doneV.mk [] [0] rfl rfl ?_ ?_ ?_
      repeat' first | exact trivial | exact rfl | exact Iff.rfl | assumption | exact pureI | exact (show _ = _ by omega) | exact (show _ ≤ _ by omega) | exact (show _ < _ by omega) | exact (show ¬ _ by omega) | refine And.intro ?_ ?_
    rotate_right
    refine ⟨⟨?_, ?_⟩, ?_, ?_⟩ <;> dsimp only <;> (try rw [List.length_append]) <;> omega
  · rename_i e1 g1 e2 g2 g3 g4 g5
    refine doneE.mk ((e1.1, e2.2.1, e2.2.2)) ?_ ?_
    rotate_left
    focus
      refine doneV.mk [] [0] rfl rfl ?_ ?_ ?_
      repeat' first | exact trivial | exact rfl | exact Iff.rfl | assumption | exact pureI | exact (show _ = _ by omega) | exact (show _ ≤ _ by omega) | exact (show _ < _ by omega) | exact (show ¬ _ by omega) | refine And.intro ?_ ?_
    rotate_right
    refine ⟨⟨?_, ?_⟩, ?_, ?_⟩ <;> dsimp only <;> omega
theorem DrawIsValidRecord_c (L : List UInt8) (hL : L.length ≤ 1099511627776) : CE 35 [.sl 1 (L.map i8)] [] (fun e : List UInt8 × List UInt8 => e.1.length ≤ 8 ∧ e.2.length ≤ 8) (fun e => rec2 e.1 e.2) (fun _ => []) false := by
  refine mkE false false Tryd.func35 rfl ?_
  refine And.intro nofun ?_
  iterate 6 refine Z ?_
  refine callW.mkE [] [1] 2 _ _ _ _ (logRecord_c _ (by first | omega | assumption | (simp; omega) | (simp; done) | exact trivial) _ _ (by first | omega | assumption | (simp; omega) | (simp; done) | exact trivial) (by first | omega | assumption | (simp; omega) | (simp; done) | exact trivial)) rfl rfl (by repeat' first | exact trivial | assumption | exact knownSS | exact knownApp knownSS knownNil | refine And.intro ?_ ?_) (fun _ => ⟨rfl, rfl⟩) (fun _ _ => ?_)
  iterate 4 refine Z ?_
  rotate_left
  rename_i e h
  refine doneE.mk ((e.1)) ?_ ?_
  rotate_left
  focus
    refine doneV.mk [] [] rfl rfl ?_ ?_ ?_
    repeat' first | exact trivial | exact rfl | exact Iff.rfl | assumption | exact pureI | exact (show _ = _ by omega) | exact (show _ ≤ _ by omega) | exact (show _ < _ by omega) | exact (show ¬ _ by omega) | refine And.intro ?_ ?_
  rotate_right
  exact h.1
theorem DrawEncodeRecord_c (L : List UInt8) (hL : L.length ≤ 1099511627776) : CE 36 [.sl 1 (L.map i8)] [] (fun e : Int × List UInt8 × List UInt8 => e.2.1.length ≤ 8 ∧ e.2.2.length ≤ 8) (fun e => .tuple [i64 e.1, rec2 e.2.1 e.2.2]) (fun _ => []) false := by
  refine mkE false false Tryd.func36 rfl ?_
  refine And.intro nofun ?_
  iterate 16 refine Z ?_
  refine callW.mkE [] [1, 2] 3 _ _ _ _ (among_c _ (by first | omega | assumption | (simp; omega) | (simp; done) | exact trivial) _ _ (by first | omega | assumption | (simp; omega) | (simp; done) | exact trivial) (by first | omega | assumption | (simp; omega) | (simp; done) | exact trivial) _ (by first | omega | assumption | (simp; omega) | (simp; done) | exact trivial) (by first | omega | assumption | (simp; omega) | (simp; done) | exact trivial)) rfl rfl (by repeat' first | exact trivial | assumption | exact knownSS | exact knownApp knownSS knownNil | refine And.intro ?_ ?_) (fun _ => ⟨rfl, rfl⟩) (fun _ _ => ?_)
  refine callW.mkE [] [1] 3 _ _ _ _ (logRecord_c _ (by first | omega | assumption | (simp; omega) | (simp; done) | exact trivial) _ _ (by first | omega | assumption | (simp; omega) | (simp; done) | exact trivial) (by first | omega | assumption | (simp; omega) | (simp; done) | exact trivial)) rfl rfl (by repeat' first | exact trivial | assumption | exact knownSS | exact knownApp knownSS knownNil | refine And.intro ?_ ?_) (fun _ => ⟨rfl, rfl⟩) (fun _ _ => ?_)
  iterate 4 refine Z ?_
  rotate_left
  rename_i e1 h1 e2 h2
  refine doneE.mk ((e1.1, e2.1)) ?_ ?_
  rotate_left
  focus
    refine doneV.mk [] [] rfl rfl ?_ ?_ ?_
    repeat' first | exact trivial | exact rfl | exact Iff.rfl | assumption | exact pureI | exact (show _ = _ by omega) | exact (show _ ≤ _ by omega) | exact (show _ < _ by omega) | exact (show ¬ _ by omega) | refine And.intro ?_ ?_
  rotate_right
  exact h2.1
theorem DrawIsValidLog_c (L : List UInt8) (hL : L.length ≤ 1099511627776) : CE 38 [.sl 1 (L.map i8)] [] (fun e : Lgt => e.1.length ≤ 3000 ∧ e.2.1.length ≤ 3000) (fun e => lgv e.1 e.2.1 e.2.2) (fun _ => []) false := by
  refine mkE false false Tryd.func38 rfl ?_
  refine And.intro nofun ?_
  iterate 6 refine Z ?_
  refine callW.mkE [] [1] 2 _ _ _ _ (anyLog_c _ (by first | omega | assumption | (simp; omega) | (simp; done) | exact trivial) _ _ (by first | omega | assumption | (simp; omega) | (simp; done) | exact trivial) (by first | omega | assumption | (simp; omega) | (simp; done) | exact trivial)) rfl rfl (by repeat' first | exact trivial | assumption | exact knownSS | exact knownApp knownSS knownNil | refine And.intro ?_ ?_) (fun _ => ⟨rfl, rfl⟩) (fun _ _ => ?_)
  iterate 4 refine Z ?_
  rotate_left
  rename_i e h
  refine doneE.mk ((e.1)) ?_ ?_
  rotate_left
  focus
    refine doneV.mk [] [] rfl rfl ?_ ?_ ?_
    repeat' first | exact trivial | exact rfl | exact Iff.rfl | assumption | exact pureI | exact (show _ = _ by omega) | exact (show _ ≤ _ by omega) | exact (show _ < _ by omega) | exact (show ¬ _ by omega) | refine And.intro ?_ ?_
  rotate_right
  exact h.1
theorem DrawAppendRecord_c (L : List UInt8) (hL : L.length ≤ 1099511627776) : CE 39 [.sl 1 (L.map i8)] [] (fun e : Lgt × List UInt8 × List UInt8 => (e.1.1.length ≤ 30000 ∧ e.1.2.1.length ≤ 30000) ∧ e.2.1.length ≤ 8 ∧ e.2.2.length ≤ 8) (fun e => .tuple [lgv e.1.1 e.1.2.1 e.1.2.2, rec2 e.2.1 e.2.2]) (fun _ => []) false := by
  refine mkE false false Tryd.func39 rfl ?_
  refine And.intro nofun ?_
  iterate 7 refine Z ?_
  refine callW.mkE [] [2] 3 _ _ _ _ (anyLog_c _ (by first | omega | assumption | (simp; omega) | (simp; done) | exact trivial) _ _ (by first | omega | assumption | (simp; omega) | (simp; done) | exact trivial) (by first | omega | assumption | (simp; omega) | (simp; done) | exact trivial)) rfl rfl (by repeat' first | exact trivial | assumption | exact knownSS | exact knownApp knownSS knownNil | refine And.intro ?_ ?_) (fun _ => ⟨rfl, rfl⟩) (fun _ _ => ?_)
  iterate 5 refine Z ?_
  refine callW.mkE [] [2] 4 _ _ _ _ (one_c _ (by first | omega | assumption | (simp; omega) | (simp; done) | exact trivial) _ _ (by first | omega | assumption | (simp; omega) | (simp; done) | exact trivial) (by first | omega | assumption | (simp; omega) | (simp; done) | exact trivial) _) rfl rfl (by repeat' first | exact trivial | assumption | exact knownSS | exact knownApp knownSS knownNil | refine And.intro ?_ ?_) (fun _ => ⟨rfl, rfl⟩) (fun _ _ => ?_)
  refine twoP.mk (fun _ => ?_) (fun _ => ?_)
  iterate 5 refine Z ?_
  refine callW.mkE [] [2] 4 _ _ _ _ (pick_c _ (by first | omega | assumption | (simp; omega) | (simp; done) | exact trivial) _ _ (by first | omega | assumption | (simp; omega) | (simp; done) | exact trivial) (by first | omega | assumption | (simp; omega) | (simp; done) | exact trivial) _) rfl rfl (by repeat' first | exact trivial | assumption | exact knownSS | exact knownApp knownSS knownNil | refine And.intro ?_ ?_) (fun _ => ⟨rfl, rfl⟩) (fun _ _ => ?_)
  refine nw (by omega) (by omega) ?_
  rotate_left
  refine drawP.mkS (Z (Z ?_))
  refine Z ?_
  apply exP.mk
  exact rfl
  apply exP.mk
  exact rfl
  refine callW.mkE [] [2] 4 _ _ _ _ (logRecord_c _ (by first | omega | assumption | (simp; omega) | (simp; done) | exact trivial) _ _ (by first | omega | assumption | (simp; omega) | (simp; done) | exact trivial) (by first | omega | assumption | (simp; omega) | (simp; done) | exact trivial)) rfl rfl (by repeat' first | exact trivial | assumption | exact knownSS | exact knownApp knownSS knownNil | refine And.intro ?_ ?_) (fun _ => ⟨rfl, rfl⟩) (fun _ _ => ?_)
  iterate 12 refine Z ?_
  rotate_left
  · rename_i e1 g1 e2 g2 g3 e3 g4
    refine loop_up (β := Nat × Lgt) (fun (k, l) => [(6, i64 k)]) (fun (k, l) => [(3, .row .var 3 [lgv l.1 l.2.1 l.2.2])]) [] (fun (k, l) => (k : Int) ≤ 60 ∧ l.1.length + l.2.1.length + 440 * k ≤ 26400 ∧ (0 ≤ l.2.2 ∧ l.2.2 ≤ 60)) (fun (k, l) => k) (((59 + e3.1).toNat, ([], [], 0))) ?_ ?_ ?_
    · refine ⟨by omega, ?_, ⟨Int.le_refl _, by decide⟩⟩
      show 0 + 0 + 440 * (59 + e3.1).toNat ≤ 26400
      omega
    · refine weak.mk [] [0, 1, 2, 3] rfl rfl ?_ ?_
      repeat' first | exact trivial | exact rfl | exact Iff.rfl | assumption | exact pureI | exact (show _ = _ by omega) | exact (show _ ≤ _ by omega) | exact (show _ < _ by omega) | exact (show ¬ _ by omega) | refine And.intro ?_ ?_
    · rintro ⟨k, l⟩ ⟨hk, hl, hn⟩ R hR
      by_cases hk0 : 0 < k
      · refine tY (by first | omega | assumption | exact rfl | exact Iff.rfl) ?_
        iterate 4 refine Z ?_
        refine callW.mk [] 4 _ _ _ (sAppendRecord_c _ _ _ _ _ (by first | omega | assumption | (simp; omega) | (simp; done) | exact trivial) (by first | omega | assumption | (simp; omega) | (simp; done) | exact trivial) (by first | omega | assumption | (simp; omega) | (simp; done) | exact trivial) (by first | omega | assumption | (simp; omega) | (simp; done) | exact trivial)) rfl rfl trivial nofun ?_
        iterate 4 refine Z ?_
        refine nw (by omega) (by omega) ?_
        rotate_left
        have b1 := ap_bd (D := l.1) (P := l.2.1) (c := [120]) (r := []) hn
        refine hR ((k - 1, (l.1, apP l.1 l.2.1 l.2.2 [120] [], apN l.1 l.2.1 l.2.2 [120] []))) _ _ ?_ ?_
        rotate_left
        refine weak.mk [] [0, 1, 2, 3] rfl rfl ?_ ?_
        repeat' first | exact trivial | exact rfl | exact Iff.rfl | assumption | exact pureI | exact (show _ = _ by omega) | exact (show _ ≤ _ by omega) | exact (show _ < _ by omega) | exact (show ¬ _ by omega) | refine And.intro ?_ ?_
        rotate_right
        refine ⟨⟨by omega, ?_, b1.2⟩, by show k - 1 < k; omega⟩
        dsimp only
        omega
      · refine tN (by first | omega | assumption | exact fun h => h (by assumption) | exact fun h => h rfl | exact fun h => h Iff.rfl) ?_
        refine drawP.mkS (Z (Z ?_))
        refine Z ?_
        apply exP.mk
        exact rfl
        apply exP.mk
        exact rfl
        refine callW.mkE [] [2] 4 _ _ _ _ (logRecord_c _ (by first | omega | assumption | (simp; omega) | (simp; done) | exact trivial) _ _ (by first | omega | assumption | (simp; omega) | (simp; done) | exact trivial) (by first | omega | assumption | (simp; omega) | (simp; done) | exact trivial)) rfl rfl (by repeat' first | exact trivial | assumption | exact knownSS | exact knownApp knownSS knownNil | refine And.intro ?_ ?_) (fun _ => ⟨rfl, rfl⟩) (fun _ _ => ?_)
        iterate 12 refine Z ?_
        rotate_left
        rename_i e4 g5
        refine doneE.mk ((l, e4.1)) ?_ ?_
        rotate_left
        focus
          refine doneV.mk [] [] rfl rfl ?_ ?_ ?_
          repeat' first | exact trivial | exact rfl | exact Iff.rfl | assumption | exact pureI | exact (show _ = _ by omega) | exact (show _ ≤ _ by omega) | exact (show _ < _ by omega) | exact (show ¬ _ by omega) | refine And.intro ?_ ?_
        rotate_right
        refine ⟨⟨?_, ?_⟩, g5.1⟩ <;> dsimp only <;> omega
  · rename_i e1 g1 e2 g2 g3 e3 g4
    refine doneE.mk ((e1.1, e3.1)) ?_ ?_
    rotate_left
    focus
      refine doneV.mk [] [] rfl rfl ?_ ?_ ?_
      repeat' first | exact trivial | exact rfl | exact Iff.rfl | assumption | exact pureI | exact (show _ = _ by omega) | exact (show _ ≤ _ by omega) | exact (show _ < _ by omega) | exact (show ¬ _ by omega) | refine And.intro ?_ ?_
    rotate_right
    refine ⟨⟨?_, ?_⟩, g4.1⟩ <;> dsimp only <;> omega
theorem DrawCrashLog_c (L : List UInt8) (hL : L.length ≤ 1099511627776) : CE 43 [.sl 1 (L.map i8)] [] (fun e : Lgt × Int × Bool => (e.1.1.length ≤ 3000 ∧ e.1.2.1.length ≤ 3000) ∧ -1 ≤ e.2.1 ∧ e.2.1 ≤ 1000000) (fun e => .tuple [lgv e.1.1 e.1.2.1 e.1.2.2, i64 e.2.1, bv e.2.2]) (fun _ => []) false := by
  refine mkE false false Tryd.func43 rfl ?_
  refine And.intro nofun ?_
  iterate 6 refine Z ?_
  refine callW.mkE [] [1] 2 _ _ _ _ (anyLog_c _ (by first | omega | assumption | (simp; omega) | (simp; done) | exact trivial) _ _ (by first | omega | assumption | (simp; omega) | (simp; done) | exact trivial) (by first | omega | assumption | (simp; omega) | (simp; done) | exact trivial)) rfl rfl (by repeat' first | exact trivial | assumption | exact knownSS | exact knownApp knownSS knownNil | refine And.intro ?_ ?_) (fun _ => ⟨rfl, rfl⟩) (fun _ _ => ?_)
  iterate 6 refine Z ?_
  refine lenS.mk _ rfl ?_
  refine nw (by omega) (by omega) ?_
  refine callW.mkE [] [1] 3 _ _ _ _ (pick_c _ (by first | omega | assumption | (simp; omega) | (simp; done) | exact trivial) _ _ (by first | omega | assumption | (simp; omega) | (simp; done) | exact trivial) (by first | omega | assumption | (simp; omega) | (simp; done) | exact trivial) _) rfl rfl (by repeat' first | exact trivial | assumption | exact knownSS | exact knownApp knownSS knownNil | refine And.intro ?_ ?_) (fun _ => ⟨rfl, rfl⟩) (fun _ _ => ?_)
  refine nw (by omega) (by omega) ?_
  refine drawP.mkS (Z (Z ?_))
  refine Z ?_
  apply exP.mk
  exact rfl
  apply exP.mk
  exact rfl
  apply exP.mk
  exact rfl
  refine callW.mkE [] [1] 3 _ _ _ _ (one_c _ (by first | omega | assumption | (simp; omega) | (simp; done) | exact trivial) _ _ (by first | omega | assumption | (simp; omega) | (simp; done) | exact trivial) (by first | omega | assumption | (simp; omega) | (simp; done) | exact trivial) _) rfl rfl (by repeat' first | exact trivial | assumption | exact knownSS | exact knownApp knownSS knownNil | refine And.intro ?_ ?_) (fun _ => ⟨rfl, rfl⟩) (fun _ _ => ?_)
  iterate 9 refine Z ?_
  apply exP.mk
  exact rfl
  apply exP.mk
  exact rfl
  rotate_left
  rename_i e1 h1 e2 h2 e3 h3
  refine doneE.mk ((e1.1, e2.1 - 1, e3.1)) ?_ ?_
  rotate_left
  focus
    refine doneV.mk [] [] rfl rfl ?_ ?_ ?_
    repeat' first | exact trivial | exact rfl | exact Iff.rfl | assumption | exact pureI | exact (show _ = _ by omega) | exact (show _ ≤ _ by omega) | exact (show _ < _ by omega) | exact (show ¬ _ by omega) | refine And.intro ?_ ?_
  rotate_right
  refine ⟨h1.1, ?_, ?_⟩ <;> dsimp only <;> omega
end Sx
