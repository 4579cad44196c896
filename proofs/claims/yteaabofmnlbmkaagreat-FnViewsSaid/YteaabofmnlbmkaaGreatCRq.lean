/- Contracts: a list of lists collected from its values. -/
import Derived.Test.YteaabofmnlbmkaaGreatSxC
import Derived.Test.YteaabofmnlbmkaaGreatCRl
import Derived.RangeFuncBox
import Derived.RangeFuncFrom
import Derived.RangeFuncLeaves
import Derived.OwnWalkIn
import Derived.TacticsInMore
import Derived.LoopNIn
import Derived.LoopIn
import Derived.WalkKit
import Derived.Maps.AppendAt
import Derived.Shelf.Abstract
set_option linter.all false
namespace Sx
open Go Go.Proofs Go.RowKit Go.Shelf
attribute [local go_sem] Oper.semAt_some
/-- What a slice value is. -/
abbrev Hd := Option Addr × Nat × Nat
abbrev enS (x : Hd) : Value := .slice x.1 x.2.1 x.2.2
/-- What has come when k rounds are over. -/
def uptoV (f : Nat → Hd) (k : Nat) : List Hd := (List.range k).map f
theorem uptoV_succ (f : Nat → Hd) (k : Nat) : uptoV f (k + 1) = uptoV f k ++ [f k] := by simp [uptoV, List.range_succ]
theorem uptoV_len (f : Nat → Hd) (k : Nat) : (uptoV f k).length = k := by simp [uptoV]
set_option maxRecDepth 100000 in
set_option maxHeartbeats 2000000 in
/-- The closure of Values: for every body that keeps what lay below n0. -/
theorem values1_in (F : Fence) (n : Nat) (h7 : F.fn 112) (hro : F.round = none) (hn : 1 ≤ n) (l : Nat) (As : Addr) (n₀ b off len cap : Nat) (vals : Nat → Hd) (hreach : len ≤ 100) (hb : b < n₀) (J Jx : List Hd → World → Prop)
    (hY : ∀ pre x W, J pre W → pre.length < len → YieldAt F (n - 1) Tryz.prog l #[enS x] W fun e W' => (e = .returned (.bool true) ∧ J (pre ++ [x]) W' ∧ Below n₀ W W') ∨ (e = .returned (.bool false) ∧ Jx (pre ++ [x]) W'))
    (W : World) (hBs : W.cell? As = some (.slice (some ⟨b, off, none⟩) len cap)) (hc : ∀ j, j < len → W.cell? ⟨b, off + j, none⟩ = some (enS (vals j))) (h0 : J [] W) :
    CallsIn F n Tryz.prog 112 #[.func (.yield l) #[] #[], .pointer (some As)] W fun e W' => (∃ v, e = .returned v) ∧ ((∃ xs, xs = uptoV vals len ∧ J xs W') ∨ (∃ pre, True ∧ Jx pre W')) := by
  refine callsIn_of_wp Tryz.func112 rfl h7 ?_ hro
  simp only [Tryz.ntmps112, List.size_toArray, List.length_cons, List.length_nil, Nat.reduceAdd, Nat.reduceSub, Array.replicate_succ, Array.replicate_zero, List.push_toArray, List.append_toArray, List.nil_append, List.cons_append]
  gi_wp2
  gi_loopw [7] (fun i wr => ∃ k : Nat, k ≤ len ∧ i = .int .i64 k ∧ J (uptoV vals k) wr ∧ Below n₀ W wr)
    (fun i _ => len - (intOf i).toNat)
  case atStart => exact ⟨0, Nat.zero_le _, rfl, h0, Below.refl _ _⟩
  case round =>
    obtain ⟨k, hk, rfl, hJs, hnx⟩ := hrel
    have hcx : k < len → wr.cell? ⟨b, off + k, none⟩ = some (enS (vals k)) := fun h => (hnx.cell (p := ⟨b, off + k, none⟩) hb).trans (hc k h)
    by_cases hlt : k < len
    · obtain ⟨fn, tmps, assign, body, hy, hR⟩ := hY _ (vals k) wr hJs (by rw [uptoV_len]; exact hlt)
      have hcx' := hcx hlt
      gi_wp2
      refine hR.mono ?_
      rintro e W3 (⟨rfl, hJ3, hk3⟩ | ⟨rfl, hJx3⟩)
      · gi_wp2
        go_roundw
        case rel => exact ⟨k + 1, by omega, by simp, by rw [uptoV_succ]; exact hJ3, hnx.trans hk3⟩
        case measure => simp [intOf]; omega
      · gi_wp2
        refine bodyPost_ret (results_none rfl _ _ _) rfl ?_
        exact ⟨⟨_, rfl⟩, .inr ⟨_, trivial, hJx3⟩⟩
    · obtain rfl : k = len := by omega
      gi_wp2
      go_end0
      exact ⟨⟨_, rfl⟩, .inl ⟨_, rfl, hJs⟩⟩
theorem values_stops (F : Fence) (n : Nat) (h7 : F.fn 112) (hro : F.round = none) (hn : 1 ≤ n) (As : Addr) (n₀ b off len cap : Nat) (vals : Nat → Hd) (hreach : len ≤ 100) (hb : b < n₀) (w : World) (hn₀ : n₀ ≤ w.heap.size) (hAs : As.block < w.heap.size)
    (hBs : w.cell? As = some (.slice (some ⟨b, off, none⟩) len cap)) (hc : ∀ j, j < len → w.cell? ⟨b, off + j, none⟩ = some (enS (vals j))) :
    SeqStopsK F n Tryz.prog 112 #[.pointer (some As)] (fun x : Hd => #[enS x]) (Below n₀) (fun xs => xs = uptoV vals len) (fun _ => True) len w := fun l J Jx W hW _ _ hY h0 =>
  values1_in F n h7 hro hn l As n₀ b off len cap vals hreach hb J Jx hY W ((hW.cell hAs).trans hBs) (fun j hj => (hW.cell (p := ⟨b, off + j, none⟩) (Nat.lt_of_lt_of_le hb hn₀)).trans (hc j hj)) h0
theorem infoL : (Tryz.prog.info? 24).map (fun i => (i.zero, i.size, i.bytes)) = some (some (.slice none 0 0), 1, 24) := by kernel_rfl
set_option maxRecDepth 100000 in
set_option maxHeartbeats 2000000 in
/-- AppendSeq of nothing and the values of a list. -/
theorem appendSeq_in (F : Fence) (n : Nat) (h3 : F.fn 119) (h7 : F.fn 112) (hro : F.round = none) (hn : 3 ≤ n) (As : Addr) (b off len cap : Nat) (vals : Nat → Hd) (hreach : len ≤ 100) (w : World) (hb : b < w.heap.size) (hAs : As.block < w.heap.size)
    (hBs : w.cell? As = some (.slice (some ⟨b, off, none⟩) len cap)) (hc : ∀ j, j < len → w.cell? ⟨b, off + j, none⟩ = some (enS (vals j))) :
    CallsIn F n Tryz.prog 119 #[.slice none 0 0, .func (.func 112) #[] #[.pointer (some As)]] w fun e W' => ∃ v, e = .returned v ∧ W'.ownsRow w.heap.size 24 1 v len ((uptoV vals len).map enS) ∧ Below w.heap.size w W' := by
  have h1 : 1 ≤ n := by omega
  obtain ⟨i0, hi, hz0, hz1, hz2⟩ := info_parts infoL
  refine callsIn_of_wp_marks Tryz.func119 rfl h3 ?_ hro
  simp only [Tryz.ntmps119, List.size_toArray, List.length_cons, List.length_nil, Nat.reduceAdd, Nat.reduceSub, Array.replicate_succ, Array.replicate_zero, List.push_toArray, List.append_toArray, List.nil_append, List.cons_append]
  gi_wp2
  have bO := Boxed.new w 43 (.slice none 0 0)
  have hB0 : Below w.heap.size w (w.alloc (.cells #[.slice none 0 0] 43)) := (Below.refl _ w).alloc (Nat.le_refl _) _
  refine wpIn_rangeFunc_ownG hro h1 (gf := 112) (lb := #[.pointer (some As)]) rfl h7 (enters_of Tryz.func112 (by kernel_rfl) rfl)
    (values_stops F (n - 1) h7 hro (by omega) As w.heap.size b off len cap vals hreach hb (w.alloc (.cells #[.slice none 0 0] 43)) (by simp) (by simp; omega) ((hB0.cell hAs).trans hBs) (fun j hj => (hB0.cell (p := ⟨b, off + j, none⟩) hb).trans (hc j hj))) belowK_t (belowK_b (by simp)) (Below.refl _ _) (fun _ => rfl)
    (fun pre W => (∃ v, Boxed W w.heap.size 43 v ∧ W.ownsRow w.heap.size 24 1 v pre.length (pre.map enS) ∧ True) ∧ Below w.heap.size w W)
    (fun _ _ _ => False)
    (OwnFrom.and (Own.from (holdsRow_own w.heap.size w.heap.size 43 24 1 (fun pre : List Hd => pre.length) (fun pre => pre.map enS) (fun _ _ => True)) _) (ownFrom_below (Nat.le_refl _) (by simp)))
    (fun _ _ _ _ _ hs _ _ => hs)
    ⟨⟨_, bO, World.ownsRow_nil _ _ _ _, trivial⟩, hB0⟩
    (fun x => { tmps := #[.slice none 0 0, .func (.func 112) #[] #[.pointer (some As)], .pointer (some ⟨w.heap.size, 0, none⟩), undef, .slice none 0 0, enS x, .func (.func 112) #[] #[.pointer (some As)], enS x, undef, undef, undef, undef, undef], defers := [] }) ?assign ?body ?done ?stop
  case assign =>
    intro l x W K hK
    gi_wp2
    exact hK
  case body =>
    rintro l pre x W ⟨⟨v, hv, hrow, _⟩, hB⟩ hlt
    have hc := hv.cell
    gi_wp2_with (gi_at_builtin; refine wpListIn_append_own _ rfl _ _ 43 rfl w.heap.size 24 i0 (.slice none 0 0) 1 24 Tryz.underlying43 hi hz0 hz1 hz2 rfl (by decide) _ _ _ rfl (hrow.alloc _) ⟨W.heap.size, 0, none⟩ 1 1 [enS x] rfl rfl (cell_one_new _ _ _) (by simp [Value.oneCell']) (by unfold maxLen; omega) (by omega) (by have := hB.size; simp; omega) ?_; intro v' w1 hown' hgrow _; obtain ⟨g', cap', rfl⟩ := ownsRow_succ hown'; obtain ⟨hv1, hv2, hr2, hk2, hb2⟩ := hv.appended (by decide) hrow hB.size (Nat.le_refl _) hown' hgrow; have hc1 := hv1.cell; have hf1 := hv1.frozen)
    exact ⟨hk2.from _, hb2, ⟨_, hv2, by simpa using hr2, trivial⟩, hB.trans hb2⟩
  case done =>
    rintro D ys W hD rfl ⟨⟨v, hv, hrow, _⟩, hB⟩ hK
    have hc := hv.cell
    gi_wp2
    refine ⟨by simp, .inl ⟨_, _, rfl, run_takeDeferred hK, ?_⟩⟩
    rw [uptoV_len] at hrow
    exact ⟨_, results_tmp rfl _ _ _, v, rfl, ownsRow_putObj hrow _ hK rfl, hB.trans (belowK_b (w := w) (Nat.le_refl _) W D _ _ (by simp at hD; omega) hK rfl rfl)⟩
  case stop =>
    rintro D c pre W _ _ h _
    exact h.elim
set_option maxRecDepth 100000 in
set_option maxHeartbeats 2000000 in
/-- Collect. -/
theorem collect_in (F : Fence) (n : Nat) (h8 : F.fn 110) (h3 : F.fn 119) (h7 : F.fn 112) (hro : F.round = none) (hn : 4 ≤ n) (As : Addr) (b off len cap : Nat) (vals : Nat → Hd) (hreach : len ≤ 100) (w : World) (hb : b < w.heap.size) (hAs : As.block < w.heap.size)
    (hBs : w.cell? As = some (.slice (some ⟨b, off, none⟩) len cap)) (hc : ∀ j, j < len → w.cell? ⟨b, off + j, none⟩ = some (enS (vals j))) :
    CallsIn F n Tryz.prog 110 #[.func (.func 112) #[] #[.pointer (some As)]] w fun e W' => ∃ v, e = .returned v ∧ W'.ownsRow w.heap.size 24 1 v len ((uptoV vals len).map enS) ∧ Below w.heap.size w W' := by
  have h1 : 1 ≤ n := by omega
  refine callsIn_of_wp Tryz.func110 rfl h8 ?_ hro
  simp only [Tryz.ntmps110, List.size_toArray, List.length_cons, List.length_nil, Nat.reduceAdd, Nat.reduceSub, Array.replicate_succ, Array.replicate_zero, List.push_toArray, List.append_toArray, List.nil_append, List.cons_append]
  gi_wp2_with (gi_at_call 119; refine (appendSeq_in F (n - 1) h3 h7 hro (by omega) As b off len cap vals hreach _ hb hAs hBs hc).mono ?_; rintro e w' ⟨v, rfl, hrow, hbl⟩)
  go_ret
  exact ⟨v, rfl, hrow, hbl⟩
theorem hd_of {Z : Nat → Prop} {w : World} {l : List Int} {c : Value} (h : Rep Z w (ints l) c) : ∃ hd : Hd, c = enS hd := by
  obtain ⟨es, hes⟩ : ∃ es, l.map i64 = es := ⟨_, rfl⟩
  unfold ints at h
  rw [hes] at h
  cases h with
  | sl0 _ a cap => exact ⟨(a, 0, cap), rfl⟩
  | sl _ _ b o cap val => exact ⟨(some ⟨b, o, none⟩, es.length, cap), rfl⟩
theorem ints_cell {L : List (List Int)} {j t : Nat} {e v : AV} (h1 : (L.map ints)[j]? = some e) (h2 : (cellsOf e)[t]? = some v) : ∃ l, L[j]? = some l ∧ v = ints l ∧ t = 0 := by
  rw [List.getElem?_map] at h1
  cases hl : L[j]? with
  | none => rw [hl] at h1; cases h1
  | some l =>
    rw [hl] at h1
    cases h1
    have h2 : [ints l][t]? = some v := h2
    cases t with
    | zero => cases h2; exact ⟨l, rfl, rfl, rfl⟩
    | succ t => cases h2
variable [Glb]
set_option maxHeartbeats 2000000 in
theorem Collect_c (L : List (List Int)) (h1 : 1 ≤ L.length) (h2 : L.length ≤ 100) : C 110 [.fn (.func 112) [] [.pim 1 [.sl 1 (L.map ints)] 0 0]] [] (.loc 0) [rowI L] true := ⟨fun w O Lo Z vs hg hO _ hv => by
  have hno : ∀ b, O b = none := fun b => by
    cases h : O b with
    | none => rfl
    | some x => obtain ⟨i, y⟩ := x; have := (hO b i y h).2; simp at this
  obtain ⟨c, rfl, hc⟩ := vs1 hv
  obtain ⟨va, vb, rfl, l1, l2, _, hcap⟩ := hc.fn_inv
  have eva : va = [] := List.eq_nil_of_length_eq_zero l1.symm
  subst eva
  obtain ⟨p, rfl⟩ : ∃ p, vb = [p] := List.length_eq_one_iff.1 l2.symm
  have hp := (hcap 0 _ p rfl rfl).rep_inv trivial
  cases hp with
  | pim _ _ _ _ b o val he hk hz hcell hrep =>
    have hz0 := hz 0 0 _ _ rfl rfl
    have hc0 := hcell 0 0 _ _ rfl rfl
    have hr0 := hrep 0 0 _ _ rfl rfl
    generalize val (0 * 1 + 0) = sv at hc0 hr0
    obtain ⟨es, hes⟩ : ∃ es, L.map ints = es := ⟨_, rfl⟩
    have hel : es.length = L.length := by rw [← hes, List.length_map]
    rw [hes] at hr0
    cases hr0 with
    | sl0 _ a cap => simp at hel; omega
    | sl _ _ b2 o2 cap val2 hl2 he2 hk2 hz2 hc2 hr2 =>
      have hget : ∀ j (hj : j < L.length), es[j]? = some (ints L[j]) := fun j hj => by rw [← hes, List.getElem?_map, List.getElem?_eq_getElem hj]; rfl
      have hv0 : ∀ j, ∃ hd : Hd, j < L.length → val2 (j * 1 + 0) = enS hd := fun j => by
        by_cases hj : j < L.length
        · obtain ⟨hd, h⟩ := hd_of (hr2 j 0 _ (ints L[j]) (hget j hj) rfl)
          exact ⟨hd, fun _ => h⟩
        · exact ⟨(none, 0, 0), fun h => absurd h hj⟩
      obtain ⟨vals, hvals⟩ := Classical.axiomOfChoice hv0
      have hcs : ∀ j, j < L.length → w.cell? ⟨b2, o2 + j, none⟩ = some (enS (vals j)) := fun j hj => by
        have := hc2 j 0 _ (ints L[j]) (hget j hj) rfl
        rw [hvals j hj] at this
        simpa using this
      have hb2 : b2 < w.heap.size := cell_lt (hcs 0 (by omega))
      have hAs : b < w.heap.size := cell_lt hc0
      rw [hel] at hc0
      refine .inl ⟨enters_of Tryz.func110 (by kernel_rfl) rfl _ _, ?_⟩; refine calls_mono ((callsIn_wide (n := 4)).1 (collect_in Fence.wide 4 trivial trivial trivial rfl (by omega) ⟨b, o + 0 * 1 + 0, none⟩ b2 o2 L.length cap vals h2 w hb2 hAs hc0 hcs)) fun e w' ⟨v, e1, hrow, hbl⟩ => ?_
      subst e1
      obtain ⟨_, hn | ⟨g, cap', cur, rfl, hgb, hh, hle, hmx, hsz, htk⟩⟩ := hrow
      · omega
      have hgl : g < w'.heap.size := (Array.getElem?_eq_some_iff.1 hh).1
      have hnb : ∀ b', b' < w.heap.size → (if b' = g then some ((0 : Nat), (none : Option Nat)) else none) = none := fun b' hb' => if_neg (by omega)
      refine ⟨.loc 0, [rowI L], ⟨fun b' => if b' = g then some (0, none) else none, fun _ => g⟩, ⟨rfl, rfl⟩, ?_⟩
      have hun : unfr cur (0, 0) := fun j _ => by simp
      have hent : ent [rowI L] 0 = .row .plain 1 (L.map ints) := rfl
      refine ⟨?_, fun i => ?_, fun b' x hx => ?_, hbl.os, hbl.tape, hbl.output, hbl.size, fun b' hb' _ => ⟨hnb b' hb', hbl.block b' hb'⟩, fun i hi => by simp at hi⟩
      · refine .loc 0 _ (by simp) fun k sz es' he' => ?_
        rw [hent] at he'
        cases he'
        refine ⟨_, cap', by rw [List.length_map], by rw [List.length_map]; exact hle, .inr ⟨by simp, if_pos rfl, cur, _, _, hh, hun, by omega⟩⟩
      · cases i with
        | succ i => rw [ent_out (by simp)]; trivial
        | zero =>
          rw [hent]
          refine ⟨fun e he' => ?_, nofun, fun _ e he' => ?_, nofun, fun _ => ⟨if_pos rfl, cur, _, _, hh, hun, by rw [List.length_map]; omega, fun j t e v' e1 e2 => ?_⟩⟩
          · obtain ⟨l, _, rfl⟩ := List.mem_map.1 he'; rfl
          · obtain ⟨l, _, rfl⟩ := List.mem_map.1 he'
            intro x hx
            have hx : x ∈ [ints l] := hx
            rw [List.mem_singleton.1 hx]; rfl
          · obtain ⟨l, hl, rfl, rfl⟩ := ints_cell e1 e2
            obtain ⟨hj, rfl⟩ := List.getElem?_eq_some_iff.1 hl
            have hcv : cur[j]? = some (enS (vals j)) := by
              have h3 : (cur.toList.take (L.length * 1))[j]? = some (enS (vals j)) := by
                rw [htk, List.getElem?_map, uptoV, List.getElem?_map, List.getElem?_range hj]; rfl
              rw [List.getElem?_take_of_lt (by omega)] at h3
              simpa using h3
            refine ⟨enS (vals j), by simpa using hcv, ?_⟩
            have hrj := hr2 j 0 _ (ints L[j]) (hget j hj) rfl
            rw [hvals j hj] at hrj
            exact hrj.mono fun b' hb' hlt => ⟨⟨hnb b' hlt, fun _ => hb'.2 hlt⟩, hbl.block b' hlt⟩
      · have hx : (if b' = g then some ((0 : Nat), (none : Option Nat)) else none) = some x := hx
        by_cases e : b' = g
        · rw [e]; exact hgl
        · rw [if_neg e] at hx; cases hx⟩
end Sx
