/- A symbolic executor for function bodies, proved sound: part 3 of 3. No condition. -/
import Derived.Test.YtbgamclegbaalaaSxB
import Derived.Carry
import Derived.ChangeOld
import Derived.SizedLaws
import Derived.OpenShut
import Derived.ChangeAt
import Derived.ChangeArms
set_option linter.all false
/- A body makes a contract. -/
set_option linter.unusedVariables false
namespace Sx
open Go Go.RowKit
section
variable {E E' : Env} {Z Z' : Nat → Prop} {tab tab' : List Ent} {P : Program} {w : World} {Γ : Ctx} {ts : List AV} {a : Act} {o : Oper}
theorem Rep.pure1 {v : AV} {c : Value} (h : Sx.pure1 v = true) (r : Rep Z w v c) : Rep Z' w v c := by
  cases r with
  | unk => exact .unk _
  | tt => exact .tt
  | ff => exact .ff
  | prop => exact .prop _ _
  | int => exact .int _ _
  | str s b hb => exact .str s b hb
  | nilsl => exact .nilsl
  | emp => exact .emp _
  | nilptr => exact .nilptr
  | nilfn => exact .nilfn
  | nilif => exact .nilif
  | _ => cases h
theorem V.pure1 {v : AV} {c : Value} (h : Sx.pure1 v = true) (hv : V E Z tab w v c) : V E Z' tab w v c := by
  cases hv with
  | imm r => exact .imm (r.pure1 h)
  | loc i c h1 h2 => exact .loc i c h1 h2
  | part i off len c h1 h2 => exact .part i off len c h1 h2
  | prow i j t c h1 h2 => exact .prow i j t c h1 h2
  | sub i j c h1 h2 => exact .sub i j c h1 h2
  | psub i j k t c h1 h2 => exact .psub i j k t c h1 h2
  | _ => cases h
theorem all_get {cs : List AV} {f : AV → Bool} (h : cs.all f = true) {i : Nat} {x : AV} (hx : cs[i]? = some x) : f x = true := List.all_eq_true.1 h x (mem_of_get hx)
theorem V.pure2 {v : AV} {c : Value} (h : Sx.pure2 v = true) (hv : V E Z tab w v c) : V E Z' tab w v c := by
  unfold Sx.pure2 at h
  split at h
  · obtain ⟨vs, rfl, hl, hc⟩ := hv.agg_inv
    exact .agg _ _ hl fun i x y h1 h2 => (hc i x y h1 h2).pure1 (all_get h h1)
  · rw [Bool.and_eq_true] at h
    obtain ⟨va, vb, rfl, l1, l2, c1, c2⟩ := hv.fn_inv
    exact .fn _ _ _ _ _ l1 l2 (fun i x y h1 h2 => (c1 i x y h1 h2).pure1 (all_get h.1 h1)) (fun i x y h1 h2 => (c2 i x y h1 h2).pure1 (all_get h.2 h1))
  · exact hv.pure1 h
theorem V.pure3 {v : AV} {c : Value} (h : Sx.pure3 v = true) (hv : V E Z tab w v c) : V E Z' tab w v c := by
  unfold Sx.pure3 at h
  split at h
  · obtain ⟨vs, rfl, hl, hc⟩ := hv.tuple_inv
    exact .tuple _ _ hl fun i x y h1 h2 => (hc i x y h1 h2).pure2 (all_get h h1)
  · obtain ⟨c', rfl, hc⟩ := hv.ifc_inv
    exact .ifc _ _ _ (hc.pure2 h)
  · exact hv.pure2 h
theorem pure2_cells {e v : AV} (h : Sx.pure2 e = true) (hv : v ∈ cellsOf e) : Sx.pure1 v = true ∨ ∃ f a b, e = .fn f a b := by
  unfold Sx.pure2 at h
  split at h
  · exact .inl (List.all_eq_true.1 h v hv)
  · exact .inr ⟨_, _, _, rfl⟩
  · rename_i hn _
    rw [cellsOf_atom hn] at hv
    simp at hv
    subst hv
    exact .inl h
theorem EntOK.pureE {i : Nat} {e : Ent} (h : Sx.pureE e) (he : EntOK E Z tab w i e) : EntOK E Z' tab w i e := by
  cases e with
  | dead => trivial
  | row k sz es =>
    obtain ⟨h1, h2, h3, h4, h5⟩ := he
    refine ⟨h1, h2, h3, h4, fun hne => ?_⟩
    obtain ⟨ho, cs, ty, fr, hh, hu, hs, hc⟩ := h5 hne
    refine ⟨ho, cs, ty, fr, hh, hu, hs, fun j t e v e1 e2 => ?_⟩
    obtain ⟨c, g1, g2⟩ := hc j t e v e1 e2
    refine ⟨c, g1, ?_⟩
    cases k with
    | var =>
      rcases pure2_cells (h e (mem_of_get e1)) (mem_of_get e2) with hp | ⟨f, a, b, rfl⟩
      · exact V.pure1 hp g2
      · have := h4 rfl _ (mem_of_get e1); cases this
    | plain =>
      rcases pure2_cells (h e (mem_of_get e1)) (mem_of_get e2) with hp | ⟨f, a, b, rfl⟩
      · exact Rep.pure1 hp g2
      · have hv : v = .fn f a b := by
          cases t with
          | zero => simpa [cellsOf] using e2.symm
          | succ t => simp [cellsOf] at e2
        subst hv
        have hp : Sx.pure2 (.fn f a b) = true := h _ (mem_of_get e1)
        have hp : (a.all Sx.pure1 && b.all Sx.pure1) = true := hp
        rw [Bool.and_eq_true] at hp
        have g2 : Rep Z w (.fn f a b) c := g2
        show Rep Z' w (.fn f a b) c
        cases g2 with
        | fn _ _ _ va vb l1 l2 c1 c2 => exact .fn _ _ _ _ _ l1 l2 (fun i x y h1 h2 => (c1 i x y h1 h2).pure1 (all_get hp.1 h1)) (fun i x y h1 h2 => (c2 i x y h1 h2).pure1 (all_get hp.2 h1))
    | nest =>
      have hp : pureN e := h e (mem_of_get e1)
      have hs1 := h2 rfl
      subst hs1
      have hl := h1 e (mem_of_get e1)
      have ht : t = 0 := by have := (List.getElem?_eq_some_iff.1 e2).1; omega
      subst ht
      have g2 : OwnCell E Z w i j v c := g2
      show OwnCell E Z' w i j v c
      cases v with
      | sl sz' es' =>
        have he : e = .sl sz' es' := by
          cases e with
          | agg cs =>
            have hp : Sx.pure1 (.agg cs) = true := hp
            cases hp
          | _ => first | (simp [cellsOf] at e2; done) | simpa [cellsOf] using e2
        subst he
        obtain ⟨b, q1, q2, q3, q4⟩ := g2
        refine ⟨b, q1, q2, q3, fun hne => ?_⟩
        obtain ⟨r1, cs, ty, fr, r2, r3, r4, r5⟩ := q4 hne
        refine ⟨r1, cs, ty, fr, r2, r3, r4, fun j t e v f1 f2 => ?_⟩
        obtain ⟨c, p1, p2⟩ := r5 j t e v f1 f2
        refine ⟨c, p1, ?_⟩
        have hpe := hp e (mem_of_get f1)
        have okc := q3 e (mem_of_get f1) v (mem_of_get f2)
        rcases pure2_cells hpe (mem_of_get f2) with hq | ⟨f, a, b, rfl⟩
        · exact p2.pure1 hq
        · have hv : v = .fn f a b := by
            cases t with
            | zero => simpa [cellsOf] using f2.symm
            | succ t => simp [cellsOf] at f2
          subst hv
          have hpe : (a.all Sx.pure1 && b.all Sx.pure1) = true := hpe
          rw [Bool.and_eq_true] at hpe
          cases p2 with
          | fn _ _ _ va vb l1 l2 c1 c2 => exact .fn _ _ _ _ _ l1 l2 (fun i x y h1 h2 => (c1 i x y h1 h2).pure1 (all_get hpe.1 h1)) (fun i x y h1 h2 => (c2 i x y h1 h2).pure1 (all_get hpe.2 h1))
      | nilsl => exact g2
      | emp => exact g2
      | unk => exact g2
      | _ => exact g2.elim
theorem pureT_get : ∀ {t : List Ent}, pureT t → ∀ i, Sx.pureE (ent t i)
  | [], _, i => trivial
  | e :: t, h, 0 => h.1
  | e :: t, h, i + 1 => pureT_get h.2 i
def rsv (tmps : Array Value) : ResultVar → Sem Value
  | .tmp t => pure (tmps.getD t undef)
  | .cell a t => do loadVar t (← asAddr (tmps.getD a undef))
theorem cell_run {t : Nat} {ty : TypeId} {p : AV} {k : AV → Prop} (h1 : ts[t]? = some p) (h2 : loadW P ty p tab k) (s : Sat Γ E ts tab a w) : ∃ v c, k v ∧ (rsv a.tmps (.cell t ty)).run P w = .ok c w ∧ V E (zone Γ E) tab w v c := by
  have hlt : t < a.tmps.size := by rw [s.len]; exact (List.getElem?_eq_some_iff.1 h1).1
  obtain ⟨v, c, g1, g2, g3⟩ := loadW_sound h2 s (s.vals t p _ h1 (Array.getElem?_eq_getElem hlt))
  refine ⟨v, c, g2, ?_, g3⟩
  have hget : a.tmps.getD t undef = a.tmps[t] := by simp [Array.getD, hlt]
  have hp : ∃ ad, a.tmps[t] = .pointer (some ad) ∧ (loadVar ty ad).run P w = .ok c w := by
    cases hc : a.tmps[t] with
    | pointer q => cases q with
      | some ad => rw [hc] at g1; exact ⟨ad, rfl, by simpa [Instr.loadAt, Instr.sureAddr] using g1⟩
      | none => rw [hc] at g1; simp [Instr.loadAt, Instr.sureAddr, stuck] at g1
    | _ => rw [hc] at g1; simp [Instr.loadAt, Instr.sureAddr, stuck] at g1
  obtain ⟨ad, e1, e2⟩ := hp
  simp [rsv, hget, e1, asAddr, e2]
theorem resL_sound {rs : List ResultVar} {k : List AV → Prop} (h : resL P ts tab rs k) (s : Sat Γ E ts tab a w) : ∃ vs cs, k vs ∧ (rs.mapM (rsv a.tmps)).run P w = .ok cs w ∧ Vs E (zone Γ E) tab w vs cs ∧ vs.length = rs.length := by
  induction rs generalizing k with
  | nil => exact ⟨[], [], h, by simp, .nil, rfl⟩
  | cons r rs ih =>
    unfold resL at h
    split at h
    · rename_i e; cases e
    · rename_i t rs' e
      cases e
      obtain ⟨v, h1, h⟩ := lget_spec h
      obtain ⟨vs, cs, h2, h3, h4, h5⟩ := ih h
      have hlt : t < a.tmps.size := by rw [s.len]; exact (List.getElem?_eq_some_iff.1 h1).1
      refine ⟨v :: vs, a.tmps[t] :: cs, h2, ?_, .cons (s.vals t v _ h1 (Array.getElem?_eq_getElem hlt)) h4, by simp [h5]⟩
      simp [List.mapM_cons, rsv, hlt, h3]
    · rename_i t ty rs' e
      cases e
      obtain ⟨p, h1, h⟩ := lget_spec h
      obtain ⟨v, c, g1, g2, g3⟩ := cell_run h1 h s
      obtain ⟨vs, cs, h2, h3, h4, h5⟩ := ih g1
      refine ⟨v :: vs, c :: cs, h2, ?_, .cons g3 h4, by simp [h5]⟩
      simp [List.mapM_cons, g2, h3]
theorem resW_sound {fn : Func} {k : AV → Prop} (h : resW P ts tab fn.results.toList k) (s : Sat Γ E ts tab a w) : ∃ v c, k v ∧ (results fn a.tmps).run P w = .ok c w ∧ V E (zone Γ E) tab w v c := by
  have hr : (results fn a.tmps) = (do let vs ← fn.results.mapM (rsv a.tmps); pure (if h : vs.size = 1 then vs[0] else .tuple vs)) := by
    unfold results
    congr 1
  unfold resW at h
  split at h
  · rename_i t ht
    obtain ⟨v, h1, h2⟩ := lget_spec h
    have hlt : t < a.tmps.size := by rw [s.len]; exact (List.getElem?_eq_some_iff.1 h1).1
    refine ⟨v, a.tmps[t], h2, ?_, s.vals t v _ h1 (Array.getElem?_eq_getElem hlt)⟩
    rw [hr, Array.mapM_eq_mapM_toList, ht]
    simp [rsv, hlt]
  · rename_i t ty ht
    obtain ⟨p, h1, h2⟩ := lget_spec h
    have hlt : t < a.tmps.size := by rw [s.len]; exact (List.getElem?_eq_some_iff.1 h1).1
    obtain ⟨v, c, g1, g2, g3⟩ := loadW_sound h2 s (s.vals t p _ h1 (Array.getElem?_eq_getElem hlt))
    refine ⟨v, c, g2, ?_, g3⟩
    rw [hr, Array.mapM_eq_mapM_toList, ht]
    have hget : a.tmps.getD t undef = a.tmps[t] := by simp [Array.getD, hlt]
    have hp : ∃ ad, a.tmps[t] = .pointer (some ad) ∧ (loadVar ty ad).run P w = .ok c w := by
      cases hc : a.tmps[t] with
      | pointer q => cases q with
        | some ad => rw [hc] at g1; exact ⟨ad, rfl, by simpa [Instr.loadAt, Instr.sureAddr] using g1⟩
        | none => rw [hc] at g1; simp [Instr.loadAt, Instr.sureAddr, stuck] at g1
      | _ => rw [hc] at g1; simp [Instr.loadAt, Instr.sureAddr, stuck] at g1
    obtain ⟨ad, e1, e2⟩ := hp
    simp [rsv, hget, e1, asAddr, e2]
  · rename_i hn hn2
    obtain ⟨vs, cs, h1, h2, h3, h4⟩ := resL_sound (P := P) h s
    have hne : cs.length ≠ 1 := fun e => by
      have hl : fn.results.toList.length = 1 := by rw [← h4, h3.1, e]
      match hq : fn.results.toList, hl with
      | [.tmp t], _ => exact hn t hq
      | [.cell _ _], _ => exact hn2 _ _ hq
    refine ⟨_, .tuple cs.toArray, h1, ?_, .tuple _ _ h3.1 h3.2⟩
    rw [hr, Array.mapM_eq_mapM_toList]
    simp [h2, hne]
theorem Sat.only (s : Sat Γ E ts tab a w) {v : AV} {c : Value} (hv : V E (zone Γ E) tab w v c) : Sat Γ E [v] tab { tmps := #[c], defers := [] } w := by
  refine { s with dfr := rfl, len := rfl, vals := fun i x y h1 h2 => ?_ }
  cases i with
  | zero => simp at h1 h2; subst h1; subst h2; exact hv
  | succ i => simp at h1
theorem Sat.lifts {i j q : Nat} {v : AV} {c : Value} {k : AV → List Ent → Prop} (s : Sat Γ E [v] tab { tmps := #[c], defers := [] } w) (h : liftW i j q v tab k) : ∃ v' tab' E', k v' tab' ∧ Sat Γ E' [v'] tab' { tmps := #[c], defers := [] } w := by
  unfold liftW at h
  split at h
  · rename_i sz es he
    replace h := optP.o h
    split at h
    · rename_i sz' es' hj
      have hj := nth_some hj
      replace h := (eset_spec h.o).2
      replace h := snoc_spec h
      obtain ⟨p2, _⟩ := s.take (j := j) he
      obtain ⟨E', p3, s3, hs⟩ := s.lift he hj
      have hl : ∀ {v : AV} {c : Value}, V E (zone Γ E) tab w v c → V E' (zone Γ E') (tab.set i (.row .nest sz (es.set j .unk)) ++ [.row .plain sz' es']) w (lift0 v) c := fun h => by
        unfold lift0
        split
        all_goals first | exact .imm (.unk _) | exact (h.p p2).p p3
      have hlen : (tab.set i (.row .nest sz (es.set j .unk))).length = tab.length := by simp
      rw [hlen] at h
      have hv := s.vals 0 v c rfl rfl
      split at h
      · rename_i vs
        obtain ⟨hq, h⟩ := h
        rw [nth_eq] at hq
        have h := lnorm_iff (liftL_spec h)
        obtain ⟨cs, rfl, hlc, hc⟩ := hv.tuple_inv
        refine ⟨_, _, E', h, { s3 with vals := fun p x y h1 h2 => ?_ }⟩
        cases p with
        | succ p => simp at h1
        | zero =>
          simp at h1 h2
          subst h1; subst h2
          refine .tuple _ _ (by simpa using hlc) fun p x y h1 h2 => ?_
          rw [List.getElem?_set] at h1
          split at h1
          · rename_i e
            subst e
            split at h1
            · cases h1
              exact hs y (hc _ _ y hq h2)
            · cases h1
          · obtain ⟨z, hz, rfl⟩ := map_get h1
            exact hl (hc p z y hz h2)
      · obtain ⟨rfl, h⟩ := h
        refine ⟨_, _, E', h, { s3 with vals := fun p x y h1 h2 => ?_ }⟩
        cases p with
        | succ p => simp at h1
        | zero =>
          simp at h1 h2
          rw [← h1, ← h2]
          exact hs _ hv
    · exact h.elim
  · exact h.elim
theorem Sat.post {r : AV} {al : Bool} {c : Value} (s : Sat Γ E [r] tab { tmps := #[c], defers := [] } w) (hp : match al with | true => True | false => pure3 r = true ∧ pureT tab) : Post Γ E r tab al c w := by
  have hv := s.vals 0 r c rfl rfl
  refine ⟨?_, fun i => ?_, s.own, s.os, s.tape, s.output, s.size, s.frame, s.mt⟩
  · cases al with
    | true => exact hv
    | false => exact hv.pure3 hp.1
  · cases al with
    | true => exact s.ents i
    | false => exact (s.ents i).pureE (pureT_get hp.2 i)
theorem bodyD_sound {C : Contracts} {nest fz : Bool} {f : FuncId} {fn : Func} {args : List AV} {muts : List Ent} {Q : AV → List Ent → Prop} {al : Bool} {D : AV → List Ent → Prop} (hC : ∀ f args muts Q al, C f args muts Q al → AFn P f args muts Q al)
    (hf : P.funcs[f]? = some fn) (hname : (fn.name == "runtime.NumGoroutine") = false) (hD : Ends fz muts.length Q al D) (h : bodyD C nest fz P fn args muts D) : AFn P f args muts Q al := by
  obtain ⟨hfz, h⟩ := h
  intro w O L Z vs hown hents hvs
  cases hb : fn.body with
  | none => rw [hb] at h; exact h.elim
  | some c =>
    rw [hb] at h
    have h := lnorm_iff h
    refine .inl ⟨by simp only [beq_eq_false_iff_ne] at hname; simp [callFunc, hf, hname, hb], calls_of_wp hf hb ?_⟩
    have s : Sat ⟨w, O, L, muts, Z⟩ ⟨O, L⟩ (args ++ List.replicate (fn.ntmps - args.length) .unk) muts { tmps := vs.toArray ++ Array.replicate (fn.ntmps - vs.toArray.size) undef, defers := [] } w := by
      refine ⟨rfl, by simp [hvs.1], fun i v c h1 h2 => ?_, hents, fun b x hb => ?_, rfl, rfl, rfl, Nat.le_refl _, fun b _ h => ⟨h, rfl⟩, fun i hi => ⟨hi, fun k sz es he => ⟨rfl, ⟨es, he, rfl⟩, fun ho => ⟨ho, fun cs ty fr hh => ⟨cs, ty, hh, rfl⟩⟩⟩⟩⟩
      · by_cases hi : i < args.length
        · rw [List.getElem?_append_left hi] at h1
          rw [Array.getElem?_append_left (by simp [← hvs.1]; exact hi)] at h2
          exact hvs.2 i v c h1 (by simpa using h2)
        · rw [List.getElem?_append_right (by omega)] at h1
          have := List.eq_of_mem_replicate (mem_of_get h1)
          subst this
          exact .imm (.unk _)
      · obtain ⟨i, y⟩ := x
        exact (hown b i y hb).1
    have hm : NoMut ⟨w, O, L, muts, Z⟩ fz := fun e => by
      have := hfz e
      subst this
      refine ⟨rfl, fun b => ?_⟩
      cases hq : O b with
      | none => exact hq
      | some x =>
        obtain ⟨i, y⟩ := x
        have := (hown b i y hq).2
        simp at this
    have done : ∀ E' ts' tab' a' w', doneW P fn D ts' tab' → Sat ⟨w, O, L, muts, Z⟩ E' ts' tab' a' w' →
        a'.defers = [] ∧ ∃ v, (results fn a'.tmps).run P w' = .ok v w' ∧ ∃ r muts' E', Q r muts' ∧ Post ⟨w, O, L, muts, Z⟩ E' r muts' al v w' := by
      intro E' ts' tab' a' w' hd s'
      obtain ⟨v, c, hd, h2, h3⟩ := resW_sound (P := P) hd s'
      obtain ⟨r, muts', hq, hd⟩ := hD _ _ hd
      have fin : ∀ {v : AV} {tab : List Ent} {E : Env}, doneX fz muts.length r muts' al v tab → Sat ⟨w, O, L, muts, Z⟩ E [v] tab { tmps := #[c], defers := [] } w' → ∃ E', Post ⟨w, O, L, muts, Z⟩ E' r muts' al c w' := by
        intro v tab E hd s3
        cases hd with
        | mk ext σ hu hn hl ht hp => exact ⟨cutE σ E, (((s3.exts ext).cut hu hn).le (ts' := [r]) ⟨hl, trivial⟩ ht).post hp⟩
        | fz ext σ hu hn hf hs hl ht hp => exact ⟨cutE σ E, (((s3.exts ext).frz (hm hf).2 hu hn hs).1.le (ts' := [r]) ⟨hl, trivial⟩ ht).post hp⟩
      refine ⟨s'.dfr, c, h2, r, muts', ?_⟩
      have key : ∃ E', Post ⟨w, O, L, muts, Z⟩ E' r muts' al c w' := by
        cases hd with
        | mk ext σ hu hn hl ht hp => exact fin (.mk ext σ hu hn hl ht hp) (s'.only h3)
        | fz ext σ hu hn hf hs hl ht hp => exact fin (.fz ext σ hu hn hf hs hl ht hp) (s'.only h3)
        | lift i j q hd =>
          obtain ⟨v2, tab2, E2, hd2, s2⟩ := (s'.only h3).lifts hd
          exact fin hd2 s2
      exact key.imp fun _ h => ⟨hq, h⟩
    refine Code.wp_mono (fun e a' w' hq => ?_) (codeW_sound hC hm c h s)
    obtain ⟨ex, E', ts', tab', h1, h2, h3⟩ := hq
    cases e with
    | normal => cases h1; exact done _ _ _ _ _ h2 h3
    | ret => cases h1; exact done _ _ _ _ _ h2 h3
    | exit => cases h1; exact h2.elim
    | goto => cases h1; exact h2.elim
    | panic => cases h1
    | outgrown => cases h1
end
end Sx

/- Arguments as the statements read them: trees. -/
set_option linter.unusedVariables false
namespace Sx
open Go Go.RowKit
section
variable {P : Program} {w : World}
def anyB : Nat → Prop := fun _ => True
def CellsR (w : World) (vs : List AV) (cs : List Value) : Prop := vs.length = cs.length ∧ ∀ (i : Nat) (v : AV) (c : Value), vs[i]? = some v → cs[i]? = some c → Rep anyB w v c ∧ okCell v = true
theorem CellsR.one {v : AV} {c : Value} (h : Rep anyB w v c) (hk : okCell v = true) : CellsR w [v] [c] := ⟨rfl, fun i x y h1 h2 => by
  cases i with
  | zero => simp at h1 h2; subst h1; subst h2; exact ⟨h, hk⟩
  | succ i => simp at h1⟩
theorem CellsR.app {v1 v2 : List AV} {c1 c2 : List Value} (h1 : CellsR w v1 c1) (h2 : CellsR w v2 c2) : CellsR w (v1 ++ v2) (c1 ++ c2) := by
  refine ⟨by simp [h1.1, h2.1], fun i x y q1 q2 => ?_⟩
  by_cases hi : i < v1.length
  · rw [List.getElem?_append_left hi] at q1
    rw [List.getElem?_append_left (by rw [← h1.1]; exact hi)] at q2
    exact h1.2 i x y q1 q2
  · rw [List.getElem?_append_right (by omega)] at q1
    rw [List.getElem?_append_right (by rw [← h1.1]; omega), ← h1.1] at q2
    exact h2.2 _ x y q1 q2
/-- What the statements read of a type, as trees. -/
def Reads (P : Program) (t : TypeId) (R : AV → Prop) : Prop :=
  ∀ {H : Type} (enc : TypeId × Value → H) (w : World) (fuel : Nat) (cs : List Value) (x : DataW H × List MemPlace), DataW.trod enc P w 0 (fun _ => true) true fuel t cs = some x → ∃ e, R e ∧ CellsR w (cellsOf e) cs
theorem reads_bool {t : TypeId} (hu : P.underlying t = some .bool) : Reads P t (fun e => ∃ b, e = bv b) := by
  intro H enc w fuel cs x h
  obtain ⟨b, rfl, _⟩ := DataW.trod_bool hu h
  refine ⟨bv b, ⟨b, rfl⟩, .one ?_ rfl⟩
  have := Rep.prop (Z := anyB) (w := w) (b = true) (instDecidableEqBool b true)
  rwa [show @decide (b = true) (instDecidableEqBool b true) = b by cases b <;> rfl] at this
theorem reads_int {t : TypeId} {k : IntKind} (hu : P.underlying t = some (.int k)) : Reads P t (fun e => ∃ n, k.min ≤ n ∧ n ≤ k.max ∧ e = .int k n) := by
  intro H enc w fuel cs x h
  obtain ⟨n, rfl, _, hw⟩ := DataW.trod_int hu h
  simp [Lit.wf] at hw
  exact ⟨_, ⟨n, hw.1, hw.2, rfl⟩, .one (.int _ _) rfl⟩
theorem reads_string {t : TypeId} (hu : P.underlying t = some .string) : Reads P t (fun e => ∃ s, s.length ≤ maxLen ∧ e = .str s) := by
  intro H enc w fuel cs x h
  obtain ⟨s, rfl, _, hw⟩ := DataW.trod_string hu h
  exact ⟨_, ⟨s.data.toList, by simpa using hw, rfl⟩, .one (.str _ _ rfl) rfl⟩
theorem cells_get {base : Nat} {a : Addr} {n : Nat} {cs : List Value} (h : w.cells? base a n = some cs) : cs.length = n ∧ ∀ (i : Nat) (c : Value), cs[i]? = some c → w.cell? (a.add i) = some c := by
  unfold World.cells? at h
  split at h
  · have hl := mapM_some_length h
    refine ⟨by simpa using hl, fun i c hi => ?_⟩
    have hlt : i < n := by have := (List.getElem?_eq_some_iff.1 hi).1; simpa [hl] using this
    have := mapM_some_get h i i (by simp [hlt])
    rw [this]; exact hi
  · cases h
theorem cell_spot {a : Addr} {c : Value} (h : w.cell? a = some c) : a = ⟨a.block, a.off, none⟩ := by
  obtain ⟨b, o, s⟩ := a
  unfold World.cell? at h
  split at h
  · split at h
    · cases h
    · rename_i hs; simp at hs; subst hs; rfl
  · cases h
theorem add_cell {a : Addr} (ha : a = ⟨a.block, a.off, none⟩) (i : Nat) : a.add i = ⟨a.block, a.off + i, none⟩ := by
  obtain ⟨b, o, s⟩ := a
  cases ha
  unfold Addr.add
  split
  · rename_i h; subst h; rfl
  · rfl
theorem reads_slice {t e : TypeId} {R : AV → Prop} (hu : P.underlying t = some (.slice e)) (he : Reads P e R) (hpos : 0 < P.cellsOf e) :
    Reads P t (fun x => ∃ es, x = .sl (P.cellsOf e) es ∧ (∀ y ∈ es, R y) ∧ es.length ≤ maxLen) := by
  intro H enc w fuel cs x h
  rcases DataW.trod_slice hu h with ⟨rfl, _⟩ | ⟨a, len, cap, elems, rest, n, _, rfl, _, _, hle, hmax, hlen, hel, _, _⟩
  · exact ⟨_, ⟨[], rfl, nofun, Nat.zero_le _⟩, .one (.sl0 _ _ _) rfl⟩
  · have each : ∀ i, i < len → ∃ y, R y ∧ ∃ cs, w.cells? 0 (a.add (i * P.cellsOf e)) (P.cellsOf e) = some cs ∧ CellsR w (cellsOf y) cs := fun i hi => by
      have := hel i hi
      have hi2 : i < elems.length := by omega
      rw [List.getElem?_eq_getElem hi2, Option.bind_eq_some_iff] at this
      obtain ⟨cs, h1, h2⟩ := this
      obtain ⟨y, h3, h4⟩ := he enc w n cs _ h2
      exact ⟨y, h3, cs, h1, h4⟩
    obtain ⟨es, hl, hes⟩ := choose_list (fun i y => R y ∧ ∃ cs, w.cells? 0 (a.add (i * P.cellsOf e)) (P.cellsOf e) = some cs ∧ CellsR w (cellsOf y) cs) len each
    refine ⟨.sl (P.cellsOf e) es, ⟨es, rfl, fun y hy => ?_, by omega⟩, .one ?_ rfl⟩
    · obtain ⟨i, hi⟩ := List.getElem?_of_mem hy
      exact (hes i y hi).1
    · by_cases hz : len = 0
      · subst hz
        have := List.eq_nil_of_length_eq_zero hl
        subst this
        exact .sl0 _ _ _
      · have ha : a = ⟨a.block, a.off, none⟩ := by
          obtain ⟨y, _, cs, h1, _⟩ := each 0 (by omega)
          obtain ⟨h2, h3⟩ := cells_get h1
          have h0 : 0 < cs.length := by omega
          have := h3 0 cs[0] (List.getElem?_eq_getElem h0)
          have e1 : (a.add (0 * P.cellsOf e)).add 0 = a := by simp [Addr.add]
          rw [e1] at this
          exact cell_spot this
        have cell : ∀ (j t : Nat) (x v : AV), es[j]? = some x → (cellsOf x)[t]? = some v → ∃ c, w.cell? ⟨a.block, a.off + j * P.cellsOf e + t, none⟩ = some c ∧ Rep anyB w v c ∧ okCell v = true := fun j t x v e1 e2 => by
          obtain ⟨_, cs, h1, h2⟩ := hes j x e1
          obtain ⟨h3, h4⟩ := cells_get h1
          have ht : t < cs.length := by rw [← h2.1]; exact (List.getElem?_eq_some_iff.1 e2).1
          have h5 := h4 t cs[t] (List.getElem?_eq_getElem ht)
          rw [add_cell ha] at h5
          rw [add_cell rfl] at h5
          obtain ⟨h6, h7⟩ := h2.2 t v cs[t] e2 (List.getElem?_eq_getElem ht)
          exact ⟨_, h5, h6, h7⟩
        rw [ha, ← hl]
        refine .sl (P.cellsOf e) es a.block a.off cap (fun q => (w.cell? ⟨a.block, a.off + q, none⟩).getD undef) (by omega) (fun x hx => ?_) (fun x hx v hv => ?_) (fun _ _ _ _ _ _ => trivial) (fun j t x v e1 e2 => ?_) (fun j t x v e1 e2 => ?_)
        · obtain ⟨i, hi⟩ := List.getElem?_of_mem hx
          obtain ⟨_, cs, h1, h2⟩ := hes i x hi
          rw [h2.1, (cells_get h1).1]
        · obtain ⟨i, hi⟩ := List.getElem?_of_mem hx
          obtain ⟨t, ht⟩ := List.getElem?_of_mem hv
          obtain ⟨c, _, _, h⟩ := cell i t x v hi ht
          exact h
        · obtain ⟨c, h1, _⟩ := cell j t x v e1 e2
          rw [h1, ← Nat.add_assoc, h1]; rfl
        · obtain ⟨c, h1, h2, _⟩ := cell j t x v e1 e2
          rw [← Nat.add_assoc, h1]; exact h2
/-- The cells of a struct's fields. -/
def Parts : List (AV → Prop) → List AV → Prop
  | [], vs => vs = []
  | R :: Rs, vs => ∃ e rest, R e ∧ vs = cellsOf e ++ rest ∧ Parts Rs rest
def FieldsR (P : Program) : List Field → Nat → Nat → List (AV → Prop) → Prop
  | [], off, n, [] => off = n
  | f :: fs, off, n, R :: Rs => f.offset = off ∧ Reads P f.type R ∧ FieldsR P fs (off + P.cellsOf f.type) n Rs
  | _, _, _, _ => False
theorem fields_le : ∀ {fs : List Field} {off n : Nat} {Rs : List (AV → Prop)}, FieldsR P fs off n Rs → off ≤ n
  | [], off, n, [], h => Nat.le_of_eq h
  | [], _, _, _ :: _, h => h.elim
  | _ :: _, _, _, [], h => h.elim
  | f :: fs, off, n, R :: Rs, h => Nat.le_trans (Nat.le_add_right _ _) (fields_le h.2.2)
theorem fields_read {H : Type} {enc : TypeId × Value → H} {m : Nat} {cs : List Value} {n : Nat} (hn : cs.length = n) : ∀ {fs : List Field} {off : Nat} {Rs : List (AV → Prop)}, FieldsR P fs off n Rs →
    (∀ f ∈ fs, ∃ x, DataW.trod enc P w 0 (fun _ => true) true m f.type ((cs.drop f.offset).take (P.cellsOf f.type)) = some x) → ∃ vs, Parts Rs vs ∧ CellsR w vs (cs.drop off)
  | [], off, [], h, _ => ⟨[], rfl, by
      have h : off = n := h
      rw [List.drop_eq_nil_of_le (by omega)]
      exact ⟨rfl, fun i v c h => by simp at h⟩⟩
  | [], _, _ :: _, h, _ => h.elim
  | _ :: _, _, [], h, _ => h.elim
  | f :: fs, off, R :: Rs, ⟨h1, h2, h3⟩, hr => by
    obtain ⟨x, hx⟩ := hr f (List.mem_cons_self ..)
    obtain ⟨e, g1, g2⟩ := h2 enc w m _ x hx
    obtain ⟨vs, g3, g4⟩ := fields_read hn h3 (fun f hf => hr f (List.mem_cons_of_mem _ hf))
    refine ⟨cellsOf e ++ vs, ⟨e, vs, g1, rfl, g3⟩, ?_⟩
    have := g2.app g4
    rw [h1, ← List.drop_drop, List.take_append_drop] at this
    exact this
theorem reads_struct {t : TypeId} {fs : Array Field} {Rs : List (AV → Prop)} (hu : P.underlying t = some (.struct fs)) (hf : FieldsR P fs.toList 0 (P.cellsOf t) Rs) : Reads P t (fun x => ∃ vs, x = .agg vs ∧ Parts Rs vs) := by
  intro H enc w fuel cs x h
  obtain ⟨xs, n, _, _, hl, hsz, hget⟩ := DataW.trod_struct hu h
  obtain ⟨vs, h1, h2⟩ := fields_read (w := w) (enc := enc) (m := n) hl hf (fun f hf => by
    obtain ⟨i, hi⟩ := List.getElem?_of_mem hf
    have hi2 : i < fs.size := by have := (List.getElem?_eq_some_iff.1 hi).1; simpa using this
    refine ⟨xs[i], ?_⟩
    rw [hget i f (by simpa using hi)]
    exact List.getElem?_eq_getElem (by omega))
  rw [List.drop_zero] at h2
  exact ⟨.agg vs, ⟨vs, rfl, h1⟩, h2⟩
/-- A type whose values are one cell, told so. -/
def atomT : Option TypeDesc → Bool
  | some .bool => true
  | some (.int _) => true
  | some .string => true
  | some (.slice _) => true
  | _ => false
def structT : Option TypeDesc → Bool
  | some (.struct _) => true
  | some (.array _ _) => true
  | _ => false
def kindOk (P : Program) (t : TypeId) : Bool := atomT (P.underlying t) || structT (P.underlying t)
theorem atom_value {t : TypeId} {r : Reach} {b : Nat} {v : Value} (ha : atomT (P.underlying t) = true) (h : Value.okWide P w r b t v) : v.cells.toList = [v] := by
  have hn : ∀ cs, v ≠ .agg cs := fun cs e => by
    subst e
    unfold Value.okWide at h
    cases hu : P.underlying t with
    | none => rw [hu] at ha; cases ha
    | some d => cases d <;> rw [hu] at ha <;> first | (cases ha; done) | (rw [hu] at h; simp [Cell.okWide, Cell.ok, hu] at h)
  unfold Value.cells
  split
  · exact (hn _ rfl).elim
  · rfl
theorem struct_value {t : TypeId} {r : Reach} {b : Nat} {v : Value} (ha : structT (P.underlying t) = true) (h : Value.okWide P w r b t v) : ∃ cs : Array Value, v = .agg cs := by
  unfold Value.okWide at h
  cases hu : P.underlying t with
  | none => rw [hu] at ha; cases ha
  | some d => cases d <;> rw [hu] at ha <;> first | (cases ha; done) | (rw [hu] at h; obtain ⟨cs, h, _⟩ := h; exact ⟨cs, h⟩)
theorem read_value {H : Type} {enc : TypeId × Value → H} {t : TypeId} {R : AV → Prop} {r : Reach} {b : Nat} {v : Value} {d : DataW H} {ps : List MemPlace} (hR : Reads P t R) (hk : kindOk P t = true) (hat : atomT (P.underlying t) = true → ∀ e, R e → ∀ cs, e ≠ .agg cs)
    (hst : structT (P.underlying t) = true → ∀ e, R e → ∃ cs, e = .agg cs) (h : Value.okWide P w r b t v) (hd : DataW.Trod enc P w 0 (fun _ => true) true t v d ps) : ∃ e, R e ∧ Rep anyB w e v := by
  obtain ⟨fuel, hd⟩ := hd
  obtain ⟨e, h1, h2⟩ := hR enc w fuel _ _ hd
  refine ⟨e, h1, ?_⟩
  rcases Bool.or_eq_true _ _ ▸ hk with ha | hs
  · have he : cellsOf e = [e] := cellsOf_atom (hat ha e h1)
    rw [he, atom_value ha h] at h2
    exact (h2.2 0 e v rfl rfl).1
  · obtain ⟨cs, rfl⟩ := struct_value hs h
    obtain ⟨vs, rfl⟩ := hst hs e h1
    have := Rep.agg (Z := anyB) (w := w) vs cs.toList h2.1 fun i c v e1 e2 => (h2.2 i c v e1 e2).1
    simpa using this
/-- The arguments of a law. -/
def ArgsR (P : Program) : List TypeId → List (AV → Prop) → Prop
  | [], [] => True
  | t :: ts, R :: Rs => (Reads P t R ∧ kindOk P t = true ∧ (atomT (P.underlying t) = true → ∀ e, R e → ∀ cs, e ≠ .agg cs) ∧ (structT (P.underlying t) = true → ∀ e, R e → ∃ cs, e = .agg cs)) ∧ ArgsR P ts Rs
  | _, _ => False
def AllR : List (AV → Prop) → List AV → Prop
  | [], [] => True
  | R :: Rs, e :: es => R e ∧ AllR Rs es
  | _, _ => False
theorem args_read {H : Type} {enc : TypeId × Value → H} {r : Reach} {b : Nat} : ∀ {ts : List TypeId} {Rs : List (AV → Prop)} {vs : List Value} {ds : List (DataW H)} {ps : List MemPlace}, ArgsR P ts Rs →
    (∀ (j : Nat) t v, ts[j]? = some t → vs[j]? = some v → Value.okWide P w r b t v) → DataW.TrodAll enc P w 0 (fun _ => true) true ts vs ds ps → ∃ es, AllR Rs es ∧ es.length = vs.length ∧ ∀ (i : Nat) (e : AV) (v : Value), es[i]? = some e → vs[i]? = some v → Rep anyB w e v
  | [], [], [], [], _, _, _, _ => ⟨[], trivial, rfl, fun i e v h => by simp at h⟩
  | [], _ :: _, _, _, _, h, _, _ => h.elim
  | _ :: _, [], _, _, _, h, _, _ => h.elim
  | [], _, _ :: _, _, _, _, _, h => by simp [DataW.TrodAll] at h
  | [], _, [], _ :: _, _, _, _, h => by simp [DataW.TrodAll] at h
  | _ :: _, _, [], _, _, _, _, h => by simp [DataW.TrodAll] at h
  | _ :: _, _, _ :: _, [], _, _, _, h => by simp [DataW.TrodAll] at h
  | t :: ts, R :: Rs, v :: vs, d :: ds, ps, ⟨⟨h1, h2, h3, h4⟩, h5⟩, hok, ⟨p, q, g1, g2, g3⟩ => by
    obtain ⟨e, h6, h7⟩ := read_value h1 h2 h3 h4 (hok 0 t v rfl rfl) g1
    obtain ⟨es, h8, h9, h10⟩ := args_read h5 (fun j t v q1 q2 => hok (j + 1) t v q1 q2) g2
    refine ⟨e :: es, ⟨h6, h8⟩, by simp [h9], fun i x y q1 q2 => ?_⟩
    cases i with
    | zero => simp at q1 q2; subst q1; subst q2; exact h7
    | succ i => exact h10 i x y (by simpa using q1) (by simpa using q2)
theorem AFn.calls {f : FuncId} {fn : Func} {c : Code} (hf : P.funcs[f]? = some fn) (hname : (fn.name == "runtime.NumGoroutine") = false) (hb : fn.body = some c) {vs : List Value} {R : Value → World → Prop} (h : ACall P f vs w R) :
    Calls P f vs.toArray w fun e w' => match e with | .returned v => R v w' | _ => False := by
  rcases h with ⟨_, h⟩ | ⟨v, w', h, _⟩
  · exact h
  · simp only [beq_eq_false_iff_ne] at hname
    simp [callFunc, hf, hname, hb] at h
theorem trodAll_below {H : Type} {enc : TypeId × Value → H} {W W' : World} (hl : laidOutB P = true) (hb : Below W.heap.size W W') : ∀ {ts : List TypeId} {vs : List Value} {ds : List (DataW H)} {ps : List MemPlace}, (∀ t ∈ ts, P.readableRec t = true ∧ t < P.types.size) →
    DataW.TrodAll enc P W 0 (fun _ => true) true ts vs ds ps → DataW.TrodAll enc P W' 0 (fun b => decide (b < W.heap.size)) true ts vs ds ps
  | [], [], [], ps, _, h => h
  | [], _ :: _, _, _, _, h => by simp [DataW.TrodAll] at h
  | [], [], _ :: _, _, _, h => by simp [DataW.TrodAll] at h
  | _ :: _, [], _, _, _, h => by simp [DataW.TrodAll] at h
  | _ :: _, _ :: _, [], _, _, h => by simp [DataW.TrodAll] at h
  | t :: ts, v :: vs, d :: ds, ps, hr, ⟨p, q, g1, g2, g3⟩ => by
    obtain ⟨r1, r2⟩ := hr t (List.mem_cons_self ..)
    refine ⟨p, q, Below.trod hl r1 r2 g1 hb (fun x hx => ?_), trodAll_below hl hb (fun t ht => hr t (List.mem_cons_of_mem _ ht)) g2, g3⟩
    obtain ⟨n, g1⟩ := g1
    exact DataW.trod_lt n t _ _ g1 x hx
theorem trodAll_len {H : Type} {enc : TypeId × Value → H} {sp : Nat → Bool} {b : Nat} {hd : Bool} : ∀ {ts : List TypeId} {vs : List Value} {ds : List (DataW H)} {ps : List MemPlace}, DataW.TrodAll enc P w b sp hd ts vs ds ps → ds.length = ts.length
  | [], [], [], _, _ => rfl
  | [], _ :: _, _, _, h => by simp [DataW.TrodAll] at h
  | [], [], _ :: _, _, h => by simp [DataW.TrodAll] at h
  | _ :: _, [], _, _, h => by simp [DataW.TrodAll] at h
  | _ :: _, _ :: _, [], _, h => by simp [DataW.TrodAll] at h
  | t :: ts, v :: vs, d :: ds, ps, ⟨p, q, _, g2, _⟩ => by simp [trodAll_len g2]
/-- A law whose contract says 'true' does what its row says. -/
theorem law_row {H : Type} {enc : TypeId × Value → H} {f : FuncId} {fn : Func} {c : Code} {s : ChangeSpec} {Rs : List (AV → Prop)} {tb : TypeId} (hf : P.funcs[f]? = some fn) (hname : (fn.name == "runtime.NumGoroutine") = false) (hb : fn.body = some c)
    (hl : laidOutB P = true) (hread : ∀ t ∈ fn.params.toList, P.readableRec t = true ∧ t < P.types.size) (hargs : ArgsR P fn.params.toList Rs) (hvars : s.vars = []) (hres : fn.resultTypes = #[tb]) (htb : P.underlying tb = some .bool)
    (hs : ∀ ds : List (DataW H), ds.length = fn.params.toList.length → s.fn H ds = { results := [.lit (.bool true)], args := ds }) (hc : ∀ es, AllR Rs es → AFn P f es [] (is .tt []) false)
    (W : World) (base : Nat) (args : Array Value) (ds gs : List (DataW H)) (before : List MemPlace)
    (hval : ∀ (j : Nat) t v, fn.params[j]? = some t → args[j]? = some v → Value.okWide P W .any base t v) (hW : DataW.Whole enc P fn.params.toList s.vars false W args.toList ds gs before) :
    Calls P f args W fun e W' => ∃ v, e = .returned v ∧ s.post enc P fn false true false false W args v W' := by
  have hW' := hW
  obtain ⟨p, q, hA, hV, rfl, hfz, hnd⟩ := hW
  rw [hvars] at hV
  obtain ⟨rfl, rfl⟩ := Go.ChangeShapes.trodVars_none hV
  obtain ⟨es, h1, h2, h3⟩ := args_read (r := .any) (b := base) hargs (fun j t v q1 q2 => hval j t v (by simpa using q1) (by simpa using q2)) hA
  have hcall := hc es h1 W (fun _ => none) (fun _ => 0) anyB args.toList nofun (fun i => by rw [ent_out (Nat.zero_le _)]; trivial) ⟨h2, fun i v c q1 q2 => .imm ((h3 i v c q1 q2).mono fun b _ _ => ⟨⟨rfl, fun _ => trivial⟩, rfl⟩)⟩
  have hcalls := AFn.calls hf hname hb hcall
  rw [Array.toArray_toList] at hcalls
  refine calls_mono hcalls fun e W' hr => ?_
  cases e with
  | returned v =>
    obtain ⟨_, _, E', ⟨e1, e2⟩, hp⟩ := hr
    subst e1; subst e2
    have hv := hp.val.tt_inv
    subst hv
    have bel : Below W.heap.size W W' := ⟨hp.os, hp.tape, hp.output, hp.size, fun k hk => (hp.frame k hk rfl).2⟩
    have hlen : ds.length = fn.params.toList.length := trodAll_len hA
    refine ⟨_, rfl, ds, [], _, [], p, [], hW', ?_, ?_, ?_, bel.frame _, fun h => by cases h⟩
    all_goals rw [List.append_nil, hs ds hlen]
    · rw [hres]
      exact Go.ChangeShapes.trodAll_mk1 (shut_bool htb _)
    · exact trodAll_below hl bel hread hA
    · rw [hvars]; rfl
  | panicked => exact hr.elim
  | outgrown => exact hr.elim
end
end Sx

/- Words for proofs of contracts. -/
namespace Sx
open Go
set_option linter.unusedVariables false
set_option linter.unusedSimpArgs false
structure Cf (P : Program) (f : FuncId) (args : List AV) (muts : List Ent) (Q : AV → List Ent → Prop) (al : Bool) : Prop where
  h : AFn P f args muts Q al
theorem mkC {P : Program} (nest fz : Bool) {f : FuncId} {fn : Func} {args : List AV} {muts : List Ent} {r : AV} {muts' : List Ent} {al : Bool} (hf : P.funcs[f]? = some fn) (hn : (fn.name == "runtime.NumGoroutine") = false)
    (h : bodyD (Cf P) nest fz P fn args muts fun v tab => doneV fz muts.length r muts' al v tab) : Cf P f args muts (is r muts') al := ⟨bodyD_sound (fun _ _ _ _ _ h => h.h) hf hn (fun _ _ h => ⟨r, muts', ⟨rfl, rfl⟩, h⟩) h⟩
theorem mkE {P : Program} (nest fz : Bool) {f : FuncId} {fn : Func} {args : List AV} {muts : List Ent} {α : Type} {p : α → Prop} {rf : α → AV} {mf : α → List Ent} {al : Bool} (hf : P.funcs[f]? = some fn) (hn : (fn.name == "runtime.NumGoroutine") = false)
    (h : bodyD (Cf P) nest fz P fn args muts fun v tab => doneE fz muts.length p rf mf al v tab) : Cf P f args muts (some' p rf mf) al := ⟨bodyD_sound (fun _ _ _ _ _ h => h.h) hf hn (fun _ _ ⟨x, hx, h⟩ => ⟨rf x, mf x, ⟨x, hx, rfl, rfl⟩, h⟩) h⟩
/-- A contract holds for arguments that say more. -/
theorem Cf.arg {P : Program} {f : FuncId} {args args' : List AV} {muts : List Ent} {Q : AV → List Ent → Prop} {al : Bool} (h : Cf P f args muts Q al) (hl : leL3 muts args' args) : Cf P f args' muts Q al := ⟨fun w O L Z vs h1 h2 h3 => by
  obtain ⟨q1, q2⟩ := leL3_get hl
  refine h.h w O L Z vs h1 h2 ⟨q1.symm.trans h3.1, fun i v c e1 e2 => ?_⟩
  obtain ⟨x, e3, e4⟩ := q2 i v e1
  exact (h3.2 i x c e3 e2).le3 e4⟩
/-- A contract that says less. -/
theorem Cf.to {P : Program} {f : FuncId} {args : List AV} {muts : List Ent} {Q Q' : AV → List Ent → Prop} {al : Bool} (h : Cf P f args muts Q al) (hq : ∀ r m, Q r m → Q' r m) : Cf P f args muts Q' al := ⟨fun w O L Z vs h1 h2 h3 =>
  (h.h w O L Z vs h1 h2 h3).mono fun _ _ ⟨r, m, E, q, p⟩ => ⟨r, m, E, hq r m q, p⟩⟩
/-- One of the results, whichever it is. -/
theorem Cf.ex {P : Program} {f : FuncId} {args : List AV} {muts : List Ent} {Q : AV → List Ent → Prop} {al : Bool} {α : Type} {p : α → Prop} {rf : α → AV} {mf : α → List Ent} (h : Cf P f args muts Q al) (hq : ∀ r m, Q r m → ∃ x, p x ∧ r = rf x ∧ m = mf x) : Cf P f args muts (some' p rf mf) al := h.to hq
section
variable {α : Type} {K : AV → Prop} {KL : List AV → Prop} {p y n : Prop}
/-! numbers -/
theorem wr {a : Int} (h1 : -9223372036854775808 ≤ a) (h2 : a ≤ 9223372036854775807) : IntKind.i64.wrap a = a := by
  have e : IntKind.i64.wrap a = (if a % 18446744073709551616 ≥ 9223372036854775808 then a % 18446744073709551616 - 18446744073709551616 else a % 18446744073709551616) := by simp [IntKind.wrap, IntKind.signed, IntKind.bits]
  rw [e]
  split <;> omega
theorem nw {a : Int} (h1 : -9223372036854775808 ≤ a) (h2 : a ≤ 9223372036854775807) (hk : K (.int .i64 a)) : num .i64 (IntKind.i64.wrap a) K := .mk a (wr h1 h2) hk
theorem nr {k : IntKind} {a : Int} (hk : K (.int k a)) : num k a K := .mk a rfl hk
theorem Z {α : Type _} {x : α} {q : Prop} (h : q) : x = x ∧ q := ⟨rfl, h⟩
theorem ntd {a b : Int} (h0 : 0 ≤ a) (h1 : a ≤ 9223372036854775807) (h2 : 0 < b) (hk : K (.int .i64 (a / b))) : num .i64 (IntKind.i64.wrap (a.tdiv b)) K := by
  have e : a.tdiv b = a / b := Int.tdiv_eq_ediv_of_nonneg h0
  refine .mk (a / b) ?_ hk
  rw [e]
  have h3 : 0 ≤ a / b := Int.ediv_nonneg h0 (by omega)
  have h4 : a / b ≤ a := Int.ediv_le_self b h0
  exact wr (by omega) (by omega)
theorem ntm {a b : Int} (h0 : 0 ≤ a) (hk : K (.int .i64 (a % b))) : num .i64 (a.tmod b) K := .mk (a % b) (Int.tmod_eq_emod_of_nonneg h0) hk
/-! two ways -/
theorem tY (h : p) (hy : y) : twoP p y n := ⟨fun _ => hy, fun h' => (h' h).elim⟩
theorem tN (h : ¬ p) (hn : n) : twoP p y n := ⟨fun h' => (h h').elim, fun _ => hn⟩
theorem twoN {q : Prop} (hy : ¬ q → y) (hn : q → n) : twoP (¬ q) y n := ⟨hy, fun h => hn (Classical.not_not.1 h)⟩
theorem ixb {m : Int} (h0 : 0 ≤ m) (h1 : m ≤ 1099511627776) (hk : p) : idxP m (big + 1) p := .mk h0 (by unfold big; omega) hk
/-! lists -/
theorem nth_map {f : α → AV} {l : List α} {k : Nat} (h : k < l.length) : nth (l.map f) k = some (f l[k]) := by rw [nth_eq]; simp [h]
theorem gm {f : α → AV} {l : List α} {k : Nat} (h : k < l.length) (hk : K (f l[k])) : getP (l.map f) k K := .mk _ (nth_map h) hk
theorem om {f : α → AV} {l : List α} {k : Nat} {K : Option AV → Prop} (h : k < l.length) (hk : K (some (f l[k]))) : optP (l.map f) k K := .mk _ (nth_map h) hk
theorem gmv {f : α → AV} {l : List α} {k k' : Nat} {x : α} {h0 : k < l.length} (hk' : k' = k) (e : l[k]'h0 = x) (hk : K (f x)) : getP (l.map f) k' K := by subst hk'; exact .mk _ (nth_map h0) (by rw [e]; exact hk)
theorem omv {f : α → AV} {l : List α} {k k' : Nat} {x : α} {h0 : k < l.length} {K : Option AV → Prop} (hk' : k' = k) (e : l[k]'h0 = x) (hk : K (some (f x))) : optP (l.map f) k' K := by subst hk'; exact .mk _ (nth_map h0) (by rw [e]; exact hk)
theorem gmZ {f : α → AV} {l : List α} {k : Nat} (h : k < l.length) (hk : K (f l[k])) : getP (l.map f) (0 + k) K := .mk _ (by rw [Nat.zero_add]; exact nth_map h) hk
theorem ix {m : Int} {len : Nat} (h0 : 0 ≤ m) (h1 : m < (len : Int)) (hk : p) : idxP m len p := .mk h0 h1 hk
theorem ixm {f : α → AV} {l : List α} {m : Int} (h0 : 0 ≤ m) (h1 : m < (l.length : Int)) (hk : p) : idxP m (l.map f).length p := .mk h0 (by simpa using h1) hk
theorem ixm1 {f : α → AV} {l : List α} {m : Int} (h0 : 0 ≤ m) (h1 : m ≤ (l.length : Int)) (hk : p) : idxP m ((l.map f).length + 1) p := .mk h0 (by simp; omega) hk
section
variable {KN : Nat → Prop}
theorem jk {k len : Nat} (h : k < len) (hk : KN k) : idxN (k : Int) len KN := .mk k (by omega) (by omega) (by omega) hk
theorem jkm {f : α → AV} {l : List α} {k : Nat} (h : k < l.length) (hk : KN k) : idxN (k : Int) (l.map f).length KN := jk (by simpa using h) hk
theorem jkm1 {f : α → AV} {l : List α} {k : Nat} (h : k ≤ l.length) (hk : KN k) : idxN (k : Int) ((l.map f).length + 1) KN := jk (by simp; omega) hk
theorem jp {k len : Nat} (h : k + 1 < len) (hk : KN (k + 1)) : idxN ((k : Int) + 1) len KN := .mk (k + 1) (by omega) (by omega) (by omega) hk
theorem jpm {f : α → AV} {l : List α} {k : Nat} (h : k + 1 < l.length) (hk : KN (k + 1)) : idxN ((k : Int) + 1) (l.map f).length KN := jp (by simpa using h) hk
theorem jpm1 {f : α → AV} {l : List α} {k : Nat} (h : k + 1 ≤ l.length) (hk : KN (k + 1)) : idxN ((k : Int) + 1) ((l.map f).length + 1) KN := jp (by simp; omega) hk
theorem jm {k len : Nat} (h0 : 0 < k) (h : k - 1 < len) (hk : KN (k - 1)) : idxN ((k : Int) - 1) len KN := .mk (k - 1) (by omega) (by omega) (by omega) hk
theorem jmm {f : α → AV} {l : List α} {k : Nat} (h0 : 0 < k) (h : k - 1 < l.length) (hk : KN (k - 1)) : idxN ((k : Int) - 1) (l.map f).length KN := jm h0 (by simpa using h) hk
theorem jq {k len : Nat} (h : k < len) (hk : KN k) : idxN ((k : Int) + 1 - 1) len KN := .mk k (by omega) (by omega) (by omega) hk
theorem jqm {f : α → AV} {l : List α} {k : Nat} (h : k < l.length) (hk : KN k) : idxN ((k : Int) + 1 - 1) (l.map f).length KN := jq (by simpa using h) hk
theorem jn {m : Int} {len : Nat} (h0 : 0 ≤ m) (h1 : m < (len : Int)) (hk : KN m.toNat) : idxN m len KN := .mk _ h0 h1 rfl hk
theorem jnm {f : α → AV} {l : List α} {m : Int} (h0 : 0 ≤ m) (h1 : m < (l.length : Int)) (hk : KN m.toNat) : idxN m (l.map f).length KN := jn h0 (by simpa using h1) hk
theorem jnm1 {f : α → AV} {l : List α} {m : Int} (h0 : 0 ≤ m) (h1 : m ≤ (l.length : Int)) (hk : KN m.toNat) : idxN m ((l.map f).length + 1) KN := jn h0 (by simp; omega) hk
end
theorem lm {f : α → AV} {l : List α} {K : Nat → Prop} (hk : K l.length) : lenP (l.map f) K := .mk _ (by simp) hk
theorem ea {f : α → AV} {l : List α} {x : α} (hk : KL ((l ++ [x]).map f)) : eqL (l.map f ++ [f x]) KL := .mk _ (by simp) hk
theorem eap {f : α → AV} {l l' : List α} (hk : KL ((l ++ l').map f)) : eqL (l.map f ++ l'.map f) KL := .mk _ (by simp) hk
theorem eset' {f : α → AV} {l : List α} {k : Nat} {x : α} (hk : KL ((l.set k x).map f)) : eqL ((l.map f).set k (f x)) KL := .mk _ (by simp [List.map_set]) hk
theorem erep0 {m : Nat} (hk : KL ((List.replicate m (0 : Int)).map i64)) : eqL (List.replicate m (.int .i64 0)) KL := .mk _ (by simp [i64]) hk
theorem esetSU {M : List (List Int)} {l : List Int} {k k' : Nat} (h : k' = k) (hk : KL ((M.set k l).map fun l => AV.sl 1 (l.map i64))) : eqL (((M.map fun l => AV.sl 1 (l.map i64)).set k .unk).set k' (.sl 1 (l.map i64))) KL := .mk _ (by subst h; rw [List.set_set, List.map_set]) hk
theorem erepS {m : Nat} (hk : KL ((List.replicate m ([] : List Int)).map fun l => AV.sl 1 (l.map i64))) : eqL (List.replicate m (.sl 1 [])) KL := .mk _ (by simp) hk
theorem erep {f : α → AV} {m : Nat} {x : α} (hk : KL ((List.replicate m x).map f)) : eqL (List.replicate m (f x)) KL := .mk _ (by simp) hk
theorem esub {f : α → AV} {l : List α} {a b : Nat} (hk : KL (((l.take b).drop a).map f)) : eqL (((l.map f).take b).drop a) KL := .mk _ (by simp [List.map_take, List.map_drop]) hk
theorem er {es : List AV} (hk : KL es) : eqL es KL := .mk _ rfl hk
theorem lemA {f : α → AV} {l : List α} {xs : List AV} {b : Nat} (h : l.length + xs.length ≤ b) (hk : p) : leP ((l.map f).length + xs.length) b p := ⟨by simpa using h, hk⟩
theorem knownSS {L : List (List Int)} : knownL (L.map fun l => .sl 1 (l.map i64)) := fun e he v hv => by
  obtain ⟨l, _, rfl⟩ := List.mem_map.1 he
  simp [cellsOf] at hv
  subst hv
  rfl
theorem knownApp {a b : List AV} (ha : knownL a) (hb : knownL b) : knownL (a ++ b) := fun e he => (List.mem_append.1 he).elim (ha e) (hb e)
theorem knownNil {n k : Nat} : knownL ((List.replicate n AV.nilsl).drop k) := fun e he v hv => by
  have := List.eq_of_mem_replicate (List.mem_of_mem_drop he)
  subst this
  simp [cellsOf] at hv
  subst hv
  rfl
theorem lem1 {f : α → AV} {l : List α} {x : AV} (h : l.length + 1 ≤ 1099511627776) (hk : p) : leP ((l.map f).length + [x].length) big p := ⟨by simpa [big] using h, hk⟩
theorem lem2 {β : Type} {f : α → AV} {g : β → AV} {l : List α} {l' : List β} (h : l.length + l'.length ≤ 1099511627776) (hk : p) : leP ((l.map f).length + (l'.map g).length) big p := ⟨by simpa [big] using h, hk⟩
theorem lem0 {β : Type} {g : β → AV} {l' : List β} (h : l'.length ≤ 1099511627776) (hk : p) : leP (l'.map g).length big p := ⟨by simpa [big] using h, hk⟩
theorem atS {tab : List Ent} {σ : List Nat} {args : List AV} {p i k sz : Nat} {L : List (List Int)} (h : k < L.length) (h1 : nth args p = some (.sub i k)) (h2 : idx σ i = none) (h3 : ent tab i = .row .nest sz (L.map fun l => .sl 1 (l.map i64))) : subAt σ tab args p (.sl 1 (L[k].map i64)) :=
  ⟨i, k, h1, h2, sz, _, 1, _, h3, nth_map h, rfl⟩
/-! loops -/
theorem loop_ind {β : Type} {fz : Bool} {m : Nat} {b : (Ex → List AV → List Ent → Prop) → List AV → List Ent → Prop} {K : Ex → List AV → List Ent → Prop} {ts : List AV} {tab : List Ent}
    (T : β → List AV) (U : β → List Ent) (Inv : β → Prop) (μ : β → Nat) (a0 : β) (h0 : Inv a0) (hw : weak fz m ts tab (T a0) (U a0))
    (hs : ∀ a, Inv a → ∀ R : List AV → List Ent → Prop, (∀ a' ts' tab', Inv a' → μ a' < μ a → weak fz m ts' tab' (T a') (U a') → R ts' tab') →
      b (fun e ts' tab' => match e with | .normal => R ts' tab' | e => K e ts' tab') (T a) (U a)) : LoopW fz m b K ts tab := by
  refine ⟨fun R hR hb => ?_⟩
  have key : ∀ k a, μ a < k → Inv a → R (T a) (U a) := by
    intro k
    induction k with
    | zero => intro a h; omega
    | succ k ih =>
      intro a h hi
      exact hb _ _ (hs a hi R fun a' ts' tab' h1 h2 h3 => hR _ _ _ _ h3 (ih a' (by omega) h1))
  exact hR _ _ _ _ hw (key _ a0 (Nat.lt_succ_self _) h0)
/-- Some slots, told anew. -/
def setW : List (Nat × AV) → List AV → (List AV → Prop) → Prop
  | [], ts, k => k ts
  | (i, v) :: vs, ts, k => lset ts i v fun ts' => setW vs ts' k
def setE : List (Nat × Ent) → List Ent → (List Ent → Prop) → Prop
  | [], ts, k => k ts
  | (i, v) :: vs, ts, k => eset ts i v fun ts' => setE vs ts' k
def setL (vs : List (Nat × AV)) (ts : List AV) : List AV := vs.foldl (fun ts p => ts.set p.1 p.2) ts
def setR (vs : List (Nat × Ent)) (ts : List Ent) : List Ent := vs.foldl (fun ts p => ts.set p.1 p.2) ts
theorem setW_iff : ∀ {vs : List (Nat × AV)} {ts : List AV} {k : List AV → Prop}, setW vs ts k → k (setL vs ts)
  | [], _, _, h => h
  | _ :: vs, _, _, h => setW_iff (vs := vs) (lset_spec h).2
theorem setE_iff : ∀ {vs : List (Nat × Ent)} {ts : List Ent} {k : List Ent → Prop}, setE vs ts k → k (setR vs ts)
  | [], _, _, h => h
  | _ :: vs, _, _, h => setE_iff (vs := vs) (eset_spec h).2
/-- A round's end. -/
structure RdE (p q : Prop) : Prop where
  inv : p
  dec : q
theorem loop_up {β : Type} {fz : Bool} {m : Nat} {b : (Ex → List AV → List Ent → Prop) → List AV → List Ent → Prop} {K : Ex → List AV → List Ent → Prop} {ts : List AV} {tab : List Ent}
    (T : β → List (Nat × AV)) (U : β → List (Nat × Ent)) (ext : List Nat) (Inv : β → Prop) (μ : β → Nat) (a0 : β) (h0 : Inv a0)
    (hw : setW (T a0) ts fun ts' => lnorm (tab ++ newR ext) fun tab0 => setE (U a0) tab0 fun tab' => weak fz m ts tab ts' tab')
    (hs : ∀ a, Inv a → ∀ R : List AV → List Ent → Prop, (∀ a' ts' tab', RdE (Inv a') (μ a' < μ a) → (setW (T a') ts fun ts2 => lnorm (tab ++ newR ext) fun tab0 => setE (U a') tab0 fun tab2 => weak fz m ts' tab' ts2 tab2) → R ts' tab') →
      setW (T a) ts fun ts1 => lnorm (tab ++ newR ext) fun tab0 => setE (U a) tab0 fun tab1 => b (fun e ts' tab' => match e with | .normal => R ts' tab' | e => K e ts' tab') ts1 tab1) : LoopW fz m b K ts tab :=
  loop_ind (fun a => setL (T a) ts) (fun a => setR (U a) (tab ++ newR ext)) Inv μ a0 h0 (setE_iff (lnorm_iff (setW_iff hw))) fun a hi R hR =>
    have hh := hs a hi R fun a' ts' tab' h1 h3 => hR a' ts' tab' h1.inv h1.dec (setE_iff (lnorm_iff (setW_iff h3)))
    setE_iff (lnorm_iff (setW_iff hh))
/-! ends -/
theorem dv0 {fz : Bool} {v r : AV} {tab : List Ent} (hp : pure3 r = true) (hl : le3 [] (cut3 [] v) r) : doneV fz 0 r [] false v tab := .mk [] [] rfl rfl hl trivial ⟨hp, trivial⟩
end
def isl (l : List Int) : AV := .sl 1 (l.map i64)
end Sx

/- Arguments of laws, as lists of one's own. -/
set_option linter.unusedVariables false
namespace Sx
open Go
section
variable {P : Program} {α : Type}
theorem Reads.imp {t : TypeId} {R R' : AV → Prop} (h : Reads P t R) (hi : ∀ x, R x → R' x) : Reads P t R' := by
  intro H enc w fuel cs x hx
  obtain ⟨e, h1, h2⟩ := h enc w fuel cs x hx
  exact ⟨e, hi e h1, h2⟩
theorem list_map {f : α → AV} {Q : α → Prop} : ∀ {es : List AV}, (∀ y ∈ es, ∃ a, Q a ∧ y = f a) → ∃ l : List α, (∀ a ∈ l, Q a) ∧ es = l.map f
  | [], _ => ⟨[], nofun, rfl⟩
  | e :: es, h => by
    obtain ⟨a, h1, rfl⟩ := h e (List.mem_cons_self ..)
    obtain ⟨l, h2, rfl⟩ := list_map (es := es) fun y hy => h y (List.mem_cons_of_mem _ hy)
    exact ⟨a :: l, fun b hb => by
      rcases List.mem_cons.1 hb with rfl | hb
      · exact h1
      · exact h2 b hb, rfl⟩
def inInt (n : Int) : Prop := -9223372036854775808 ≤ n ∧ n ≤ 9223372036854775807
def RF (f : α → AV) (Q : α → Prop) (x : AV) : Prop := ∃ a, Q a ∧ x = f a
def okL (Q : α → Prop) (l : List α) : Prop := (∀ a ∈ l, Q a) ∧ l.length ≤ 9223372036854775807
theorem reads_i {t : TypeId} (hu : P.underlying t = some (.int .i64)) : Reads P t (RF i64 inInt) := Reads.imp (reads_int hu) fun x ⟨n, h1, h2, h3⟩ => ⟨n, ⟨h1, h2⟩, h3⟩
theorem reads_b {t : TypeId} (hu : P.underlying t = some .bool) : Reads P t (RF bv fun _ => True) := Reads.imp (reads_bool hu) fun x ⟨b, h⟩ => ⟨b, trivial, h⟩
theorem reads_s {t : TypeId} (hu : P.underlying t = some .string) : Reads P t (RF AV.str fun s => s.length ≤ 9223372036854775807) := Reads.imp (reads_string hu) fun _ ⟨s, h1, h2⟩ => ⟨s, by unfold maxLen at h1; exact h1, h2⟩
theorem reads_l {t e : TypeId} {sz : Nat} {f : α → AV} {Q : α → Prop} (hu : P.underlying t = some (.slice e)) (hs : P.cellsOf e = sz) (hp : 0 < sz) (he : Reads P e (RF f Q)) : Reads P t (RF (fun l => .sl sz (l.map f)) (okL Q)) := by
  subst hs
  refine Reads.imp (reads_slice hu he hp) fun x ⟨es, h1, h2, h3⟩ => ?_
  obtain ⟨l, h4, rfl⟩ := list_map h2
  exact ⟨l, ⟨h4, by unfold maxLen at h3; simpa using h3⟩, h1⟩
def sfields (P : Program) (t : TypeId) : Array Field := match P.underlying t with
  | some (.struct fs) => fs
  | _ => #[]
def FieldsT (P : Program) : List (TypeId × Nat) → Nat → Nat → List (AV → Prop) → Prop
  | [], off, n, [] => off = n
  | (t, o) :: fs, off, n, R :: Rs => o = off ∧ Reads P t R ∧ FieldsT P fs (off + P.cellsOf t) n Rs
  | _, _, _, _ => False
theorem fieldsT : ∀ {fs : List Field} {l : List (TypeId × Nat)} {off n : Nat} {Rs : List (AV → Prop)}, fs.map (fun f => (f.type, f.offset)) = l → FieldsT P l off n Rs → FieldsR P fs off n Rs
  | [], _, _, _, Rs, rfl, h => by cases Rs <;> exact h
  | f :: fs, _, off, n, [], rfl, h => h
  | f :: fs, _, off, n, R :: Rs, rfl, ⟨h1, h2, h3⟩ => ⟨h1, h2, fieldsT rfl h3⟩
theorem reads_st {t : TypeId} {l : List (TypeId × Nat)} {Rs : List (AV → Prop)} {R : AV → Prop} (hu : P.underlying t = some (.struct (sfields P t))) (hl : (sfields P t).toList.map (fun f => (f.type, f.offset)) = l) (hf : FieldsT P l 0 (P.cellsOf t) Rs) (hi : ∀ vs, Parts Rs vs → R (.agg vs)) : Reads P t R :=
  Reads.imp (reads_struct hu (fieldsT hl hf)) fun _ ⟨vs, h1, h2⟩ => h1 ▸ hi vs h2
/-- An argument that is no struct. -/
theorem arg_atom {t : TypeId} {R : AV → Prop} {ts : List TypeId} {Rs : List (AV → Prop)} (h : Reads P t R) (hk : atomT (P.underlying t) = true) (hs : structT (P.underlying t) = false) (hr : ∀ e, R e → ∀ cs, e ≠ .agg cs) (rest : ArgsR P ts Rs) : ArgsR P (t :: ts) (R :: Rs) :=
  ⟨⟨h, by simp [kindOk, hk], fun _ => hr, fun h => by rw [hs] at h; cases h⟩, rest⟩
theorem arg_struct {t : TypeId} {R : AV → Prop} {ts : List TypeId} {Rs : List (AV → Prop)} (h : Reads P t R) (hk : atomT (P.underlying t) = false) (hs : structT (P.underlying t) = true) (hr : ∀ e, R e → ∃ cs, e = .agg cs) (rest : ArgsR P ts Rs) : ArgsR P (t :: ts) (R :: Rs) :=
  ⟨⟨h, by simp [kindOk, hs], fun h => by (rw [hk] at h; cases h), fun _ => hr⟩, rest⟩
theorem len1 {β : Type _} {Q : List β → Prop} {n : Nat} (hn : n = 1) (h : ∀ a0, Q [a0]) : ∀ ds : List β, ds.length = n → Q ds := by
  subst hn
  intro ds hd
  rcases ds with _ | ⟨a0, r0⟩
  · simp at hd
  rcases r0 with _ | ⟨b, r⟩
  · exact h a0
  · simp at hd
theorem all1 {R0 : AV → Prop} {Q : List AV → Prop} (h : ∀ a0, R0 a0 → Q [a0]) : ∀ es, AllR [R0] es → Q es := by
  intro es he
  rcases es with _ | ⟨a0, r0⟩
  · exact he.elim
  rcases r0 with _ | ⟨b, r⟩
  · exact h a0 he.1
  · exact he.2.elim
theorem len2 {β : Type _} {Q : List β → Prop} {n : Nat} (hn : n = 2) (h : ∀ a0 a1, Q [a0, a1]) : ∀ ds : List β, ds.length = n → Q ds := by
  subst hn
  intro ds hd
  rcases ds with _ | ⟨a0, r0⟩
  · simp at hd
  rcases r0 with _ | ⟨a1, r1⟩
  · simp at hd
  rcases r1 with _ | ⟨b, r⟩
  · exact h a0 a1
  · simp at hd
theorem all2 {R0 R1 : AV → Prop} {Q : List AV → Prop} (h : ∀ a0 a1, R0 a0 → R1 a1 → Q [a0, a1]) : ∀ es, AllR [R0, R1] es → Q es := by
  intro es he
  rcases es with _ | ⟨a0, r0⟩
  · exact he.elim
  rcases r0 with _ | ⟨a1, r1⟩
  · exact he.2.elim
  rcases r1 with _ | ⟨b, r⟩
  · exact h a0 a1 he.1 he.2.1
  · exact he.2.2.elim
theorem len3 {β : Type _} {Q : List β → Prop} {n : Nat} (hn : n = 3) (h : ∀ a0 a1 a2, Q [a0, a1, a2]) : ∀ ds : List β, ds.length = n → Q ds := by
  subst hn
  intro ds hd
  rcases ds with _ | ⟨a0, r0⟩
  · simp at hd
  rcases r0 with _ | ⟨a1, r1⟩
  · simp at hd
  rcases r1 with _ | ⟨a2, r2⟩
  · simp at hd
  rcases r2 with _ | ⟨b, r⟩
  · exact h a0 a1 a2
  · simp at hd
theorem all3 {R0 R1 R2 : AV → Prop} {Q : List AV → Prop} (h : ∀ a0 a1 a2, R0 a0 → R1 a1 → R2 a2 → Q [a0, a1, a2]) : ∀ es, AllR [R0, R1, R2] es → Q es := by
  intro es he
  rcases es with _ | ⟨a0, r0⟩
  · exact he.elim
  rcases r0 with _ | ⟨a1, r1⟩
  · exact he.2.elim
  rcases r1 with _ | ⟨a2, r2⟩
  · exact he.2.2.elim
  rcases r2 with _ | ⟨b, r⟩
  · exact h a0 a1 a2 he.1 he.2.1 he.2.2.1
  · exact he.2.2.2.elim
theorem len4 {β : Type _} {Q : List β → Prop} {n : Nat} (hn : n = 4) (h : ∀ a0 a1 a2 a3, Q [a0, a1, a2, a3]) : ∀ ds : List β, ds.length = n → Q ds := by
  subst hn
  intro ds hd
  rcases ds with _ | ⟨a0, r0⟩
  · simp at hd
  rcases r0 with _ | ⟨a1, r1⟩
  · simp at hd
  rcases r1 with _ | ⟨a2, r2⟩
  · simp at hd
  rcases r2 with _ | ⟨a3, r3⟩
  · simp at hd
  rcases r3 with _ | ⟨b, r⟩
  · exact h a0 a1 a2 a3
  · simp at hd
theorem all4 {R0 R1 R2 R3 : AV → Prop} {Q : List AV → Prop} (h : ∀ a0 a1 a2 a3, R0 a0 → R1 a1 → R2 a2 → R3 a3 → Q [a0, a1, a2, a3]) : ∀ es, AllR [R0, R1, R2, R3] es → Q es := by
  intro es he
  rcases es with _ | ⟨a0, r0⟩
  · exact he.elim
  rcases r0 with _ | ⟨a1, r1⟩
  · exact he.2.elim
  rcases r1 with _ | ⟨a2, r2⟩
  · exact he.2.2.elim
  rcases r2 with _ | ⟨a3, r3⟩
  · exact he.2.2.2.elim
  rcases r3 with _ | ⟨b, r⟩
  · exact h a0 a1 a2 a3 he.1 he.2.1 he.2.2.1 he.2.2.2.1
  · exact he.2.2.2.2.elim
theorem len5 {β : Type _} {Q : List β → Prop} {n : Nat} (hn : n = 5) (h : ∀ a0 a1 a2 a3 a4, Q [a0, a1, a2, a3, a4]) : ∀ ds : List β, ds.length = n → Q ds := by
  subst hn
  intro ds hd
  rcases ds with _ | ⟨a0, r0⟩
  · simp at hd
  rcases r0 with _ | ⟨a1, r1⟩
  · simp at hd
  rcases r1 with _ | ⟨a2, r2⟩
  · simp at hd
  rcases r2 with _ | ⟨a3, r3⟩
  · simp at hd
  rcases r3 with _ | ⟨a4, r4⟩
  · simp at hd
  rcases r4 with _ | ⟨b, r⟩
  · exact h a0 a1 a2 a3 a4
  · simp at hd
theorem all5 {R0 R1 R2 R3 R4 : AV → Prop} {Q : List AV → Prop} (h : ∀ a0 a1 a2 a3 a4, R0 a0 → R1 a1 → R2 a2 → R3 a3 → R4 a4 → Q [a0, a1, a2, a3, a4]) : ∀ es, AllR [R0, R1, R2, R3, R4] es → Q es := by
  intro es he
  rcases es with _ | ⟨a0, r0⟩
  · exact he.elim
  rcases r0 with _ | ⟨a1, r1⟩
  · exact he.2.elim
  rcases r1 with _ | ⟨a2, r2⟩
  · exact he.2.2.elim
  rcases r2 with _ | ⟨a3, r3⟩
  · exact he.2.2.2.elim
  rcases r3 with _ | ⟨a4, r4⟩
  · exact he.2.2.2.2.elim
  rcases r4 with _ | ⟨b, r⟩
  · exact h a0 a1 a2 a3 a4 he.1 he.2.1 he.2.2.1 he.2.2.2.1 he.2.2.2.2.1
  · exact he.2.2.2.2.2.elim
end
end Sx
