/- A symbolic executor for function bodies, proved sound: part 2 of 3. No condition. -/
import Derived.Test.YteaabofmnlbmkaaSxA
import Derived.Laws.Tables
import Derived.Laws.MakeOwn
import Derived.Lib.ConvBytes
import Derived.Laws.BytesArg
import Derived.Laws.StructEq
import Derived.Orders
set_option linter.all false
/- Soundness of append to nested rows; of append as a whole. -/
namespace Sx
open Go Go.RowKit
section
variable {E : Env} {tab : List Ent} {P : Program} {w : World} {Γ : Ctx} {ts : List AV} {a : Act}
theorem OwnCell.move {E' : Env} {Z Z' : Nat → Prop} {w' : World} {i j i' j' : Nat} {v : AV} {c : Value} (h : OwnCell E Z w i j v c)
    (hm : ∀ b, Z b → b < w.heap.size → Z' b ∧ w'.heap[b]? = w.heap[b]?)
    (hk : ∀ b, E.O b = some (i, some j) → E'.O b = some (i', some j') ∧ w'.heap[b]? = w.heap[b]?) : OwnCell E' Z' w' i' j' v c := by
  cases v with
  | sl sz es =>
    obtain ⟨b, ⟨a', cap, h1, h2, h3⟩, h4, h5, h6⟩ := h
    refine ⟨b, ⟨a', cap, h1, h2, h3.imp id fun ⟨q1, q2, cs, ty, fr, q3, q4, q5⟩ => ⟨q1, (hk b q2).1, cs, ty, fr, (hk b q2).2.trans q3, q4, q5⟩⟩, h4, h5, fun hne => ?_⟩
    obtain ⟨q1, cs, ty, fr, q2, q3, q4, q5⟩ := h6 hne
    exact ⟨(hk b q1).1, cs, ty, fr, (hk b q1).2.trans q2, q3, q4, fun j t e v e1 e2 => let ⟨c, e3, e4⟩ := q5 j t e v e1 e2; ⟨c, e3, e4.mono hm⟩⟩
  | _ => exact h
theorem app_nest (s : Sat Γ E ts tab a w) {t t2 ty elem : TypeId} (T : AppTy P t t2 elem 1) {i i2 len : Nat} {c x : Value} {es xs : List AV} {news : List Value} (hne2 : i ≠ i2)
    (hs : SlOf E w (i, none) (E.L i) 1 0 len c) (hl : es.length = len) (he : elemsOk 1 es) (hr : es ≠ [] → RowOK E w (i, none) (E.L i) 1 es fun j v c => OwnCell E (zone Γ E) w i j v c)
    (S : Src P w t2 1 xs x news fun j v c => OwnCell E (zone Γ E) w i2 j v c) (hbig : len + xs.length ≤ big)
    {tabD : List Ent} (hlD : tabD.length = tab.length) (hD : ∀ q, q = i ∨ q = i2 → ent tabD q = .dead) (hN : ∀ q, ¬ (q = i ∨ q = i2) → ent tabD q = ent tab q) :
    ∃ c' w' E', (Builtin.append_ #[t, t2] ty #[c, x]).run P w = .ok c' w' ∧ Sat Γ E' ts (tabD ++ [.row .nest 1 (es ++ xs)]) a w' ∧ V E' (zone Γ E') (tabD ++ [.row .nest 1 (es ++ xs)]) w' (.loc tabD.length) c' := by
  have hn : ent (tabD ++ [.row .nest 1 (es ++ xs)]) tabD.length = .row .nest 1 (es ++ xs) := by rw [ent_snoc, if_pos rfl]
  have hhi : ∀ q, tab.length ≤ q → q ≠ tabD.length → ent (tabD ++ [.row .nest 1 (es ++ xs)]) q = .dead := fun q hi h => by
    rw [ent_eq, List.getElem?_eq_none (by simp; omega)]; rfl
  have hlen : (es ++ xs).length = len + xs.length := by rw [List.length_append, hl]
  obtain ⟨a', cap, rfl, hle, hx'⟩ := id hs
  -- the owners behind the append; blk: the row's own block
  have step : ∀ (blk : Nat) (w' : World) (cs : Array Value) (ty3 : TypeId) (fr : Nat × Nat), (E.O blk = some (i, none) ∨ (E.O blk = none ∧ w.heap.size ≤ blk)) → w'.heap[blk]? = some (.cells cs ty3 fr) → unfr cs fr → (len + xs.length) * 1 ≤ cs.size →
      (∀ b, b ≠ blk → b < w.heap.size → w'.heap[b]? = w.heap[b]?) → blk < w'.heap.size → w'.os = w.os → w'.tape = w.tape → w'.output = w.output → w.heap.size ≤ w'.heap.size →
      (∀ (j t : Nat) (e v : AV), es[j]? = some e → (cellsOf e)[t]? = some v → ∃ c, cs[j * 1 + t]? = some c ∧ OwnCell E (zone Γ E) w i j v c) →
      (∀ (j t : Nat) (e v : AV), xs[j]? = some e → (cellsOf e)[t]? = some v → ∃ c, cs[(len + j) * 1 + t]? = some c ∧ OwnCell E (zone Γ E) w i2 j v c) →
      ∃ E' : Env, E'.O blk = some (tabD.length, none) ∧ E'.L tabD.length = blk ∧ Sat Γ E' ts (tabD ++ [.row .nest 1 (es ++ xs)]) a w' := by
    intro blk w' cs ty3 fr hblk hh hu hsz hoth hbs hos htape hout hsize hc1 hc2
    let E' : Env := ⟨fun b => if b = blk then some (tabD.length, none) else match E.O b with
      | some (q, some j) => if q = i then some (tabD.length, some j) else if q = i2 then some (tabD.length, some (len + j)) else some (q, some j)
      | o => o, fun q => if q = tabD.length then blk else E.L q⟩
    have hE : ∀ b, b ≠ blk → E'.O b = (match E.O b with
      | some (q, some j) => if q = i then some (tabD.length, some j) else if q = i2 then some (tabD.length, some (len + j)) else some (q, some j)
      | o => o) := fun b h => by show (if _ then _ else _) = _; rw [if_neg h]
    have hOb : E'.O blk = some (tabD.length, none) := by show (if _ then _ else _) = _; rw [if_pos rfl]
    have hLn : E'.L tabD.length = blk := by show (if _ then _ else _) = _; rw [if_pos rfl]
    have hLo : ∀ q, q < tab.length → E'.L q = E.L q := fun q hi => by show (if _ then _ else _) = _; rw [if_neg (by omega)]
    have hne : ∀ b y, E.O b = some y → y ≠ (i, none) → b ≠ blk := fun b y h hy e => by
      subst e
      rcases hblk with hb | ⟨hb, hb2⟩
      · rw [hb] at h; exact hy (by cases h; rfl)
      · rw [hb] at h; cases h
    have hi1 : ∀ b j, E.O b = some (i, some j) → E'.O b = some (tabD.length, some j) ∧ w'.heap[b]? = w.heap[b]? := fun b j h => by
      have hb := hne b _ h (by intro e; cases e)
      exact ⟨by rw [hE b hb, h]; simp, hoth b hb (s.own b _ h)⟩
    have hi2 : ∀ b j, E.O b = some (i2, some j) → E'.O b = some (tabD.length, some (len + j)) ∧ w'.heap[b]? = w.heap[b]? := fun b j h => by
      have hb := hne b _ h (by intro e; cases e)
      exact ⟨by rw [hE b hb, h]; simp [Ne.symm hne2], hoth b hb (s.own b _ h)⟩
    obtain ⟨p, s'⟩ := s.remake (E' := E') (tabD := tabD) (tl := [.row .nest 1 (es ++ xs)]) (w' := w') (fun q => q = i ∨ q = i2) (fun _ => False) (fun _ h => h.elim) hlD hD hN
      (fun b h hb => by
        have hb' : b ≠ blk := fun e => by
          subst e
          rcases hblk with hb2 | ⟨_, hb2⟩
          · rw [hb2] at h; cases h
          · omega
        exact ⟨by rw [hE b hb', h], hoth b hb' hb⟩)
      (fun q hq _ => hLo q hq)
      (fun b q y h hd _ => by
        have hb := hne b _ h (by intro e; cases e; exact hd (.inl rfl))
        refine ⟨?_, hoth b hb (s.own b _ h)⟩
        rw [hE b hb, h]
        cases y with
        | none => rfl
        | some j =>
          show (if q = i then some (tabD.length, some j) else if q = i2 then some (tabD.length, some (len + j)) else some (q, some j)) = _
          rw [if_neg (fun e => hd (.inl e)), if_neg (fun e => hd (.inr e))])
      (fun p q hq => by
        have hq : tab.length ≤ q := hq.elim id fun ⟨_, _, _, h, _⟩ => h.elim
        by_cases h2 : q = tabD.length
        · subst h2
          rw [hn]
          refine ⟨elemsOk_append he S.elems, fun _ => rfl, nofun, nofun, fun _ => ?_⟩
          rw [hLn]
          refine ⟨hOb, cs, ty3, fr, hh, hu, by rw [hlen]; exact hsz, ?_⟩
          refine cell_parts (X := fun j v c => OwnCell E' (zone Γ E') w' tabD.length j v c) (olds := fun q => cs[q]?) (news := fun q => cs[len * 1 + q]?) (all := fun q => cs[q]?) he S.elems (fun j t e v h3 h4 => ?_) (fun j t e v h3 h4 => ?_) (fun q _ => rfl) (fun q _ => by rw [hl])
          · obtain ⟨c, h5, h6⟩ := hc1 j t e v h3 h4
            exact ⟨c, h5, OwnCell.move h6 p.imm fun b hb => hi1 b j hb⟩
          · obtain ⟨c, h5, h6⟩ := hc2 j t e v h3 h4
            refine ⟨c, ?_, ?_⟩
            · rw [← h5]; congr 1; omega
            · rw [hl]; exact OwnCell.move h6 p.imm fun b hb => hi2 b j hb
        · rw [hhi q hq h2]; trivial)
      (fun b y h => by
        by_cases hb : b = blk
        · subst hb; exact hbs
        · rw [hE b hb] at h
          cases ho : E.O b with
          | none => rw [ho] at h; cases h
          | some z => have := s.own b z ho; omega) hos htape hout hsize
    exact ⟨E', hOb, hLn, s'⟩
  by_cases hroom : len + xs.length ≤ cap
  · by_cases hcap : cap = 0
    · have hx0 : xs = [] := List.eq_nil_of_length_eq_zero (by omega)
      have he0 : es = [] := List.eq_nil_of_length_eq_zero (by omega)
      subst hx0; subst he0
      have hl0 : len = 0 := by simpa using hl.symm
      subst hl0; subst hcap
      have hnews : news = [] := List.eq_nil_of_length_eq_zero (by simpa using S.num)
      subst hnews
      have hrun := append_room (P := P) (w := w) (ty := ty) T (a := a') (len := 0) (cap := 0) S.len (by simpa using S.cells w.drawn) (by simp) (w' := w) (by cases a' <;> simp [storeCells])
      obtain ⟨p, s'⟩ := s.remake (E' := E) (tabD := tabD) (tl := [.row .nest 1 ([] ++ [])]) (w' := w) (fun q => q = i ∨ q = i2) (fun _ => False) (fun _ h => h.elim) hlD hD hN (fun b h _ => ⟨h, rfl⟩) (fun _ _ _ => rfl) (fun b i x h _ _ => ⟨h, rfl⟩) (fun p q hq => by
          have hq : tab.length ≤ q := hq.elim id fun ⟨_, _, _, h, _⟩ => h.elim
          by_cases h2 : q = tabD.length
          · subst h2; rw [hn]; exact ⟨(by intro e h; cases h), fun _ => rfl, nofun, nofun, fun h => (h rfl).elim⟩
          · rw [hhi q hq h2]; trivial) s.own rfl rfl rfl (Nat.le_refl _)
      refine ⟨_, w, E, hrun, s', .loc _ _ (by simp) fun k2 sz2 es2 h => ?_⟩
      rw [hn] at h; cases h
      exact ⟨a', 0, rfl, Nat.le_refl _, .inl rfl⟩
    · obtain ⟨rfl, ho, cs, ty2, fr, hh, hu, hsz⟩ := hx'.resolve_left hcap
      rw [Nat.zero_mul] at *
      rw [Nat.zero_add] at hsz
      have hfit : len * 1 + news.length ≤ cs.size := by rw [S.num]; omega
      obtain ⟨w', hst, hw⟩ := storeCells_run (P := P) hh hu hfit S.one
      have hrun := append_room (P := P) (w := w) (ty := ty) T (a := some ⟨E.L i, 0, none⟩) S.len (by simpa using S.cells w.drawn) hroom (w' := w') (by show (storeCells ((⟨E.L i, 0, none⟩ : Addr).add (len * 1)) news).run P w = _; rw [addr_add, Nat.zero_add]; exact hst)
      have hu' : unfr (wrote cs (len * 1) news) fr := fun q hq => hu q (by simpa [wrote_size] using hq)
      obtain ⟨E', h1, h2, s'⟩ := step (E.L i) w' _ ty2 fr (.inl ho) hw.here hu' (by rw [wrote_size]; omega) (fun b hb _ => hw.other b hb) (by rw [hw.size]; exact s.own _ _ ho) hw.os hw.tape hw.output (by rw [hw.size]; exact Nat.le_refl _)
        (fun j t e v h3 h4 => by
          obtain ⟨_, cs3, ty3, fr3, hh3, _, _, hc3⟩ := hr (ne_nil_of_get h3)
          rw [hh] at hh3; cases hh3
          obtain ⟨c, h5, h6⟩ := hc3 j t e v h3 h4
          have hj := (List.getElem?_eq_some_iff.1 h3).1
          have ht := (List.getElem?_eq_some_iff.1 h4).1
          rw [he e (mem_of_get h3)] at ht
          refine ⟨c, ?_, h6⟩
          rw [wrote_get _ _ _ _ hfit, if_neg (by omega)]
          exact h5)
        (fun j t e v h3 h4 => by
          obtain ⟨c, h5, h6⟩ := S.cell j t e v h3 h4
          have hj := (List.getElem?_eq_some_iff.1 h3).1
          have ht := (List.getElem?_eq_some_iff.1 h4).1
          rw [S.elems e (mem_of_get h3)] at ht
          refine ⟨c, ?_, h6⟩
          rw [wrote_get _ _ _ _ hfit, if_pos (by rw [S.num]; omega), ← h5]
          congr 1
          omega)
      refine ⟨_, w', E', hrun, s', .loc _ _ (by simp) fun k2 sz2 es2 h => ?_⟩
      rw [hn] at h; cases h
      rw [hlen, h2]
      exact ⟨_, cap, rfl, hroom, .inr ⟨by simp, h1, _, ty2, fr, hw.here, hu', by rw [wrote_size]; omega⟩⟩
  · obtain ⟨old, ho1, ho2, ho3⟩ := old_cells (P := P) (Cell := fun j v c => OwnCell E (zone Γ E) w i j v c) T.hx hs hl he (fun j t e v c _ _ h3 => h3.one) hr
    obtain ⟨newCap, rest, h1, h2, hrun⟩ := append_grow (P := P) (w := w) (ty := ty) T (old := old) S.len (S.cells _) (ho1 _) (by omega) hbig
    have hsize : (old ++ news ++ rest).length = newCap * 1 := by
      rw [List.length_append, List.length_append, ho2, S.num, h2]; omega
    have new_ : (w.drew.alloc (.cells (old ++ news ++ rest).toArray elem)).heap[w.heap.size]? = some (.cells (old ++ news ++ rest).toArray elem (0, 0)) := heap_alloc_new w.drew _
    obtain ⟨E', h3, h4, s'⟩ := step w.heap.size (w.drew.alloc (.cells (old ++ news ++ rest).toArray elem)) (old ++ news ++ rest).toArray elem (0, 0) (.inr ⟨by
        cases ho : E.O w.heap.size with
        | none => rfl
        | some y => have := s.own _ y ho; omega, Nat.le_refl _⟩) new_ (fun q _ => by simp) (by rw [List.size_toArray, hsize]; omega) (fun b _ hb => Below.heap_alloc w.drew _ b hb) (by simp) rfl rfl rfl (by simp)
      (fun j t e v h5 h6 => by
        obtain ⟨c, h7, h8⟩ := ho3 j t e v h5 h6
        refine ⟨c, ?_, h8⟩
        have := (List.getElem?_eq_some_iff.1 h7).1
        simp only [List.getElem?_toArray, List.append_assoc]
        rw [List.getElem?_append_left this]; exact h7)
      (fun j t e v h5 h6 => by
        obtain ⟨c, h7, h8⟩ := S.cell j t e v h5 h6
        refine ⟨c, ?_, h8⟩
        have := (List.getElem?_eq_some_iff.1 h7).1
        simp only [List.getElem?_toArray, List.append_assoc]
        rw [List.getElem?_append_right (by rw [ho2]; omega), ho2, show (len + j) * 1 + t - len * 1 = j * 1 + t by omega, List.getElem?_append_left this]; exact h7)
    refine ⟨_, _, E', hrun, s', .loc _ _ (by simp) fun k2 sz2 es2 h => ?_⟩
    rw [hn] at h; cases h
    rw [hlen, h4]
    exact ⟨_, newCap, rfl, h1, .inr ⟨by simp, h3, _, elem, (0, 0), new_, fun q _ => by simp, by rw [List.size_toArray, hsize]; omega⟩⟩
theorem dead_out {i : Nat} (h : tab.length ≤ i) : ent tab i = .dead := by rw [ent_eq, List.getElem?_eq_none h]; rfl
theorem srcN_sound {t2 : TypeId} {x : AV} {c : Value} {k : List AV → List Ent → Prop} (h : srcN P t2 x tab k) (s : Sat Γ E ts tab a w) (hv : V E (zone Γ E) tab w x c) :
    ∃ xs tab' news i2, k xs tab' ∧ Src P w t2 1 xs c news (fun j v c => OwnCell E (zone Γ E) w i2 j v c) ∧ tab'.length = tab.length ∧ ent tab' i2 = .dead ∧ (∀ q, q ≠ i2 → ent tab' q = ent tab q) ∧ i2 ≠ tab.length := by
  unfold srcN at h
  split at h
  · rename_i elem hu
    have hx : ∃ d, und P t2 = some d ∧ ∀ k, d ≠ .int k := ⟨_, hu, fun k e => by cases e⟩
    split at h
    · have := hv.nilsl_inv; subst this
      exact ⟨[], tab, [], tab.length + 1, h, src_none hx, rfl, dead_out (by omega), fun _ _ => rfl, by omega⟩
    · obtain ⟨a', rfl⟩ := hv.emp_inv
      exact ⟨[], tab, [], tab.length + 1, h, src_none hx, rfl, dead_out (by omega), fun _ _ => rfl, by omega⟩
    · rename_i i
      split at h
      · rename_i sz' es he
        obtain ⟨hi, h⟩ := eset_spec h
        have hent := s.ents i
        rw [he] at hent
        obtain ⟨h1, h2, _, _, h3⟩ := hent
        have := h2 rfl
        subst this
        obtain ⟨news, hs⟩ := src_row (P := P) hx (hv.loc_inv.2 _ _ _ he) (by omega) h1 (fun j t e v c q1 q2 q3 => OwnCell.one q3) h3
        have e1 : (es.drop 0).take es.length = es := by simp
        rw [e1] at hs
        refine ⟨_, _, news, i, h, ?_, by simp, by rw [ent_set hi, if_pos rfl], fun q hq => by rw [ent_set hi, if_neg hq], by omega⟩
        exact ⟨hs.hx, hs.len, hs.cells, hs.num, hs.one, hs.elems, fun j t e v q1 q2 => by have := hs.cell j t e v q1 q2; rwa [Nat.zero_add] at this⟩
      · exact h.elim
    · exact h.elim
  · exact h.elim
theorem appTy_of {t t2 elem : TypeId} {k : AV → Prop} (hu : und P t = some (.slice elem)) (h1 : Nat.blt 0 (siz P elem) = true) (h2 : Nat.ble (byt P elem) 64 = true) (h3 : zer P elem fun z => elemOk (siz P elem) z = true ∧ k z) (hx : ∃ d, und P t2 = some d ∧ ∀ k, d ≠ .int k) :
    AppTy P t t2 elem (siz P elem) := by
  obtain ⟨i, z, q1, q2, q3, _⟩ := zer_sound h3
  refine ⟨hu, hx, rfl, by simpa using h1, by simpa using h2, i, z, q1, q2, ?_⟩
  have := Nat.eq_of_beq_eq_true q3
  rw [ofVal_cells] at this
  exact this
theorem appendW_sound {nest : Bool} {t t2 ty : TypeId} {d x : AV} {cd cx : Value} {k : AV → List Ent → Prop} (h0 : appendW nest P t t2 d x tab k) (s : Sat Γ E ts tab a w) (hd : V E (zone Γ E) tab w d cd) (hx : V E (zone Γ E) tab w x cx) :
    ∃ v tab' c' w' E', (Builtin.append_ #[t, t2] ty #[cd, cx]).run P w = .ok c' w' ∧ k v tab' ∧ Sat Γ E' ts tab' a w' ∧ V E' (zone Γ E') tab' w' v c' := by
  unfold appendW at h0
  split at h0
  · rename_i elem hu
    obtain ⟨hp, hb, hz⟩ := h0
    obtain ⟨_, _, _, _, _, h⟩ := zer_sound hz
    have T : ∀ t2, (∃ d, und P t2 = some d ∧ ∀ k, d ≠ .int k) → AppTy P t t2 elem (siz P elem) := fun t2 hx => appTy_of hu hp hb hz hx
    have nok : cellsOk [] := fun e he => by cases he
    have eok : ∀ sz, elemsOk sz [] := fun sz e he => by cases he
    -- onto nothing
    have nil : ∀ {a' : Option Addr}, cd = .slice a' 0 0 → (match kindOf nest P elem with
      | .nest => srcN P t2 x tab fun xs tab' => leP xs.length big <| snoc tab' (.row .nest (siz P elem) xs) fun n tab'' => k (.loc n) tab''
      | _ => srcW P t2 x (siz P elem) tab fun xs => leP xs.length big <| snoc tab (.row .plain (siz P elem) xs) fun n tab'' => k (.loc n) tab'') →
      (kindOf nest P elem = .nest → siz P elem = 1) →
      ∃ v tab' c' w' E', (Builtin.append_ #[t, t2] ty #[cd, cx]).run P w = .ok c' w' ∧ k v tab' ∧ Sat Γ E' ts tab' a w' ∧ V E' (zone Γ E') tab' w' v c' := by
      intro a' hcd h h1
      subst hcd
      split at h
      · rename_i hk
        have h1 := h1 hk
        obtain ⟨xs, tab', news, i2, ⟨q1, q2⟩, S, q3, q4, q5, q6⟩ := srcN_sound h s hx
        have T1 := T t2 S.hx
        rw [h1] at T1 q2
        obtain ⟨c', w', E', r1, r2, r3⟩ := app_nest (ty := ty) (i := tab.length) (len := 0) (es := []) s T1 (Ne.symm q6) ⟨a', 0, rfl, Nat.le_refl _, .inl rfl⟩ rfl (eok 1) (fun h => (h rfl).elim) S (by omega) (tabD := tab') q3 (fun q hq => by
          by_cases e : q = i2
          · subst e; exact q4
          · have := hq.resolve_right e; subst this; rw [q5 _ e]; exact dead_out (Nat.le_refl _)) (fun q hq => q5 q fun e => hq (.inr e))
        exact ⟨_, _, c', w', E', r1, snoc_spec q2, r2, r3⟩
      · obtain ⟨xs, news, ⟨q1, q2⟩, q3, S⟩ := srcW_sound h s hx
        obtain ⟨c', w', E', r1, r2, r3⟩ := app_plain (ty := ty) (own := (tab.length, none)) (b := 0) (len := 0) (es := []) s (T t2 S.hx) ⟨a', 0, rfl, Nat.le_refl _, .inl rfl⟩ rfl (eok _) nok (fun h => (h rfl).elim) S q3 (by omega)
          (tabD := tab) (fun q => q = tab.length) (fun _ => False) (fun _ h => h.elim) rfl (fun q hq => by subst hq; exact dead_out (Nat.le_refl _)) (fun _ _ => rfl) (.inl rfl) (fun _ _ _ _ _ _ _ h => by obtain ⟨_, _, h, _⟩ := h; exact h.elim)
        exact ⟨_, _, c', w', E', r1, snoc_spec q2, r2, r3⟩
    have k1 : kindOf nest P elem = .nest → siz P elem = 1 := fun h => by
      unfold kindOf at h
      split at h
      · split at h
        · split at h
          · exact Nat.eq_of_beq_eq_true ‹_›
          · cases h
        · cases h
      · cases h
    split at h
    · have := hd.nilsl_inv
      exact nil this h k1
    · obtain ⟨a', he⟩ := hd.emp_inv
      exact nil he h k1
    · rename_i i
      split at h
      · rename_i sz es he
        obtain ⟨rfl, h⟩ := h
        obtain ⟨xs, news, ⟨q1, q2⟩, q3, S⟩ := srcW_sound h s hx
        obtain ⟨hi, q2⟩ := eset_spec q2.o
        have hent := s.ents i
        rw [he] at hent
        obtain ⟨h1, _, h2, _, h3⟩ := hent
        obtain ⟨c', w', E', r1, r2, r3⟩ := app_plain (ty := ty) s (T t2 S.hx) (hd.loc_inv.2 _ _ _ he) rfl h1 (h2 rfl) h3 S q3 q1
          (tabD := tab.set i .dead) (fun q => q = i) (fun _ => False) (fun _ h => h.elim) (by simp) (fun q hq => by subst hq; rw [ent_set hi, if_pos rfl]) (fun q hq => by rw [ent_set hi, if_neg hq]) (.inl rfl) (fun _ _ _ _ _ _ _ h => by obtain ⟨_, _, h, _⟩ := h; exact h.elim)
        exact ⟨_, _, c', w', E', r1, snoc_spec q2, r2, r3⟩
      · rename_i sz es he
        obtain ⟨rfl, h⟩ := h
        obtain ⟨xs, tab', news, i2, ⟨q1, q2⟩, S, q3, q4, q5, q6⟩ := srcN_sound h s hx
        split at q2
        · rename_i he2
          obtain ⟨hi, q2⟩ := eset_spec q2.o
          have hne : i ≠ i2 := fun e => by subst e; rw [q4] at he2; cases he2
          have hent := s.ents i
          rw [he] at hent
          obtain ⟨h1, h2, _, _, h3⟩ := hent
          have hs1 := h2 rfl
          have T1 := T t2 S.hx
          rw [hs1] at T1 q2 h1 h3
          have hsl := hd.loc_inv.2 _ _ _ he
          rw [hs1] at hsl
          obtain ⟨c', w', E', r1, r2, r3⟩ := app_nest (ty := ty) s T1 hne hsl rfl h1 h3 S q1 (tabD := tab'.set i .dead) (by simp [q3]) (fun q hq => by
            rw [ent_set hi]
            split
            · rfl
            · rename_i e; have := hq.resolve_left e; subst this; exact q4) (fun q hq => by rw [ent_set hi, if_neg fun e => hq (.inl e)]; exact q5 q fun e => hq (.inr e))
          exact ⟨_, _, c', w', E', r1, snoc_spec q2, r2, r3⟩
        · exact q2.elim
      · exact h.elim
    · rename_i i off len
      split at h
      · rename_i sz es he
        obtain ⟨rfl, rfl, h⟩ := h
        obtain ⟨xs, news, q12, q3, S⟩ := srcW_sound h s hx
        have hrm := hd.part_room _ _ _ he
        obtain ⟨hsl, hol⟩ := hd.part_inv.2 _ _ _ he
        split at q12
        · obtain ⟨n, rfl, q12⟩ := q12
          obtain ⟨q1, q2⟩ := q12
          obtain ⟨hi, q2⟩ := eset_spec q2.o
          obtain ⟨c', w', r1, r2, r3⟩ := app_inplace (ty := ty) s (T t2 S.hx) he hsl hrm S q3 q1
          exact ⟨_, _, c', w', E, r1, q2, r2, r3⟩
        obtain ⟨q1, q2⟩ := q12
        obtain ⟨hi, q2⟩ := eset_spec q2.o
        have hent := s.ents i
        rw [he] at hent
        obtain ⟨h1, _, h2, _, h3⟩ := hent
        obtain ⟨c', w', E', r1, r2, r3⟩ := app_plain (ty := ty) (es := es.take len) s (T t2 S.hx) hsl (by simp; omega) (fun e hm => h1 e (List.mem_of_mem_take hm)) (fun e hm => h2 rfl e (List.mem_of_mem_take hm))
          (fun hne => by
            obtain ⟨g1, cs, ty3, fr, g2, g3, g4, g5⟩ := h3 (by intro e; subst e; simp at hne)
            refine ⟨g1, cs, ty3, fr, g2, g3, Nat.le_trans (Nat.mul_le_mul_right _ (by simp; omega)) g4, fun j t e v e1 e2 => g5 j t e v ?_ e2⟩
            rw [List.getElem?_take] at e1
            split at e1
            · exact e1
            · cases e1) S q3 (by omega)
          (tabD := tab.set i .dead) (fun q => q = i) (fun _ => False) (fun _ h => h.elim) (by simp) (fun q hq => by subst hq; rw [ent_set hi, if_pos rfl]) (fun q hq => by rw [ent_set hi, if_neg hq]) (.inl rfl) (fun _ _ _ _ _ _ _ h => by obtain ⟨_, _, h, _⟩ := h; exact h.elim)
        exact ⟨_, _, c', w', E', r1, snoc_spec q2, r2, r3⟩
      · exact h.elim
    · rename_i i j
      split at h
      · rename_i sz es he
        replace h := optP.o h
        split at h
        · rename_i sz' es' hj
          have hj := nth_some hj
          obtain ⟨rfl, h⟩ := h
          obtain ⟨xs, news, ⟨q1, q2⟩, q3, S⟩ := srcW_sound h s hx
          obtain ⟨hi, q2⟩ := eset_spec q2.o.o
          obtain ⟨hsz, hr⟩ := (s.row he).2
          have hs1 := hsz rfl
          obtain ⟨ho, cs2, ty2, fr2, hh2, hu2, hs2, hc⟩ := hr (ne_nil_of_get hj)
          obtain ⟨c2, h3, h4⟩ := hc j 0 _ _ hj rfl
          obtain ⟨cs, ty3, fr, hh, hcj⟩ := hd.sub_inv.2 _ _ _ _ he hj
          rw [hh] at hh2; cases hh2
          rw [hs1] at h3
          simp only [Nat.mul_one, Nat.add_zero] at h3
          rw [hcj] at h3; cases h3
          obtain ⟨b, hsl, heo, hko, hro⟩ := h4
          obtain ⟨p2, s2⟩ := s.take (j := j) he
          have S2 : Src P w t2 (siz P elem) xs cx news fun _ v c => Rep (zone Γ E) w v c := S
          by_cases hb2 : E.O b = some (i, some j)
          · obtain ⟨c', w', E', r1, r2, r3⟩ := app_plain (ty := ty) s2 (T t2 S.hx) hsl rfl heo hko hro S2 q3 q1 (tabD := tab.set i (.row .nest sz (es.set j .unk))) (fun _ => False) (fun x => x = b) (fun x hx => by subst hx; exact ⟨i, j, hb2⟩) rfl (fun _ h => h.elim) (fun _ _ => rfl) (.inr rfl)
              (fun E' w' p hL hk q _ hq => by
                obtain ⟨x, y, rfl, hxy⟩ := hq
                rw [hb2] at hxy; cases hxy
                have he2 : ent (tab.set i (.row .nest sz (es.set j .unk))) i = .row .nest sz (es.set j .unk) := by rw [ent_set hi, if_pos rfl]
                have := s2.ents i
                rw [he2] at this ⊢
                obtain ⟨g1, g2, g3, g4, g5⟩ := this
                refine ⟨g1, g2, g3, g4, fun hne => ?_⟩
                obtain ⟨m1, m2, m3, m4, m5, m6, m7, m8⟩ := g5 hne
                rw [hL i (by simpa using hi)]
                have hLb : E.L i ≠ x := fun e => by rw [e, hb2] at m1; cases m1
                obtain ⟨n1, n2⟩ := hk _ _ m1 hLb
                refine ⟨n1, m2, m3, m4, n2.trans m5, m6, m7, fun j' t' e' v' e1 e2 => ?_⟩
                obtain ⟨c, e3, e4⟩ := m8 j' t' e' v' e1 e2
                refine ⟨c, e3, ?_⟩
                by_cases ejj : j' = j
                · subst ejj
                  have : e' = .unk := by
                    rw [List.getElem?_set_self (List.getElem?_eq_some_iff.1 hj).1] at e1; cases e1; rfl
                  subst this
                  have ht : t' = 0 := by have := (List.getElem?_eq_some_iff.1 e2).1; simp [cellsOf] at this; omega
                  subst ht
                  cases e2
                  exact e4
                · exact OwnCell.keep (E' := E') (w' := w') e4 p.imm fun b' hb' => hk b' _ hb' fun e => by subst e; rw [hb2] at hb'; cases hb'; exact ejj rfl)
            exact ⟨_, _, c', w', E', r1, snoc_spec q2, r2, r3⟩
          · obtain ⟨a', cap, rfl, hle, hcap⟩ := hsl
            have hcap := hcap.resolve_right fun h => hb2 h.2.1
            subst hcap
            have hes : es' = [] := List.eq_nil_of_length_eq_zero (by omega)
            subst hes
            obtain ⟨c', w', E', r1, r2, r3⟩ := app_plain (ty := ty) (own := (tab.length, none)) (b := 0) (len := 0) (es := []) s2 (T t2 S.hx) ⟨a', 0, rfl, Nat.le_refl _, .inl rfl⟩ rfl (eok _) nok (fun h => (h rfl).elim) S2 q3 (by simpa using q1)
              (tabD := tab.set i (.row .nest sz (es.set j .unk))) (fun q => q = tab.length) (fun _ => False) (fun _ h => h.elim) rfl (fun q hq => by subst hq; exact dead_out (by simp)) (fun _ _ => rfl) (.inl rfl) (fun _ _ _ _ _ _ _ h => by obtain ⟨_, _, h, _⟩ := h; exact h.elim)
            exact ⟨_, _, c', w', E', r1, snoc_spec q2, r2, r3⟩
        · exact h.elim
      · exact h.elim
    · exact h.elim
  · exact h0.elim
end
end Sx

/- Soundness of stores, boxes, slices that are made, conversions, literals. -/
set_option linter.unusedVariables false
namespace Sx
open Go Go.RowKit
section
variable {E : Env} {tab : List Ent} {P : Program} {w : World} {Γ : Ctx} {ts : List AV} {a : Act}
def NoMut (Γ : Ctx) (fz : Bool) : Prop := fz = true → Γ.muts = [] ∧ ∀ b, Γ.O0 b = none
/-- Values of one cell each. -/
def Cs (Γ : Ctx) (E : Env) (w : World) (cs : List AV) (vs : List Value) : Prop :=
  cs.length = vs.length ∧ (∀ c ∈ cs, okCell c = true) ∧ ∀ (i : Nat) (c : AV) (v : Value), cs[i]? = some c → vs[i]? = some v → Rep (zone Γ E) w c v
theorem Cs.mono {E' : Env} {w' : World} {cs : List AV} {vs : List Value} (h : Cs Γ E w cs vs) (hm : ∀ b, zone Γ E b → b < w.heap.size → zone Γ E' b ∧ w'.heap[b]? = w.heap[b]?) : Cs Γ E' w' cs vs :=
  ⟨h.1, h.2.1, fun i c v h1 h2 => (h.2.2 i c v h1 h2).mono hm⟩
theorem frz1_sound {fz : Bool} {v : AV} {c : Value} {k : AV → List Ent → Prop} (h : frz1 fz v tab k) (s : Sat Γ E ts tab a w) (hm : NoMut Γ fz) (hv : V E (zone Γ E) tab w v c) :
    ∃ v' tab' E', k v' tab' ∧ Pres (fun _ => False) E (zone Γ E) tab w E' (zone Γ E') tab' w ∧ Sat Γ E' ts tab' a w ∧ okCell v' = true ∧ Rep (zone Γ E') w v' c ∧ (cellsOf v').length = (cellsOf v).length := by
  have idp : Pres (fun _ => False) E (zone Γ E) tab w E (zone Γ E) tab w := ⟨Nat.le_refl _, fun b h hb => ⟨h, rfl⟩, fun i _ k sz es' h => ⟨rfl, es', h, rfl⟩, fun i _ k sz es' _ h => ⟨h, fun cs ty fr h => ⟨cs, ty, h, rfl⟩⟩,
    fun i _ _ sz es' h j sz' es1 hj => ⟨es', es1, h, hj, fun cs ty fr c h1 h2 => ⟨cs, ty, fr, h1, h2⟩⟩⟩
  unfold frz1 at h
  split at h
  · rename_i i
    split at h
    · exact h.elim
    · rename_i k' sz es hn he
      have hn : k' ≠ .var := fun e => by subst e; exact hn rfl
      cases fz with
      | false => exact h.elim
      | true =>
        dsimp only at h
        obtain ⟨hun, h⟩ := h
        obtain ⟨hi, h⟩ := eset_spec h
        obtain ⟨E', p, s', hr⟩ := s.freeze (hm rfl).2 he hn (fun e => by subst e; exact hun)
        exact ⟨_, _, E', h, p, s', rfl, hr c hv, rfl⟩
    · exact h.elim
  all_goals first | exact h.elim | skip
  rename_i h1 h2 h3 h4 h5 h6 h7 h8 h9 h10
  have hok : okCell v = true := by cases v <;> first | rfl | exact (h2 rfl).elim | exact (h7 _ rfl).elim | exact (h10 _ rfl).elim
  refine ⟨v, tab, E, h, idp, s, hok, ?_, rfl⟩
  cases hv with
  | imm r => exact r
  | loc i => exact (h1 _ rfl).elim
  | part => exact (h3 _ _ _ rfl).elim
  | prow => exact (h4 _ _ _ rfl).elim
  | sub => exact (h5 _ _ rfl).elim
  | psub => exact (h6 _ _ _ _ rfl).elim
  | agg => exact (h7 _ rfl).elim
  | fn => exact (h8 _ _ _ rfl).elim
  | ifc => exact (h9 _ _ rfl).elim
  | tuple => exact (h10 _ rfl).elim
theorem pres_refl : Pres (fun _ => False) E (zone Γ E) tab w E (zone Γ E) tab w := ⟨Nat.le_refl _, fun b h hb => ⟨h, rfl⟩, fun i _ k sz es' h => ⟨rfl, es', h, rfl⟩, fun i _ k sz es' _ h => ⟨h, fun cs ty fr h => ⟨cs, ty, h, rfl⟩⟩,
    fun i _ _ sz es' h j sz' es1 hj => ⟨es', es1, h, hj, fun cs ty fr c h1 h2 => ⟨cs, ty, fr, h1, h2⟩⟩⟩
theorem Pres.trans {E1 E2 E3 : Env} {Z1 Z2 Z3 : Nat → Prop} {t1 t2 t3 : List Ent} {w1 w2 w3 : World} (h : Pres (fun _ => False) E1 Z1 t1 w1 E2 Z2 t2 w2) (k : Pres (fun _ => False) E2 Z2 t2 w2 E3 Z3 t3 w3)
    (hs : w1.heap.size ≤ w2.heap.size) : Pres (fun _ => False) E1 Z1 t1 w1 E3 Z3 t3 w3 := by
  refine ⟨Nat.le_trans h.len k.len, fun b hz hb => ?_, fun i hi q sz es' he => ?_, fun i hi q sz es' he ho => ?_, fun i hi _ sz es' he j sz' es1 hj => ?_⟩
  · obtain ⟨h1, h2⟩ := h.imm b hz hb
    obtain ⟨h3, h4⟩ := k.imm b h1 (by omega)
    exact ⟨h3, h4.trans h2⟩
  · obtain ⟨h1, es2, h2, h3⟩ := k.row i (Nat.lt_of_lt_of_le hi h.len) q sz es' he
    obtain ⟨h4, es3, h5, h6⟩ := h.row i hi q sz es2 h2
    exact ⟨h1.trans h4, es3, h5, h6.trans h3⟩
  · obtain ⟨h1, es2, h2, h3⟩ := k.row i (Nat.lt_of_lt_of_le hi h.len) q sz es' he
    obtain ⟨h4, es3, h5, h6⟩ := h.row i hi q sz es2 h2
    obtain ⟨h7, h8⟩ := h.blk i hi q sz es2 h2 ho
    obtain ⟨h9, h10⟩ := k.blk i (Nat.lt_of_lt_of_le hi h.len) q sz es' he (by rw [h4]; exact h7)
    rw [h4] at h9 h10
    refine ⟨h9, fun cs ty fr hh => ?_⟩
    obtain ⟨cs2, ty2, h11, h12⟩ := h8 cs ty fr hh
    obtain ⟨cs3, ty3, h13, h14⟩ := h10 cs2 ty2 fr h11
    exact ⟨cs3, ty3, h13, h14.trans h12⟩
  · obtain ⟨es2, es3, h1, h2, h3⟩ := k.nest i (Nat.lt_of_lt_of_le hi h.len) (fun h => h) sz es' he j sz' es1 hj
    obtain ⟨h4, _⟩ := h.row i hi _ _ _ h1
    obtain ⟨es4, es5, h5, h6, h7⟩ := h.nest i hi (fun h => h) sz es2 h1 j sz' es3 h2
    refine ⟨es4, es5, h5, h6, fun cs ty fr c q1 q2 => ?_⟩
    obtain ⟨cs2, ty2, fr2, q3, q4⟩ := h7 cs ty fr c q1 q2
    rw [h4] at h3
    exact h3 cs2 ty2 fr2 c q3 q4
theorem V.p {E' : Env} {tab' : List Ent} {w' : World} {v : AV} {c : Value} (p : Pres (fun _ => False) E (zone Γ E) tab w E' (zone Γ E') tab' w') (h : V E (zone Γ E) tab w v c) : V E' (zone Γ E') tab' w' v c := V.pres p h (.inl fun _ h => h)
theorem frzL_sound {fz : Bool} (hm : NoMut Γ fz) : ∀ {vs : List AV} {cvs : List Value} {E : Env} {tab : List Ent} {k : List AV → List Ent → Prop}, frzL fz vs tab k → Sat Γ E ts tab a w → Vs E (zone Γ E) tab w vs cvs →
    ∃ vs' tab' E', k vs' tab' ∧ Pres (fun _ => False) E (zone Γ E) tab w E' (zone Γ E') tab' w ∧ Sat Γ E' ts tab' a w ∧ Cs Γ E' w vs' cvs ∧ vs'.length = vs.length
  | [], cvs, E, tab, k, h, s, hv => ⟨[], tab, E, h, pres_refl, s, ⟨by rw [hv.nil_inv]; rfl, nofun, nofun⟩, rfl⟩
  | v :: vs, cvs, E, tab, k, h, s, hv => by
    obtain ⟨c, cvs', rfl, h1, h2⟩ := hv.cons_inv
    obtain ⟨v', tab', E', h3, p, s', hok, hr, hlen⟩ := frz1_sound h s hm h1
    obtain ⟨vs', tab'', E'', h4, p2, s2, hc, hl⟩ := frzL_sound hm h3 s' ⟨h2.1, fun i v c q1 q2 => (h2.2 i v c q1 q2).p p⟩
    refine ⟨v' :: vs', tab'', E'', h4, p.trans p2 (Nat.le_refl _), s2, ⟨by simp [hc.1], fun x hx => ?_, fun i x y q1 q2 => ?_⟩, by simp [hl]⟩
    · rcases List.mem_cons.1 hx with rfl | hx
      · exact hok
      · exact hc.2.1 x hx
    · cases i with
      | zero => simp at q1 q2; subst q1; subst q2; exact hr.mono p2.imm
      | succ i => exact hc.2.2 i x y (by simpa using q1) (by simpa using q2)
theorem cellsOf_atom {v : AV} (h : ∀ cs, v ≠ .agg cs) : cellsOf v = [v] := by
  unfold cellsOf
  split
  · exact (h _ rfl).elim
  · rfl
theorem okCell_atom {v : AV} (h : okCell v = true) : cellsOf v = [v] := cellsOf_atom fun cs e => by subst e; cases h
theorem Rep.cells {Z : Nat → Prop} {v : AV} {c : Value} (h : Rep Z w v c) (hk : ∀ x ∈ cellsOf v, okCell x = true) :
    (cellsOf v).length = c.cells.size ∧ (∀ (i : Nat) (x : AV) (y : Value), (cellsOf v)[i]? = some x → c.cells[i]? = some y → Rep Z w x y) ∧ ∀ y ∈ c.cells.toList, y.oneCell' = true := by
  cases h with
  | agg cs vs hl h =>
    refine ⟨by simpa [cellsOf, Value.cells] using hl, fun i x y h1 h2 => h i x y h1 (by simpa [Value.cells] using h2), fun y hy => ?_⟩
    simp [Value.cells] at hy
    obtain ⟨i, hi, rfl⟩ := List.getElem_of_mem hy
    have hi2 : i < cs.length := by rw [hl]; exact hi
    exact (h i cs[i] vs[i] (by simp [hi2]) (by simp [hi])).one (hk _ (List.getElem_mem hi2))
  | unk => exact absurd (hk .unk (by simp [cellsOf])) (by decide)
  | tuple cs vs hl h => exact absurd (hk (.tuple cs) (by simp [cellsOf])) (by intro h; cases h)
  | _ =>
    refine ⟨rfl, fun i x y h1 h2 => ?_, fun y hy => ?_⟩
    · cases i with
      | zero => simp [cellsOf, Value.cells] at h1 h2; subst h1; subst h2; constructor <;> assumption
      | succ i => simp [cellsOf] at h1
    · simp [Value.cells] at hy; subst hy; rfl
theorem frz2_sound {fz : Bool} {v : AV} {c : Value} {k : AV → List Ent → Prop} (h : frz2 fz v tab k) (s : Sat Γ E ts tab a w) (hm : NoMut Γ fz) (hv : V E (zone Γ E) tab w v c) :
    ∃ v' tab' E', k v' tab' ∧ Pres (fun _ => False) E (zone Γ E) tab w E' (zone Γ E') tab' w ∧ Sat Γ E' ts tab' a w ∧ (∀ x ∈ cellsOf v', okCell x = true) ∧ Rep (zone Γ E') w v' c ∧ (cellsOf v').length = (cellsOf v).length := by
  unfold frz2 at h
  split at h
  · obtain ⟨vs, rfl, hl, hc⟩ := hv.agg_inv
    obtain ⟨cs', tab', E', h1, p, s', hcs, hlen⟩ := frzL_sound hm h s ⟨hl, hc⟩
    exact ⟨_, tab', E', h1, p, s', hcs.2.1, .agg _ _ hcs.1 hcs.2.2, hlen⟩
  · obtain ⟨v', tab', E', h1, p, s', hok, hr, hlen⟩ := frz1_sound h s hm hv
    exact ⟨v', tab', E', h1, p, s', fun x hx => by rw [okCell_atom hok] at hx; simp at hx; subst hx; exact hok, hr, hlen⟩
theorem frzB_sound {fz : Bool} {v : AV} {c : Value} {k : AV → List Ent → Prop} (h : frzB fz v tab k) (s : Sat Γ E ts tab a w) (hm : NoMut Γ fz) (hv : V E (zone Γ E) tab w v c) :
    ∃ v' tab' E', k v' tab' ∧ Pres (fun _ => False) E (zone Γ E) tab w E' (zone Γ E') tab' w ∧ Sat Γ E' ts tab' a w ∧ V E' (zone Γ E') tab' w v' c := by
  unfold frzB at h
  split at h
  · split at h
    · split at h
      · exact ⟨_, tab, E, h, pres_refl, s, hv⟩
      · obtain ⟨vs, rfl, hl, hc⟩ := hv.agg_inv
        obtain ⟨cs', tab', E', h1, p, s', hcs, hlen⟩ := frzL_sound hm h s ⟨hl, hc⟩
        exact ⟨_, tab', E', h1, p, s', .imm (.agg _ _ hcs.1 hcs.2.2)⟩
    · exact ⟨_, tab, E, h, pres_refl, s, hv⟩
  · exact ⟨_, tab, E, h, pres_refl, s, hv⟩
theorem frzA_sound {fz : Bool} (hm : NoMut Γ fz) : ∀ {vs : List AV} {cvs : List Value} {E : Env} {tab : List Ent} {k : List AV → List Ent → Prop}, frzA fz vs tab k → Sat Γ E ts tab a w → Vs E (zone Γ E) tab w vs cvs →
    ∃ vs' tab' E', k vs' tab' ∧ Pres (fun _ => False) E (zone Γ E) tab w E' (zone Γ E') tab' w ∧ Sat Γ E' ts tab' a w ∧ Vs E' (zone Γ E') tab' w vs' cvs
  | [], cvs, E, tab, k, h, s, hv => ⟨[], tab, E, h, pres_refl, s, hv⟩
  | v :: vs, cvs, E, tab, k, h, s, hv => by
    obtain ⟨c, cvs', rfl, h1, h2⟩ := hv.cons_inv
    obtain ⟨v', tab', E', h3, p, s', hr⟩ := frzB_sound h s hm h1
    obtain ⟨vs', tab'', E'', h4, p2, s2, hc⟩ := frzA_sound hm h3 s' ⟨h2.1, fun i v c q1 q2 => (h2.2 i v c q1 q2).p p⟩
    exact ⟨v' :: vs', tab'', E'', h4, p.trans p2 (Nat.le_refl _), s2, .cons (hr.p p2) hc⟩
/-! values that go into variables -/
theorem okSt1_cell {v : AV} {c : Value} (h : okSt1 tab v = true) (hv : V E (zone Γ E) tab w v c) : c.oneCell' = true ∧ okVar1 v = true ∧ (∀ cs, v ≠ .agg cs) := by
  cases hv with
  | imm r =>
    refine ⟨r.one ?_, ?_, ?_⟩
    · cases v <;> first | rfl | cases h
    · cases v <;> first | rfl | cases h
    · intro cs e; subst e; cases h
  | loc i c hi hr =>
    refine ⟨?_, rfl, nofun⟩
    have h : alive tab i = true := h
    unfold alive at h
    split at h
    · rename_i he; obtain ⟨_, _, rfl, _⟩ := hr _ _ _ he; rfl
    · cases h
  | part i _ _ c hi hr =>
    refine ⟨?_, rfl, nofun⟩
    have h : alive tab i = true := h
    unfold alive at h
    split at h
    · rename_i he; obtain ⟨⟨⟨_, _, rfl, _⟩, _⟩, _⟩ := hr _ _ _ he; rfl
    · cases h
  | prow i _ _ c hi hr =>
    refine ⟨?_, rfl, nofun⟩
    have h : alive tab i = true := h
    unfold alive at h
    split at h
    · rename_i he; rw [hr _ _ _ he]; rfl
    · cases h
  | sub => cases h
  | psub => cases h
  | agg => cases h
  | fn => cases h
  | ifc => cases h
  | tuple => cases h
theorem okSt_cells {v : AV} {c : Value} (h : okSt tab v = true) (hv : V E (zone Γ E) tab w v c) :
    (cellsOf v).length = c.cells.size ∧ (∀ (i : Nat) (x : AV) (y : Value), (cellsOf v)[i]? = some x → c.cells[i]? = some y → V E (zone Γ E) tab w x y) ∧ (∀ y ∈ c.cells.toList, y.oneCell' = true) ∧ okVar v = true ∧ ∀ x ∈ cellsOf v, okVar1 x = true ∧ ∀ cs, x ≠ .agg cs := by
  unfold okSt at h
  split at h
  · rename_i cs
    obtain ⟨vs, rfl, hl, hc⟩ := hv.agg_inv
    have hall := List.all_eq_true.1 h
    have key : ∀ i (hi : i < cs.length) (hi' : i < vs.length), vs[i].oneCell' = true ∧ okVar1 cs[i] = true ∧ ∀ x, cs[i] ≠ .agg x := fun i hi hi' => okSt1_cell (hall _ (List.getElem_mem hi)) (hc i _ _ (by simp [hi]) (by simp [hi']))
    refine ⟨by simpa [cellsOf, Value.cells] using hl, fun i x y h1 h2 => hc i x y h1 (by simpa [Value.cells] using h2), fun y hy => ?_, ?_, fun x hx => ?_⟩
    · simp [Value.cells] at hy
      obtain ⟨i, hi, rfl⟩ := List.getElem_of_mem hy
      exact (key i (by omega) hi).1
    · refine List.all_eq_true.2 fun x hx => ?_
      obtain ⟨i, hi, rfl⟩ := List.getElem_of_mem hx
      exact (key i hi (by omega)).2.1
    · obtain ⟨i, hi, rfl⟩ := List.getElem_of_mem hx
      exact (key i hi (by show i < vs.length; have : i < cs.length := hi; omega)).2
  · rename_i hn
    obtain ⟨h1, h2, h3⟩ := okSt1_cell h hv
    have hc : c.cells = #[c] := by
      unfold Value.cells
      split
      · cases h1
      · rfl
    rw [cellsOf_atom h3, hc]
    refine ⟨rfl, fun i x y q1 q2 => ?_, fun y hy => ?_, ?_, fun x hx => ?_⟩
    · cases i with
      | zero => simp at q1 q2; subst q1; subst q2; exact hv
      | succ i => simp at q1
    · simp at hy; subst hy; exact h1
    · unfold okVar
      split
      · exact (h3 _ rfl).elim
      · exact h2
    · simp at hx; subst hx; exact ⟨h2, h3⟩
theorem splice_spec : ∀ (cs : List AV) (t : Nat) (vs : List AV), t + vs.length ≤ cs.length → (splice cs t vs).length = cs.length ∧ ∀ i, (splice cs t vs)[i]? = if t ≤ i ∧ i < t + vs.length then vs[i - t]? else cs[i]?
  | cs, 0, vs, h => by
    have e : splice cs 0 vs = vs ++ cs.drop vs.length := by cases cs <;> rfl
    rw [e]
    refine ⟨by simp; omega, fun i => ?_⟩
    by_cases hi : i < vs.length
    · rw [if_pos (by omega), List.getElem?_append_left hi]; rfl
    · rw [if_neg (by omega), List.getElem?_append_right (by omega), List.getElem?_drop]
      congr 1; omega
  | [], t + 1, vs, h => by simp at h
  | c :: cs, t + 1, vs, h => by
    obtain ⟨h1, h2⟩ := splice_spec cs t vs (by simp at h; omega)
    refine ⟨by simp [splice, h1], fun i => ?_⟩
    cases i with
    | zero => simp [splice]
    | succ i =>
      simp only [splice, List.getElem?_cons_succ, h2]
      by_cases hi : t ≤ i ∧ i < t + vs.length
      · rw [if_pos hi, if_pos (by omega)]; congr 1; omega
      · rw [if_neg hi, if_neg (by omega)]
theorem mkElem_cells {e : AV} {cs : List AV} (h : ∀ x ∈ cs, ∀ y, x ≠ .agg y) : cellsOf (mkElem e cs) = cs := by
  unfold mkElem
  split
  · rfl
  · split
    · exact cellsOf_atom (h _ (by simp))
    · rfl
theorem mov1_sound {v : AV} {c : Value} {k : AV → List Ent → Prop} (h : mov1 v tab k) (hv : V E (zone Γ E) tab w v c) :
    ∃ v' k0, k v' (match k0 with | some k0 => tab.set k0 .dead | none => tab) ∧ (c.oneCell' = true ∧ (cellsOf v).length = 1) ∧ (match k0 with
      | some k0 => ∃ sz0 es0, ent tab k0 = .row .plain sz0 es0 ∧ v' = .sl sz0 es0 ∧ V E (zone Γ E) tab w (.loc k0) c
      | none => (v' = .nilsl ∧ c = .slice none 0 0) ∨ (v' = .emp ∧ ∃ a, c = .slice a 0 0)) := by
  unfold mov1 at h
  split at h
  · rename_i i
    split at h
    · rename_i sz es he
      obtain ⟨_, _, rfl, _⟩ := hv.loc_inv.2 _ _ _ he
      exact ⟨_, some i, (eset_spec h).2, ⟨rfl, rfl⟩, sz, es, he, rfl, hv⟩
    · exact h.elim
  · have := hv.nilsl_inv
    subst this
    exact ⟨.nilsl, none, h, ⟨rfl, rfl⟩, .inl ⟨rfl, rfl⟩⟩
  · obtain ⟨a', rfl⟩ := hv.emp_inv
    exact ⟨.emp, none, h, ⟨rfl, rfl⟩, .inr ⟨rfl, a', rfl⟩⟩
  · exact h.elim
theorem kill1_sound {i : Nat} {v : AV} {c : Value} (h : V E (zone Γ E) tab w v c) : V E (zone Γ E) tab w (kill1 i v) c ∧ Free (· = i) (kill1 i v) := by
  unfold kill1
  split
  · split
    · exact ⟨.imm (.unk _), .simple _ rfl⟩
    · rename_i hb; exact ⟨h, .sub _ _ fun e => by subst e; rw [Nat.beq_refl] at hb; cases hb⟩
  · split
    · exact ⟨.imm (.unk _), .simple _ rfl⟩
    · rename_i hb; exact ⟨h, .psub _ _ _ _ fun e => by subst e; rw [Nat.beq_refl] at hb; cases hb⟩
  · exact ⟨.imm (.unk _), .simple _ rfl⟩
  · exact ⟨.imm (.unk _), .simple _ rfl⟩
  · exact ⟨.imm (.unk _), .simple _ rfl⟩
  · exact ⟨.imm (.unk _), .simple _ rfl⟩
  · refine ⟨h, .simple _ ?_⟩
    rename_i h1 h2 h3 h4 h5 h6
    cases v <;> first | rfl | exact (h1 _ _ rfl).elim | exact (h2 _ _ _ _ rfl).elim | exact (h3 _ rfl).elim | exact (h4 _ _ _ rfl).elim | exact (h5 _ _ rfl).elim | exact (h6 _ rfl).elim
theorem map_get {f : AV → AV} {cs : List AV} {i : Nat} {x : AV} (h : (cs.map f)[i]? = some x) : ∃ y, cs[i]? = some y ∧ f y = x := by
  rw [List.getElem?_map] at h
  exact Option.map_eq_some_iff.1 h
theorem kill2_sound {i : Nat} {v : AV} {c : Value} (h : V E (zone Γ E) tab w v c) : V E (zone Γ E) tab w (kill2 i v) c ∧ Free (· = i) (kill2 i v) := by
  unfold kill2
  split
  · rename_i cs
    obtain ⟨vs, rfl, hl, hc⟩ := h.agg_inv
    refine ⟨.agg _ _ (by simpa using hl) fun j x y h1 h2 => ?_, .agg _ fun x hx => ?_⟩
    · obtain ⟨z, h3, rfl⟩ := map_get h1
      exact (kill1_sound (hc j z y h3 h2)).1
    · obtain ⟨z, hz, rfl⟩ := List.mem_map.1 hx
      obtain ⟨j, hj, rfl⟩ := List.getElem_of_mem hz
      exact (kill1_sound (hc j cs[j] (vs[j]'(by omega)) (by simp [hj]) (by simp))).2
  · rename_i f b d
    obtain ⟨va, vb, rfl, h1, h2, h3, h4⟩ := h.fn_inv
    refine ⟨.fn _ _ _ _ _ (by simpa using h1) (by simpa using h2) (fun j x y q1 q2 => ?_) (fun j x y q1 q2 => ?_), .fn _ _ _ (fun x hx => ?_) (fun x hx => ?_)⟩
    · obtain ⟨z, q3, rfl⟩ := map_get q1
      exact (kill1_sound (h3 j z y q3 q2)).1
    · obtain ⟨z, q3, rfl⟩ := map_get q1
      exact (kill1_sound (h4 j z y q3 q2)).1
    · obtain ⟨z, hz, rfl⟩ := List.mem_map.1 hx
      obtain ⟨j, hj, rfl⟩ := List.getElem_of_mem hz
      exact (kill1_sound (h3 j b[j] (va[j]'(by omega)) (by simp [hj]) (by simp))).2
    · obtain ⟨z, hz, rfl⟩ := List.mem_map.1 hx
      obtain ⟨j, hj, rfl⟩ := List.getElem_of_mem hz
      exact (kill1_sound (h4 j d[j] (vb[j]'(by omega)) (by simp [hj]) (by simp))).2
  · exact kill1_sound h
theorem V.ifc_inv {Z : Nat → Prop} {t : TypeId} {v : AV} {c : Value} (h : V E Z tab w (.ifc t v) c) : ∃ c', c = .iface t c' ∧ V E Z tab w v c' := by
  cases h with
  | imm r => cases r with | ifc _ _ c' r => exact ⟨c', rfl, .imm r⟩
  | ifc _ _ c' h => exact ⟨c', rfl, h⟩
theorem kill3_sound {i : Nat} {v : AV} {c : Value} (h : V E (zone Γ E) tab w v c) : V E (zone Γ E) tab w (kill3 i v) c ∧ Free (· = i) (kill3 i v) := by
  unfold kill3
  split
  · rename_i cs
    obtain ⟨vs, rfl, hl, hc⟩ := h.tuple_inv
    refine ⟨.tuple _ _ (by simpa using hl) fun j x y h1 h2 => ?_, .tuple _ fun x hx => ?_⟩
    · obtain ⟨z, h3, rfl⟩ := map_get h1
      exact (kill2_sound (hc j z y h3 h2)).1
    · obtain ⟨z, hz, rfl⟩ := List.mem_map.1 hx
      obtain ⟨j, hj, rfl⟩ := List.getElem_of_mem hz
      exact (kill2_sound (hc j cs[j] (vs[j]'(by omega)) (by simp [hj]) (by simp))).2
  · rename_i t v
    obtain ⟨c', rfl, h2⟩ := h.ifc_inv
    have := kill2_sound (i := i) h2
    exact ⟨.ifc _ _ _ this.1, .ifc _ _ this.2⟩
  · exact kill2_sound h
theorem Sat.kill (s : Sat Γ E ts tab a w) (i : Nat) : Sat Γ E (ts.map (kill3 i)) tab a w ∧ ∀ x ∈ ts.map (kill3 i), Free (· = i) x := by
  refine ⟨{ s with len := by simpa using s.len, vals := fun j v c h1 h2 => ?_ }, fun x hx => ?_⟩
  · obtain ⟨z, h3, rfl⟩ := map_get h1
    exact (kill3_sound (s.vals j z c h3 h2)).1
  · obtain ⟨z, hz, rfl⟩ := List.mem_map.1 hx
    obtain ⟨j, hj, rfl⟩ := List.getElem_of_mem hz
    have hj2 : j < a.tmps.size := by rw [s.len]; exact hj
    exact (kill3_sound (s.vals j ts[j] a.tmps[j] (by simp [hj]) (by simp [hj2]))).2
end
end Sx

/- Soundness of stores. -/
set_option linter.unusedVariables false
namespace Sx
open Go Go.RowKit
section
variable {E : Env} {tab : List Ent} {P : Program} {w : World} {Γ : Ctx} {ts : List AV} {a : Act}
theorem upd_cells {X : AV → Value → Prop} {sz : Nat} {es : List AV} {cs : Array Value} {j t0 : Nat} {e0 e' : AV} {vs : List AV} {nv : List Value} (he : elemsOk sz es) (hsz : es.length * sz ≤ cs.size)
    (hc : ∀ (j t : Nat) (e v : AV), es[j]? = some e → (cellsOf e)[t]? = some v → ∃ c, cs[j * sz + t]? = some c ∧ X v c)
    (hj : es[j]? = some e0) (hl : vs.length = nv.length) (hfit : t0 + vs.length ≤ (cellsOf e0).length) (he' : cellsOf e' = splice (cellsOf e0) t0 vs)
    (hv : ∀ (i : Nat) (x : AV) (y : Value), vs[i]? = some x → nv[i]? = some y → X x y) :
    ∀ (j' t : Nat) (e v : AV), (es.set j e')[j']? = some e → (cellsOf e)[t]? = some v → ∃ c, (wrote cs (j * sz + t0) nv)[j' * sz + t]? = some c ∧ X v c := by
  intro j' t e v h1 h2
  have hjl := (List.getElem?_eq_some_iff.1 hj).1
  have hsz0 : (cellsOf e0).length = sz := he e0 (mem_of_get hj)
  have hrow : j * sz + sz ≤ es.length * sz := by
    have : (j + 1) * sz ≤ es.length * sz := Nat.mul_le_mul_right sz hjl
    rwa [Nat.add_mul, Nat.one_mul] at this
  have hf : j * sz + t0 + nv.length ≤ cs.size := by omega
  obtain ⟨hs1, hs2⟩ := splice_spec (cellsOf e0) t0 vs hfit
  by_cases e1 : j' = j
  · subst e1
    rw [List.getElem?_set_self hjl] at h1
    cases h1
    rw [he', hs2] at h2
    rw [wrote_get _ _ _ _ hf]
    split at h2
    · rename_i ht
      rw [if_pos (by omega)]
      have hi : t - t0 < nv.length := by omega
      refine ⟨nv[t - t0], ?_, hv _ _ _ h2 (by simp [hi])⟩
      rw [show j' * sz + t - (j' * sz + t0) = t - t0 by omega]
      simp [hi]
    · rename_i ht
      rw [if_neg (by omega)]
      exact hc j' t e0 v hj h2
  · rw [List.getElem?_set_ne (fun h => e1 h.symm)] at h1
    obtain ⟨c, h3, h4⟩ := hc j' t e v h1 h2
    have ht : t < sz := by
      have := (List.getElem?_eq_some_iff.1 h2).1
      rwa [he e (mem_of_get h1)] at this
    refine ⟨c, ?_, h4⟩
    rw [wrote_get _ _ _ _ hf, if_neg ?_]
    · exact h3
    · rintro ⟨q1, q2⟩
      rcases Nat.lt_or_gt_of_ne e1 with hlt | hgt
      · have : (j' + 1) * sz ≤ j * sz := Nat.mul_le_mul_right sz hlt
        rw [Nat.add_mul] at this; omega
      · have : (j + 1) * sz ≤ j' * sz := Nat.mul_le_mul_right sz hgt
        rw [Nat.add_mul] at this; omega
theorem elemsOk_upd {sz : Nat} {es : List AV} {j t0 : Nat} {e0 e' : AV} {vs : List AV} (he : elemsOk sz es) (hj : es[j]? = some e0) (hfit : t0 + vs.length ≤ (cellsOf e0).length) (he' : cellsOf e' = splice (cellsOf e0) t0 vs) : elemsOk sz (es.set j e') :=
  elemsOk_set he (by rw [he', (splice_spec _ _ _ hfit).1]; exact he e0 (mem_of_get hj))
theorem splice_mem {cs vs : List AV} {t : Nat} (hfit : t + vs.length ≤ cs.length) {x : AV} (h : x ∈ splice cs t vs) : x ∈ vs ∨ x ∈ cs := by
  obtain ⟨i, hi⟩ := List.getElem?_of_mem h
  rw [(splice_spec cs t vs hfit).2] at hi
  split at hi
  · exact .inl (mem_of_get hi)
  · exact .inr (mem_of_get hi)
theorem set_cells_mem {es : List AV} {j : Nat} {e e' : AV} (h : e ∈ es.set j e') : e ∈ es ∨ e = e' := List.mem_or_eq_of_mem_set h
theorem okVar_of_cells {e : AV} (h : ∀ x ∈ cellsOf e, okVar1 x = true) : okVar e = true := by
  unfold okVar
  split
  · rename_i cs; exact List.all_eq_true.2 h
  · rename_i hn
    rw [cellsOf_atom hn] at h
    exact h e (by simp)
theorem lnorm_spec {l : List AV} {k : List AV → Prop} (h : lnorm l k) : k l := lnorm_iff h
theorem mkElemW_spec {e : AV} {cs : List AV} {k : AV → Prop} (h : mkElemW e cs k) : k (mkElem e cs) := by
  unfold mkElemW at h
  unfold mkElem
  split at h
  · exact h
  · split at h
    · exact h
    · exact h
theorem storeW_sound {fz : Bool} {t : TypeId} {p v : AV} {pc vc : Value} {k : List AV → List Ent → Prop} (h0 : storeW fz P t p v ts tab k) (s : Sat Γ E ts tab a w) (hm : NoMut Γ fz) (hp : V E (zone Γ E) tab w p pc) (hv : V E (zone Γ E) tab w v vc) :
    ∃ ts' tab' w' E', (Instr.storeAt t pc vc).run P w = .ok () w' ∧ k ts' tab' ∧ Sat Γ E' ts' tab' a w' := by
  obtain ⟨hsz0, hpos0, h⟩ := h0
  have hsz := Nat.eq_of_beq_eq_true hsz0
  have hpos : 0 < siz P t := by simpa using hpos0
  clear hsz0 hpos0
  obtain ⟨it, hit⟩ := siz_tinfo hpos
  split at h
  · rename_i i j t0
    split at h
    · rename_i sz es he
      obtain ⟨hok, h⟩ := h
      obtain ⟨e0, hj, hfit, h⟩ := lget_spec h
      obtain ⟨_, h⟩ := lset_spec (mkElemW_spec (lnorm_spec h))
      obtain ⟨hi, h⟩ := eset_spec h
      have hfit : t0 + siz P t ≤ (cellsOf e0).length := by simpa using hfit
      have hent := s.ents i
      rw [he] at hent
      obtain ⟨h1, _, _, h2, h3⟩ := hent
      obtain ⟨ho, cs, ty, fr, hh, hu, hs, hc⟩ := h3 (ne_nil_of_get hj)
      rw [hp.prow_inv.2 _ _ _ he]
      obtain ⟨g1, g2, g3, g4, g5⟩ := okSt_cells hok hv
      have hjl := (List.getElem?_eq_some_iff.1 hj).1
      have hl0 := h1 e0 (mem_of_get hj)
      have hrow : j * sz + sz ≤ es.length * sz := by
        have : (j + 1) * sz ≤ es.length * sz := Nat.mul_le_mul_right sz hjl
        rwa [Nat.add_mul, Nat.one_mul] at this
      obtain ⟨w', hrun, hw⟩ := store_run (P := P) (w := w) (c := vc) (o := j * sz + t0) hit (by omega) hh hu (by omega) g3
      have hcv : ∀ x ∈ splice (cellsOf e0) t0 (cellsOf v), okVar1 x = true ∧ ∀ y, x ≠ .agg y := fun x hx => by
        rcases splice_mem (by omega) hx with hx | hx
        · exact g5 x hx
        · have := okVar_cell (h2 rfl e0 (mem_of_get hj)) hx
          exact ⟨this, fun y e => by subst e; cases this⟩
      have hcm : cellsOf (mkElem e0 (splice (cellsOf e0) t0 (cellsOf v))) = splice (cellsOf e0) t0 (cellsOf v) := mkElem_cells fun x hx => (hcv x hx).2
      refine ⟨_, _, w', E, hrun, h, s.write (k := .var) he nofun (by simp) (elemsOk_upd h1 hj (by omega) hcm) nofun (fun _ e hm => ?_) ho hh hu hw (wrote_size _ _ _) hs ?_⟩
      · rcases set_cells_mem hm with hm | rfl
        · exact h2 rfl e hm
        · exact okVar_of_cells fun x hx => by rw [hcm] at hx; exact (hcv x hx).1
      · exact upd_cells (X := V E (zone Γ E) tab w) h1 hs hc hj (by simpa using g1) (by omega) hcm (fun i x y q1 q2 => g2 i x y q1 (by simpa using q2))
    · rename_i sz0 es0 he0
      obtain ⟨v', tab', E', h, p2, s', hok, hr, hlen⟩ := frz2_sound h s hm hv
      split at h
      · rename_i sz es he
        obtain ⟨e0, hj, hfit, h⟩ := h
        have hj := nth_some hj
        have hfit : t0 + siz P t ≤ (cellsOf e0).length := by simpa using hfit
        have h := eqL.o (mkElemW_spec (lnorm_spec h))
        obtain ⟨hi, h⟩ := eset_spec h
        have hent := s'.ents i
        rw [he] at hent
        obtain ⟨h1, _, h2, _, h3⟩ := hent
        obtain ⟨ho, cs, ty, fr, hh, hu, hs, hc⟩ := h3 (ne_nil_of_get hj)
        rw [(hp.p p2).prow_inv.2 _ _ _ he]
        obtain ⟨g1, g2, g3⟩ := hr.cells hok
        have hjl := (List.getElem?_eq_some_iff.1 hj).1
        have hl0 := h1 e0 (mem_of_get hj)
        have hrow : j * sz + sz ≤ es.length * sz := by
          have : (j + 1) * sz ≤ es.length * sz := Nat.mul_le_mul_right sz hjl
          rwa [Nat.add_mul, Nat.one_mul] at this
        obtain ⟨w', hrun, hw⟩ := store_run (P := P) (w := w) (c := vc) (o := j * sz + t0) hit (by omega) hh hu (by omega) g3
        have hcv : ∀ x ∈ splice (cellsOf e0) t0 (cellsOf v'), okCell x = true := fun x hx => by
          rcases splice_mem (by omega) hx with hx | hx
          · exact hok x hx
          · exact h2 rfl e0 (mem_of_get hj) x hx
        have hcm : cellsOf (mkElem e0 (splice (cellsOf e0) t0 (cellsOf v'))) = splice (cellsOf e0) t0 (cellsOf v') := mkElem_cells fun x hx y e => by have := hcv x hx; subst e; cases this
        refine ⟨_, _, w', E', hrun, h, s'.write (k := .plain) he nofun (by simp) (elemsOk_upd h1 hj (by omega) hcm) (fun _ e hm => ?_) nofun ho hh hu hw (wrote_size _ _ _) hs ?_⟩
        · rcases set_cells_mem hm with hm | rfl
          · exact h2 rfl e hm
          · exact fun x hx => by rw [hcm] at hx; exact hcv x hx
        · exact upd_cells (X := Rep (zone Γ E') w) h1 hs hc hj (by simpa using g1) (by omega) hcm (fun i x y q1 q2 => g2 i x y q1 (by simpa using q2))
      · exact h.elim
    · rename_i sz es he
      obtain ⟨v', k0, hq, ⟨hone, hv1⟩, hk0⟩ := mov1_sound h hv
      obtain ⟨_, hj, ht0, h5⟩ := hq.o
      have hj : j < es.length := by omega
      have h5 := h5.o
      obtain ⟨_, h6⟩ := eset_spec h5
      subst ht0
      have hent := s.ents i
      rw [he] at hent
      obtain ⟨h1, h2, _, _, h3⟩ := hent
      have hs1 := h2 rfl
      subst hs1
      obtain ⟨ho, cs, ty, fr, hh, hu, hs, hc⟩ := h3 (by intro e; subst e; simp at hj)
      rw [hp.prow_inv.2 _ _ _ he]
      have hvc : vc.cells = #[vc] := by
        unfold Value.cells
        split
        · cases hone
        · rfl
      obtain ⟨w', hrun, hw⟩ := store_run (P := P) (w := w) (c := vc) (o := j * 1 + 0) hit (by rw [hvc]; simp; omega) hh hu (by rw [hvc]; simp; omega) (by rw [hvc]; intro x hx; simp at hx; subst hx; exact hone)
      rw [hvc] at hw
      obtain ⟨E', s'⟩ := ((s.kill i).1).put (v := v') (c := vc) (k0 := k0) (s.kill i).2 he hj ho hh hu hs (by simpa [wrote] using hw) hk0
      exact ⟨_, _, w', E', hrun, h6, s'⟩
    · exact h.elim
  · rename_i i j j' t0
    split at h
    · rename_i sz es he
      split at h
      · rename_i kd n
        replace h := optP.o h
        split at h
        · rename_i sz' es' hj
          have hj := nth_some hj
          obtain ⟨_, hj', rfl, rfl, h⟩ := h.o
          have hj' : j' < es'.length := by omega
          obtain ⟨hi, h⟩ := eset_spec h.o.o
          have hent := s.ents i
          rw [he] at hent
          obtain ⟨h1, h2, _, _, h3⟩ := hent
          have hs1 := h2 rfl
          subst hs1
          obtain ⟨ho, cs, ty, fr, hh, hu, hs, hc⟩ := h3 (ne_nil_of_get hj)
          obtain ⟨cs2, ty2, fr2, b, m, cap, hh2, hc2, rfl⟩ := hp.psub_inv.2 _ _ _ _ he hj
          obtain ⟨c, h4, h5⟩ := hc j 0 _ _ hj rfl
          rw [hh] at hh2; cases hh2
          simp only [Nat.mul_one, Nat.add_zero] at h4
          rw [hc2] at h4; cases h4
          obtain ⟨b2, ⟨a2, cap2, hcc, hle2, hx2⟩, heo, hko, hro⟩ := h5
          cases hcc
          have hne' : es' ≠ [] := by intro e; subst e; simp at hj'
          have eb : b2 = b := by
            rcases hx2 with hx2 | ⟨hx2, _⟩
            · omega
            · simp at hx2; exact hx2.symm
          subst eb
          obtain ⟨ho3, cs3, ty3, fr3, hh3, hu3, hs3, hc3⟩ := hro hne'
          have := hv.int_inv
          subst this
          obtain ⟨w', hrun, hw⟩ := store_run (P := P) (w := w) (c := .int kd n) (o := j' * 1 + 0) hit (by simp [Value.cells]; simp [cellsOf] at hsz; omega) hh3 hu3 (by simp [Value.cells]; omega) (by simp [Value.cells]; rfl)
          have hcm : cellsOf (AV.int kd n) = splice (cellsOf es'[j']) 0 (cellsOf (AV.int kd n)) := by
            have : (cellsOf es'[j']).length = 1 := heo _ (List.getElem_mem hj')
            match hq : cellsOf es'[j'], this with
            | [x], _ => rfl
          refine ⟨_, _, w', E, hrun, h, s.writeSub he hj (by simp) (elemsOk_set heo rfl) (fun e hm => ?_) ho3 hh3 hu3 hw (wrote_size _ _ _) hs3 (fun cs5 ty5 fr5 c5 b5 q1 q2 q3 q4 => ?_) ?_⟩
          · rcases set_cells_mem hm with hm | rfl
            · exact hko e hm
            · exact fun x hx => by simp [cellsOf] at hx; subst hx; rfl
          · rw [hh] at q1; cases q1
            rw [hc2] at q2; cases q2
            obtain ⟨a6, cap6, q5, q6, q7⟩ := q3
            cases q5
            rcases q7 with q7 | ⟨q7, _⟩
            · omega
            · simp at q7; exact q7.symm
          · exact upd_cells (X := Rep (zone Γ E) w) heo hs3 hc3 (List.getElem?_eq_getElem hj') rfl (by rw [heo _ (List.getElem_mem hj')]; simp [cellsOf]) hcm (fun i x y q1 q2 => by
              cases i with
              | zero => simp [cellsOf, Value.cells] at q1 q2; subst q1; subst q2; exact .int _ _
              | succ i => simp [cellsOf] at q1)
        · exact h.elim
      · exact h.elim
    · exact h.elim
  · exact h.elim
end
end Sx

/- Soundness of boxes, slices that are made, literals. -/
set_option linter.unusedVariables false
namespace Sx
open Go Go.RowKit
section
variable {E : Env} {tab : List Ent} {P : Program} {w : World} {Γ : Ctx} {ts : List AV} {a : Act}
theorem Rep.free {Z : Nat → Prop} {X : Nat → Prop} {v : AV} {c : Value} (h : Rep Z w v c) : Free X v := by
  induction h with
  | agg cs vs hl _ ih =>
    exact .agg _ fun x hx => by
      obtain ⟨i, hi, rfl⟩ := List.getElem_of_mem hx
      exact ih i cs[i] (vs[i]'(by omega)) (by simp [hi]) (by simp)
  | fn f b d va vb h1 h2 _ _ i1 i2 =>
    exact .fn _ _ _ (fun x hx => by
      obtain ⟨i, hi, rfl⟩ := List.getElem_of_mem hx
      exact i1 i b[i] (va[i]'(by omega)) (by simp [hi]) (by simp)) (fun x hx => by
      obtain ⟨i, hi, rfl⟩ := List.getElem_of_mem hx
      exact i2 i d[i] (vb[i]'(by omega)) (by simp [hi]) (by simp))
  | ifc t v c _ ih => exact .ifc _ _ ih
  | tuple cs vs hl _ ih =>
    exact .tuple _ fun x hx => by
      obtain ⟨i, hi, rfl⟩ := List.getElem_of_mem hx
      exact ih i cs[i] (vs[i]'(by omega)) (by simp [hi]) (by simp)
  | _ => exact .simple _ rfl
theorem V.free {Z : Nat → Prop} {n : Nat} (hn : tab.length ≤ n) {v : AV} {c : Value} (h : V E Z tab w v c) : Free (· = n) v := by
  induction h with
  | imm r => exact r.free
  | loc => exact .simple _ rfl
  | part => exact .simple _ rfl
  | prow => exact .simple _ rfl
  | sub i j c hi _ => exact .sub _ _ (by omega)
  | psub i j k t c hi _ => exact .psub _ _ _ _ (by omega)
  | agg cs vs hl _ ih =>
    exact .agg _ fun x hx => by
      obtain ⟨i, hi, rfl⟩ := List.getElem_of_mem hx
      exact ih i cs[i] (vs[i]'(by omega)) (by simp [hi]) (by simp)
  | fn f b d va vb h1 h2 _ _ i1 i2 =>
    exact .fn _ _ _ (fun x hx => by
      obtain ⟨i, hi, rfl⟩ := List.getElem_of_mem hx
      exact i1 i b[i] (va[i]'(by omega)) (by simp [hi]) (by simp)) (fun x hx => by
      obtain ⟨i, hi, rfl⟩ := List.getElem_of_mem hx
      exact i2 i d[i] (vb[i]'(by omega)) (by simp [hi]) (by simp))
  | ifc t v c _ ih => exact .ifc _ _ ih
  | tuple cs vs hl _ ih =>
    exact .tuple _ fun x hx => by
      obtain ⟨i, hi, rfl⟩ := List.getElem_of_mem hx
      exact ih i cs[i] (vs[i]'(by omega)) (by simp [hi]) (by simp)
theorem Sat.free (s : Sat Γ E ts tab a w) : ∀ x ∈ ts, Free (· = tab.length) x := fun x hx => by
  obtain ⟨i, hi, rfl⟩ := List.getElem_of_mem hx
  have hi2 : i < a.tmps.size := by rw [s.len]; exact hi
  exact (s.vals i ts[i] a.tmps[i] (by simp [hi]) (by simp [hi2])).free (Nat.le_refl _)
theorem box_sound {elem : TypeId} {v : AV} {c : Value} {k : Nat → List Ent → Prop} (h : snoc tab (.row .var (cellsOf v).length [v]) k) (hok : okSt tab v = true) (s : Sat Γ E ts tab a w) (hv : V E (zone Γ E) tab w v c) :
    ∃ n tab' E', (newVar elem c).run P w = .ok ⟨w.heap.size, 0, none⟩ (w.alloc (.cells c.cells elem)) ∧ k n tab' ∧ Sat Γ E' ts tab' a (w.alloc (.cells c.cells elem)) ∧ V E' (zone Γ E') tab' (w.alloc (.cells c.cells elem)) (.prow n 0 0) (.pointer (some ⟨w.heap.size, 0, none⟩)) := by
  obtain ⟨g1, g2, g3, g4, g5⟩ := okSt_cells hok hv
  obtain ⟨E', p, s', hL, hO⟩ := s.push (k := .var) (sz := (cellsOf v).length) (es := [v]) (cs := c.cells) (ty := elem) (fun e he => by simp at he; subst he; rfl) nofun (fun _ e he => by simp at he; subst he; exact g4) nofun (by simp; omega) (fun E' p hE j t e x h1 h2 => by
    cases j with
    | succ j => simp at h1
    | zero =>
      simp at h1; subst h1
      have ht := (List.getElem?_eq_some_iff.1 h2).1
      have ht2 : t < c.cells.size := by omega
      exact ⟨c.cells[t], by simp [ht2], V.p p (g2 t x _ h2 (by simp [ht2]))⟩)
  refine ⟨_, _, E', by simp [newVar, newRow], snoc_spec h, s', .prow _ _ _ _ (by simp) fun k2 sz2 es2 h2 => ?_⟩
  rw [ent_snoc, if_pos rfl] at h2
  cases h2
  simp [hL]
theorem zeros_get (z : Array Value) (n sz q : Nat) (hz : z.size = sz) (hq : q < n * sz) : ((Array.range (n * sz)).map (fun i => z[i % z.size]!))[q]? = z[q % sz]? := by
  have hpos : 0 < sz := by
    rcases Nat.eq_zero_or_pos sz with h | h
    · subst h; simp at hq
    · exact h
  have : q % sz < z.size := by rw [hz]; exact Nat.mod_lt _ hpos
  rw [hz] at this
  simp [hq, hz, this]
theorem mod_cell {j sz t : Nat} (ht : t < sz) : (j * sz + t) % sz = t := by
  rw [Nat.add_comm, Nat.add_mul_mod_self_right, Nat.mod_eq_of_lt ht]
/-- A row of zero elements. -/
theorem zero_push (s : Sat Γ E ts tab a w) {kd : Kind} {sz n cn : Nat} {z : Value} {zz : AV} {ty : TypeId} (hk1 : kd = .nest → sz = 1) (hz : (cellsOf (ofVal z)).length = sz) (hok : zeroOk kd (ofVal z) = true) (hn : n ≤ cn) (hzz : zz = ofVal z ∨ (kd = .nest ∧ ∃ n2, zz = .sl n2 [])) :
    ∃ E', Pres (fun _ => False) E (zone Γ E) tab w E' (zone Γ E') (tab ++ [.row kd sz (List.replicate n zz)]) (w.alloc (.cells ((Array.range (cn * sz)).map (fun i => z.cells[i % z.cells.size]!)) ty)) ∧
      Sat Γ E' ts (tab ++ [.row kd sz (List.replicate n zz)]) a (w.alloc (.cells ((Array.range (cn * sz)).map (fun i => z.cells[i % z.cells.size]!)) ty)) ∧ E'.L tab.length = w.heap.size ∧ E'.O w.heap.size = some (tab.length, none) := by
  have hz2 : z.cells.size = sz := by rw [← hz, ofVal_cells]
  have hz3 : (cellsOf zz).length = sz := by
    rcases hzz with h | ⟨h, n2, rfl⟩
    · rw [h]; exact hz
    · rw [hk1 h]; rfl
  refine s.push (k := kd) (sz := sz) (es := List.replicate n zz) (fun e he => by rw [List.eq_of_mem_replicate he]; exact hz3) (fun hp e he => ?_) (fun h e he => by
    subst h
    rw [List.eq_of_mem_replicate he, hzz.resolve_right fun h => nomatch h.1]
    exact ((Bool.and_eq_true _ _).mp hok).1) hk1 (by simp; exact Nat.mul_le_mul_right sz hn) (fun E' p hE j t e x h1 h2 => ?_)
  · subst hp
    rw [List.eq_of_mem_replicate he]
    rcases hzz with h | ⟨h, _⟩
    · rw [h]; exact List.all_eq_true.1 hok
    · cases h
  · have hj := (List.getElem?_eq_some_iff.1 h1).1
    simp at hj
    rw [List.getElem?_replicate, if_pos hj] at h1
    cases h1
    have ht := (List.getElem?_eq_some_iff.1 h2).1
    rw [hz3] at ht
    have hq : j * sz + t < cn * sz := Nat.lt_of_lt_of_le (mul_lt hj ht) (Nat.mul_le_mul_right sz hn)
    rw [zeros_get z.cells cn sz _ hz2 hq, mod_cell ht]
    have ht2 : t < z.cells.size := by omega
    refine ⟨z.cells[t], by simp [ht2], ?_⟩
    have hr := Rep.ofVal (zone Γ E') (w.alloc (.cells ((Array.range (cn * sz)).map (fun i => z.cells[i % z.cells.size]!)) ty)) z
    cases kd with
    | var =>
      have hzz : zz = ofVal z := hzz.resolve_right fun h => nomatch h.1
      subst hzz
      obtain ⟨_, h3, _⟩ := hr.cells (List.all_eq_true.1 ((Bool.and_eq_true _ _).mp hok).2)
      exact .imm (h3 t x _ h2 (by simp [ht2]))
    | plain =>
      have hzz : zz = ofVal z := hzz.resolve_right fun h => nomatch h.1
      subst hzz
      obtain ⟨_, h3, _⟩ := hr.cells (List.all_eq_true.1 hok)
      exact h3 t x _ h2 (by simp [ht2])
    | nest =>
      have hs1 := hk1 rfl
      subst hs1
      have ht0 : t = 0 := by omega
      subst ht0
      have hzn : ofVal z = .nilsl := by
        unfold zeroOk at hok
        revert hok
        cases ofVal z <;> simp
      rw [hzn] at hr hzz
      have hc : z.cells[0] = .slice none 0 0 := by
        cases hr
        rfl
      rw [hc]
      rcases hzz with rfl | ⟨_, n2, rfl⟩
      · simp [cellsOf] at h2
        subst h2
        rfl
      · simp [cellsOf] at h2
        subst h2
        exact ⟨0, ⟨none, 0, rfl, Nat.le_refl _, .inl rfl⟩, nofun, nofun, fun h => (h rfl).elim⟩
theorem foldl_wrote (vs : List Value) : ∀ (cs : Array Value) (off : Nat) , (vs.zipIdx.foldl (fun cs (p : Value × Nat) => cs.setIfInBounds (off + p.2) p.1) cs) = wrote cs off vs := by
  suffices h : ∀ (k : Nat) (cs : Array Value) (off : Nat), ((vs.zipIdx k).foldl (fun cs (p : Value × Nat) => cs.setIfInBounds (off + p.2) p.1) cs) = wrote cs (off + k) vs by
    intro cs off; exact h 0 cs off
  induction vs with
  | nil => intro k cs off; rfl
  | cons v vs ih => intro k cs off; simp only [List.zipIdx_cons, List.foldl_cons, wrote]; rw [ih]; rfl
theorem fill_step {place : Nat → Option (Nat × Nat)} {cs : Array Value} {i off : Nat} {v : Value} {rest : List (Nat × Value)} (hp : place i = some (off, v.cells.size)) (hf : off + v.cells.size ≤ cs.size) :
    Instr.fill place cs ((i, v) :: rest) = Instr.fill place (wrote cs off v.cells.toList) rest := by
  rw [Instr.fill]
  simp only [hp]
  rw [if_neg (by simp; omega)]
  congr 1
  rw [← foldl_wrote, ← Array.toList_zipIdx, Array.foldl_toList]
theorem setRow_alloc {cs cs' : Array Value} {ty : TypeId} : SetRow (w.alloc (.cells cs ty)) (w.alloc (.cells cs' ty)) w.heap.size cs' ty (0, 0) := by
  refine ⟨heap_alloc_new w _, fun b hb => ?_, by simp, rfl, rfl, rfl⟩
  show (w.heap.push _)[b]? = (w.heap.push _)[b]?
  rw [Array.getElem?_push, Array.getElem?_push, if_neg hb, if_neg hb]
end
end Sx

/- Slices that are made, literals. -/
set_option linter.unusedVariables false
namespace Sx
open Go Go.RowKit
section
variable {E : Env} {tab : List Ent} {P : Program} {w : World} {Γ : Ctx} {ts : List AV} {a : Act}
/-- Values are carried along behind the temporaries. -/
def Act.more (a : Act) (cs : List Value) : Act := { a with tmps := a.tmps ++ cs.toArray }
theorem Sat.ext (s : Sat Γ E ts tab a w) {vs : List AV} {cs : List Value} (h : Vs E (zone Γ E) tab w vs cs) : Sat Γ E (ts ++ vs) tab (Act.more a cs) w := by
  refine { s with len := ?_, vals := fun i v c h1 h2 => ?_ }
  · simp [Act.more, s.len, h.1]
  · simp only [Act.more] at h2
    by_cases hi : i < ts.length
    · rw [List.getElem?_append_left hi] at h1
      rw [Array.getElem?_append_left (by rw [s.len]; exact hi)] at h2
      exact s.vals i v c h1 h2
    · rw [List.getElem?_append_right (by omega)] at h1
      rw [Array.getElem?_append_right (by rw [s.len]; omega), s.len] at h2
      exact h.2 _ v c h1 (by simpa using h2)
theorem Sat.back {ts2 vs : List AV} {cs : List Value} (hl : a.tmps.size = ts.length) (h2 : ts2 = ts ++ vs) (hv : vs.length = cs.length) (s : Sat Γ E ts2 tab (Act.more a cs) w) : Sat Γ E ts tab a w ∧ Vs E (zone Γ E) tab w vs cs := by
  subst h2
  refine ⟨{ s with len := hl, vals := fun i v c h1 h2 => ?_ }, hv, fun i v c h1 h2 => ?_⟩
  · have hi := (List.getElem?_eq_some_iff.1 h1).1
    exact s.vals i v c (by rw [List.getElem?_append_left hi]; exact h1) (by simp only [Act.more]; rw [Array.getElem?_append_left (by omega)]; exact h2)
  · refine s.vals (ts.length + i) v c (by rw [List.getElem?_append_right (by omega)]; simpa using h1) ?_
    simp only [Act.more]
    rw [Array.getElem?_append_right (by omega), hl]
    simpa using h2
/-- A value that is at hand. -/
def At (ts : List AV) (a : Act) (v : AV) (c : Value) : Prop := ∃ q : Nat, ts[q]? = some v ∧ a.tmps[q]? = some c
def Ps (ts : List AV) (a : Act) : List (Nat × AV) → List (Nat × Value) → Prop
  | [], [] => True
  | (i, v) :: ps, (j, c) :: cs => i = j ∧ At ts a v c ∧ Ps ts a ps cs
  | _, _ => False
theorem At.v {v : AV} {c : Value} (h : At ts a v c) (s : Sat Γ E ts tab a w) : V E (zone Γ E) tab w v c := by
  obtain ⟨q, h1, h2⟩ := h
  exact s.vals q v c h1 h2
/-- What `mov1` gives up. -/
def gone (tab : List Ent) : Option Nat → List Ent
  | some k0 => tab.set k0 .dead
  | none => tab
theorem mov1_gone {v : AV} {c : Value} {k : AV → List Ent → Prop} (h : mov1 v tab k) (hv : V E (zone Γ E) tab w v c) :
    ∃ v' k0, k v' (gone tab k0) ∧ (c.oneCell' = true ∧ (cellsOf v).length = 1) ∧ (match k0 with
      | some k0 => ∃ sz0 es0, ent tab k0 = .row .plain sz0 es0 ∧ v' = .sl sz0 es0 ∧ V E (zone Γ E) tab w (.loc k0) c
      | none => (v' = .nilsl ∧ c = .slice none 0 0) ∨ (v' = .emp ∧ ∃ a, c = .slice a 0 0)) := by
  obtain ⟨v', k0, h1, h2, h3⟩ := mov1_sound h hv
  exact ⟨v', k0, by cases k0 <;> exact h1, h2, h3⟩
theorem Sat.putGone (s : Sat Γ E ts tab a w) {i j : Nat} {es : List AV} {cs : Array Value} {ty : TypeId} {fr : Nat × Nat} {w' : World} {v : AV} {c : Value} {k0 : Option Nat}
    (hfree : ∀ x ∈ ts, Free (· = i) x) (he : ent tab i = .row .nest 1 es) (hj : j < es.length) (ho : E.O (E.L i) = some (i, none)) (hh : w.heap[E.L i]? = some (.cells cs ty fr)) (hu : unfr cs fr) (hs : es.length * 1 ≤ cs.size)
    (hw : SetRow w w' (E.L i) (cs.setIfInBounds j c) ty fr)
    (hv : match k0 with
      | some k0 => ∃ sz0 es0, ent tab k0 = .row .plain sz0 es0 ∧ v = .sl sz0 es0 ∧ V E (zone Γ E) tab w (.loc k0) c
      | none => (v = .nilsl ∧ c = .slice none 0 0) ∨ (v = .emp ∧ ∃ a, c = .slice a 0 0)) :
    ∃ E', Sat Γ E' ts ((gone tab k0).set i (.row .nest 1 (es.set j v))) a w' := by
  obtain ⟨E', h⟩ := s.put hfree he hj ho hh hu hs hw hv
  exact ⟨E', by cases k0 <;> exact h⟩
theorem putsW_sound {fz : Bool} {n sz0 len : Nat} {ty : TypeId} (hm : NoMut Γ fz) : ∀ {ps : List (Nat × AV)} {cps : List (Nat × Value)} {E : Env} {tab : List Ent} {cs : Array Value} {k : List Ent → Prop} {kd : Kind} {es0 : List AV}, putsW fz n ps tab k →
    Sat Γ E ts tab a (w.alloc (.cells cs ty)) → (∀ x ∈ ts, Free (· = n) x) → Ps ts a ps cps → At ts a (.prow n 0 0) (.pointer (some ⟨w.heap.size, 0, none⟩)) → ent tab n = .row kd sz0 es0 → es0.length = len → 0 < len → cs.size = len * sz0 →
    ∃ cs' E' tab' kd es', Instr.fill (fun i => some (i * sz0, sz0)) cs cps = some cs' ∧ k tab' ∧ Sat Γ E' ts tab' a (w.alloc (.cells cs' ty)) ∧ ent tab' n = .row kd sz0 es' ∧ es'.length = len ∧ cs'.size = len * sz0
  | [], cps, E, tab, cs, k, kd, es0, h, s, hf, hp, hn, he, hl, hpos, hcs => by
    cases cps with
    | nil => exact ⟨cs, E, tab, kd, es0, rfl, h, s, he, hl, hcs⟩
    | cons p ps => exact hp.elim
  | (i, v) :: ps, cps, E, tab, cs, k, kd, es0, h, s, hf, hp, hn, he, hl, hpos, hcs => by
    cases cps with
    | nil => exact hp.elim
    | cons p cps =>
      obtain ⟨i', c⟩ := p
      obtain ⟨rfl, hv, hp⟩ := hp
      have hv := hv.v s
      have blk : ∀ {E : Env} {tab : List Ent} {kd : Kind} {sz : Nat} {es : List AV}, Sat Γ E ts tab a (w.alloc (.cells cs ty)) → ent tab n = .row kd sz es → E.L n = w.heap.size := fun s he => by
        have := (hn.v s).prow_inv.2 _ _ _ he
        simp at this
        exact this.symm
      have hhere : (w.alloc (.cells cs ty)).heap[w.heap.size]? = some (.cells cs ty (0, 0)) := heap_alloc_new w _
      rw [putsW_cons] at h
      split at h
      · rename_i sz0 es1 he1
        rw [he] at he1; cases he1
        obtain ⟨v', k0, h, ⟨hone, hv1⟩, hk0⟩ := mov1_gone h hv
        obtain ⟨tk, htk⟩ : ∃ t : List Ent, t = gone tab k0 := ⟨_, rfl⟩
        rw [← htk] at h
        split at h
        · rename_i sz es he2
          have hkn : k0 ≠ some n := fun e => by
            subst e
            obtain ⟨sz0, es0, h1, _⟩ := hk0
            rw [he] at h1; cases h1
          have he3 : ent tk n = ent tab n := by
            subst htk
            cases k0 with
            | none => rfl
            | some k0 =>
              obtain ⟨sz0, es0, h1, _⟩ := hk0
              show ent (tab.set k0 .dead) n = _
              rw [ent_set (ent_lt h1), if_neg (fun e => hkn (by rw [e]))]
          rw [he3, he] at he2; cases he2
          obtain ⟨hi, h⟩ := lset_spec h
          obtain ⟨_, h⟩ := eset_spec h
          have hent := s.ents n
          rw [he] at hent
          obtain ⟨h1, h2, _, _, h3⟩ := hent
          have hs1 := h2 rfl
          subst hs1
          obtain ⟨ho, cs1, ty1, fr1, hh, hu, hs, hc⟩ := h3 (by intro e; subst e; simp at hl; omega)
          have hL := blk s he
          rw [hL, hhere] at hh
          cases hh
          rw [hL] at ho
          obtain ⟨E', s'⟩ := s.putGone (v := v') (c := c) (k0 := k0) (w' := w.alloc (.cells (cs.setIfInBounds i c) ty)) hf he hi (by rw [hL]; exact ho) (by rw [hL]; exact hhere) (fun j _ => by simp) hs (by rw [hL]; exact setRow_alloc) hk0
          rw [← htk] at s'
          have hvc : c.cells = #[c] := by
            unfold Value.cells
            split
            · cases hone
            · rfl
          have ent' : ent (tk.set n (.row .nest 1 (es0.set i v'))) n = .row .nest 1 (es0.set i v') := by
            rw [ent_set (by have := ent_lt he; subst htk; cases k0 <;> simpa [gone] using this), if_pos rfl]
          obtain ⟨cs', E2, tab', kd', es', g1, g2, g3, g4, g5, g6⟩ := putsW_sound hm h s' hf hp hn ent' (by simpa using hl) hpos (by simpa using hcs)
          refine ⟨cs', E2, tab', kd', es', ?_, g2, g3, g4, g5, g6⟩
          rw [fill_step (off := i * 1) (by rw [hvc]; rfl) (by rw [hvc]; simp; omega), hvc]
          simpa [wrote] using g1
        · exact h.elim
      · rename_i sz0 es1 he1
        rw [he] at he1; cases he1
        obtain ⟨hb, h⟩ := h
        have hb := Nat.eq_of_beq_eq_true hb
        obtain ⟨v', tab1, E1, h, p2, s', hok, hr, hlen⟩ := frz2_sound h s hm hv
        split at h
        · rename_i sz es he2
          obtain ⟨hi, h⟩ := lset_spec h
          obtain ⟨_, h⟩ := eset_spec h
          obtain ⟨_, es2, he3, hlen2⟩ := p2.row n (ent_lt he) _ _ _ he2
          rw [he] at he3; cases he3
          have hent := s'.ents n
          rw [he2] at hent
          obtain ⟨h1, _, h2, _, h3⟩ := hent
          obtain ⟨ho, cs1, ty1, fr1, hh, hu, hs, hc⟩ := h3 (by intro e; subst e; simp at hi)
          have hL := blk s' he2
          rw [hL, hhere] at hh
          cases hh
          rw [hL] at ho
          obtain ⟨g1, g2, g3⟩ := hr.cells hok
          have hcc : c.cells.size = sz0 := by omega
          have hj : es[i]? = some es[i] := by simp [hi]
          have hl0 := h1 _ (mem_of_get hj)
          have hcm : cellsOf v' = splice (cellsOf es[i]) 0 (cellsOf v') := by
            have : (cellsOf es[i]).drop (cellsOf v').length = [] := List.drop_eq_nil_of_le (by omega)
            cases hq : cellsOf es[i] with
            | nil => rw [hq] at this; simp [splice]
            | cons x xs => rw [hq] at this; simp [splice, this]
          have hE : i * sz0 + 0 = i * sz0 := rfl
          have s2 := s'.write (k := .plain) (w' := w.alloc (.cells (wrote cs (i * sz0 + 0) c.cells.toList) ty)) he2 nofun (es' := es.set i v') (by simp) (elemsOk_set h1 (by omega)) (fun _ e hm => by
            rcases set_cells_mem hm with hm | rfl
            · exact h2 rfl e hm
            · exact hok) nofun (by rw [hL]; exact ho) (by rw [hL]; exact hhere) (fun j _ => by simp) (by rw [hL]; exact setRow_alloc) (wrote_size _ _ _) hs
            (upd_cells (X := Rep (zone Γ E1) (w.alloc (.cells cs ty))) h1 hs hc hj (by simpa using g1) (by omega) hcm (fun i x y q1 q2 => g2 i x y q1 (by simpa using q2)))
          have ent' : ent (tab1.set n (.row .plain sz0 (es.set i v'))) n = .row .plain sz0 (es.set i v') := by
            rw [ent_set (ent_lt he2), if_pos rfl]
          obtain ⟨cs', E2, tab', kd', es', q1, q2, q3, q4, q5, q6⟩ := putsW_sound hm h s2 hf hp hn ent' (by simp; omega) hpos (by rw [wrote_size]; exact hcs)
          refine ⟨cs', E2, tab', kd', es', ?_, q2, q3, q4, q5, q6⟩
          have hin : i * sz0 + sz0 ≤ len * sz0 := by
            have : (i + 1) * sz0 ≤ len * sz0 := Nat.mul_le_mul_right sz0 (by omega)
            rwa [Nat.add_mul, Nat.one_mul] at this
          rw [fill_step (off := i * sz0) (by rw [hcc]) (by omega)]
          exact q1
        · exact h.elim
      · rename_i sz1 es1 he1
        rw [he] at he1; cases he1
        obtain ⟨hb, hok, h⟩ := h
        have hb := Nat.eq_of_beq_eq_true hb
        obtain ⟨hi, h⟩ := lset_spec h
        obtain ⟨_, h⟩ := eset_spec h
        have hent := s.ents n
        rw [he] at hent
        obtain ⟨h1, _, _, h2, h3⟩ := hent
        obtain ⟨ho, cs1, ty1, fr1, hh, hu, hs, hc⟩ := h3 (by intro e; subst e; simp at hi)
        have hL := blk s he
        rw [hL, hhere] at hh
        cases hh
        rw [hL] at ho
        obtain ⟨g1, g2, g3, g4, g5⟩ := okSt_cells hok hv
        have hcc : c.cells.size = sz0 := by omega
        have hj : es0[i]? = some es0[i] := by simp [hi]
        have hl0 := h1 _ (mem_of_get hj)
        have hcm : cellsOf v = splice (cellsOf es0[i]) 0 (cellsOf v) := by
          have : (cellsOf es0[i]).drop (cellsOf v).length = [] := List.drop_eq_nil_of_le (by omega)
          cases hq : cellsOf es0[i] with
          | nil => rw [hq] at this; simp [splice]
          | cons x xs => rw [hq] at this; simp [splice, this]
        have s2 := s.write (k := .var) (w' := w.alloc (.cells (wrote cs (i * sz0 + 0) c.cells.toList) ty)) he nofun (es' := es0.set i v) (by simp) (elemsOk_set h1 (by omega)) nofun (fun _ e hm => by
          rcases List.mem_or_eq_of_mem_set hm with hm | rfl
          · exact h2 rfl e hm
          · exact g4) (by rw [hL]; exact ho) (by rw [hL]; exact hhere) (fun j _ => by simp) (by rw [hL]; exact setRow_alloc) (wrote_size _ _ _) hs
          (upd_cells (X := V E (zone Γ E) tab (w.alloc (.cells cs ty))) h1 hs hc hj (by simpa using g1) (by omega) hcm (fun i x y q1 q2 => g2 i x y q1 (by simpa using q2)))
        have ent' : ent (tab.set n (.row .var sz0 (es0.set i v))) n = .row .var sz0 (es0.set i v) := by
          rw [ent_set (ent_lt he), if_pos rfl]
        obtain ⟨cs', E2, tab', kd', es', q1, q2, q3, q4, q5, q6⟩ := putsW_sound hm h s2 hf hp hn ent' (by simp; omega) hpos (by rw [wrote_size]; exact hcs)
        refine ⟨cs', E2, tab', kd', es', ?_, q2, q3, q4, q5, q6⟩
        have hin : i * sz0 + sz0 ≤ len * sz0 := by
          have : (i + 1) * sz0 ≤ len * sz0 := Nat.mul_le_mul_right sz0 (by omega)
          rwa [Nat.add_mul, Nat.one_mul] at this
        rw [fill_step (off := i * sz0) (by rw [hcc]) (by omega)]
        exact q1
      · exact h.elim
theorem Sat.alloc (s : Sat Γ E ts tab a w) (o : Obj) : Pres (fun _ => False) E (zone Γ E) tab w E (zone Γ E) tab (w.alloc o) ∧ Sat Γ E ts tab a (w.alloc o) := by
  have old : ∀ b, b < w.heap.size → (w.alloc o).heap[b]? = w.heap[b]? := fun b hb => Below.heap_alloc w _ b hb
  have hlt : ∀ {b : Nat} {x}, w.heap[b]? = some x → b < w.heap.size := fun h => (Array.getElem?_eq_some_iff.1 h).1
  exact s.step (X := fun _ => False) (E' := E) (tab' := tab) (fun _ _ => .inl fun _ => id) (Nat.le_refl _) (fun b h hb => ⟨h, old b hb⟩) (fun i _ k sz es' he => ⟨rfl, es', he, rfl⟩)
    (fun i _ k sz es' he ho => ⟨ho, fun cs ty fr h => ⟨cs, ty, (old _ (hlt h)).trans h, rfl⟩⟩) (fun i _ _ sz es' he j sz' es1 hj => ⟨es', es1, he, hj, fun cs ty fr c h1 h2 => ⟨cs, ty, fr, (old _ (hlt h1)).trans h1, h2⟩⟩)
    (fun _ i => .inl ⟨rfl, rfl, fun b x h => ⟨h, old b (s.own b _ h)⟩⟩) (fun b x h => Nat.lt_of_lt_of_le (s.own b x h) (by simp)) rfl rfl rfl (by simp)
/-- Parts, with their places. -/
def PVs (E : Env) (Z : Nat → Prop) (tab : List Ent) (w : World) (ps : List (Nat × AV)) (cs : List (Nat × Value)) : Prop :=
  ps.map Prod.fst = cs.map Prod.fst ∧ Vs E Z tab w (ps.map Prod.snd) (cs.map Prod.snd)
theorem evp_sound {os : List (Nat × Operand)} {k : List (Nat × AV) → Prop} (h : evp ts os k) (s : Sat Γ E ts tab a w) : ∃ vs, k vs ∧ PVs E (zone Γ E) tab w vs (os.map fun (i, x) => (i, a.eval x)) := by
  induction os generalizing k with
  | nil => exact ⟨[], h, rfl, .nil⟩
  | cons o os ih =>
    obtain ⟨i, o⟩ := o
    obtain ⟨v, h1, h2⟩ := ev_sound h s
    obtain ⟨vs, h3, h4, h5⟩ := ih (k := fun vs => k ((i, v) :: vs)) h1
    exact ⟨(i, v) :: vs, h3, by simp [h4], .cons h2 h5⟩
theorem ps_of {a2 : Act} : ∀ {ps : List (Nat × AV)} {cs : List (Nat × Value)} {pre : List AV} {cpre : List Value}, ps.map Prod.fst = cs.map Prod.fst → pre.length = cpre.length → ts = pre ++ ps.map Prod.snd → a2.tmps.toList = cpre ++ cs.map Prod.snd → Ps ts a2 ps cs
  | [], [], _, _, _, _, _, _ => trivial
  | [], _ :: _, _, _, h, _, _, _ => by simp at h
  | _ :: _, [], _, _, h, _, _, _ => by simp at h
  | (i, v) :: ps, (j, c) :: cs, pre, cpre, h, hl, h1, h2 => by
    simp at h
    refine ⟨h.1, ⟨pre.length, by rw [h1]; simp, ?_⟩, ps_of (pre := pre ++ [v]) (cpre := cpre ++ [c]) h.2 (by simp [hl]) (by rw [h1]; simp) (by rw [h2]; simp)⟩
    rw [← Array.getElem?_toList, h2, hl]; simp
theorem reps_eq (n : Nat) (v : AV) : reps n v = List.replicate n v := by
  induction n with
  | zero => rfl
  | succ n ih => simp [reps, ih, List.replicate_succ]
theorem zeroValue_run {t : TypeId} {i : TypeInfo} {z : Value} (hi : tinfo P t = some i) (hz : i.zero = some z) (w : World) : (zeroValue t).run P w = .ok z w := by
  simp [zeroValue, run_typeInfo w (tinfo_ok hi), hz]
theorem kindOf_nest {nest : Bool} {P : Program} {t : TypeId} (h : kindOf nest P t = .nest) : siz P t = 1 := by
  unfold kindOf at h
  repeat' split at h
  all_goals first | cases h | skip
  rename_i hb
  exact Nat.eq_of_beq_eq_true hb
theorem kindB_nest {fz nest : Bool} {P : Program} {t : TypeId} (h : kindB fz nest P t = .nest) : siz P t = 1 := by
  unfold kindB at h
  split at h
  · exact kindOf_nest h
  · split at h
    · cases h
    · exact kindOf_nest h
theorem buildSliceW_sound {nest fz : Bool} {t : TypeId} {len : Nat} {ps : List (Nat × AV)} {cps : List (Nat × Value)} {k : AV → List Ent → Prop} (h : buildSliceW nest fz P t len ps tab k) (s : Sat Γ E ts tab a w) (hm : NoMut Γ fz) (hp : PVs E (zone Γ E) tab w ps cps) :
    ∃ v tab' E' c w', (Instr.buildSlice t len cps.toArray).run P w = .ok c w' ∧ k v tab' ∧ Sat Γ E' ts tab' a w' ∧ V E' (zone Γ E') tab' w' v c := by
  unfold buildSliceW at h
  split at h
  · rename_i elem hu
    obtain ⟨hpos, h⟩ := h
    have hpos : 0 < siz P elem := by simpa using hpos
    obtain ⟨it, hit⟩ := siz_tinfo hpos
    split at h
    · obtain ⟨rfl, h⟩ := h
      have hc : cps = [] := by have := hp.1; simpa using this.symm
      subst hc
      refine ⟨.emp, tab, E, .slice (some ⟨w.heap.size, 0, none⟩) 0 0, w.alloc (.cells #[] elem), ?_, h, (s.alloc _).2, .imm (.emp _)⟩
      have e0 : ∀ f : Nat → Value, (Array.range 0).map f = #[] := fun f => by apply Array.eq_empty_of_size_eq_zero; simp
      simp [Instr.buildSlice, run_und hu, run_siz hit, Instr.fill, newRow, e0]
    · rename_i len
      obtain ⟨hbig, h⟩ := h
      have hbig : (len + 1) * siz P elem ≤ 16777216 := by simpa using hbig
      obtain ⟨i, z, q1, q2, q3, q4, h⟩ := zer_sound h
      have h := snoc_spec (lnorm_iff h)
      rw [reps_eq] at h
      have hcl : (cellsOf (ofVal z)).length = siz P elem := Nat.eq_of_beq_eq_true q3
      have hzs : z.cells.size = siz P elem := by rw [← hcl, ofVal_cells]
      obtain ⟨E', p, s', hL, hO⟩ := zero_push (ty := elem) (cn := len + 1) s kindB_nest hcl q4 (Nat.le_refl _) (.inl rfl)
      obtain ⟨pf, pv⟩ := hp
      have hvn : V E' (zone Γ E') (tab ++ [.row (kindB fz nest P elem) (siz P elem) (List.replicate (len + 1) (ofVal z))]) (w.alloc (.cells ((Array.range ((len + 1) * siz P elem)).map (fun i => z.cells[i % z.cells.size]!)) elem)) (.prow tab.length 0 0) (.pointer (some ⟨w.heap.size, 0, none⟩)) :=
        .prow _ _ _ _ (by simp) fun k2 sz2 es2 h2 => by simp [hL]
      have pv' : Vs E' (zone Γ E') (tab ++ [.row (kindB fz nest P elem) (siz P elem) (List.replicate (len + 1) (ofVal z))]) (w.alloc (.cells ((Array.range ((len + 1) * siz P elem)).map (fun i => z.cells[i % z.cells.size]!)) elem)) (ps.map Prod.snd) (cps.map Prod.snd) :=
        ⟨pv.1, fun i v c h1 h2 => (pv.2 i v c h1 h2).p p⟩
      have s2 := s'.ext (Vs.cons hvn pv')
      have free : ∀ x ∈ ts ++ .prow tab.length 0 0 :: ps.map Prod.snd, Free (· = tab.length) x := fun x hx => by
        rcases List.mem_append.1 hx with hx | hx
        · exact s.free x hx
        · rcases List.mem_cons.1 hx with rfl | hx
          · exact .simple _ rfl
          · obtain ⟨j, hj, rfl⟩ := List.getElem_of_mem hx
            have hj2 : j < (cps.map Prod.snd).length := by rw [← pv.1]; exact hj
            exact (pv.2 j _ _ (List.getElem?_eq_getElem hj) (List.getElem?_eq_getElem hj2)).free (Nat.le_refl _)
      have hps : Ps (ts ++ .prow tab.length 0 0 :: ps.map Prod.snd) (Act.more a (.pointer (some ⟨w.heap.size, 0, none⟩) :: cps.map Prod.snd)) ps cps :=
        ps_of (pre := ts ++ [.prow tab.length 0 0]) (cpre := a.tmps.toList ++ [.pointer (some ⟨w.heap.size, 0, none⟩)]) pf (by simp [s.len]) (by simp) (by simp [Act.more])
      have hat : At (ts ++ .prow tab.length 0 0 :: ps.map Prod.snd) (Act.more a (.pointer (some ⟨w.heap.size, 0, none⟩) :: cps.map Prod.snd)) (.prow tab.length 0 0) (.pointer (some ⟨w.heap.size, 0, none⟩)) :=
        ⟨ts.length, by simp, by simp [Act.more, ← s.len]⟩
      obtain ⟨cs', E2, tab2, kd2, es2, g1, g2, g3, g4, g5, g6⟩ := putsW_sound hm h s2 free hps hat (by rw [ent_snoc, if_pos rfl]) (List.length_replicate) (by omega) (by simp)
      have hL2 : E2.L tab.length = w.heap.size := by
        have := (hat.v g3).prow_inv.2 _ _ _ g4
        simp at this
        exact this.symm
      obtain ⟨s3, _⟩ := Sat.back s.len rfl (by simp [pv.1]) g3
      refine ⟨_, tab2, E2, .slice (some ⟨w.heap.size, 0, none⟩) (len + 1) (len + 1), _, ?_, g2, s3, .loc _ _ (ent_lt g4) fun k3 sz3 es3 h3 => ?_⟩
      · have hne : ¬ ((len + 1) * siz P elem = 0) := by
          have : 0 < (len + 1) * siz P elem := Nat.mul_pos (by omega) hpos
          omega
        have hng : ¬ (16777216 < (len + 1) * siz P elem) := by omega
        simp [Instr.buildSlice, run_und hu, run_siz hit, zeroValue_run q1 q2, newRow, hng, hne, g1]
      · rw [g4] at h3
        cases h3
        have hent := s3.ents tab.length
        rw [g4] at hent
        obtain ⟨ho, cs4, ty4, fr4, hh, hu4, hs4, _⟩ := hent.2.2.2.2 (by intro e; subst e; simp at g5)
        refine ⟨_, _, by rw [g5], Nat.le_refl _, .inr ⟨by simp [hL2], ho, cs4, ty4, fr4, hh, hu4, by simpa using hs4⟩⟩
  · exact h.elim
theorem clearW_sound {t ty : TypeId} {x : AV} {cx : Value} {k : AV → List Ent → Prop} (h : clearW P t x tab k) (s : Sat Γ E ts tab a w) (hx : V E (zone Γ E) tab w x cx) :
    ∃ v tab' w', (Builtin.clear_ #[t] ty #[cx]).run P w = .ok (.tuple #[]) w' ∧ k v tab' ∧ Sat Γ E ts tab' a w' ∧ v = .tuple [] := by
  unfold clearW at h
  split at h
  · rename_i elem hu
    split at h
    · rename_i i off len
      split at h
      · rename_i sz es he
        obtain ⟨hsz, hpos, h⟩ := h
        have hpos : 0 < sz := by simpa using hpos
        subst hsz
        obtain ⟨it, z, q1, q2, q3, q4, h⟩ := zer_sound h
        have h := h.o
        have hi := ent_lt he
        obtain ⟨hsl, hol⟩ := hx.part_inv.2 _ _ _ he
        obtain ⟨a', cap, rfl, hle, hx'⟩ := id hsl
        obtain ⟨_, h⟩ := eset_spec h
        have hcl : (cellsOf (ofVal z)).length = siz P elem := Nat.eq_of_beq_eq_true q3
        have hzs : z.cells.size = siz P elem := by rw [← hcl, ofVal_cells]
        by_cases h0 : len = 0
        · subst h0
          have e1 : es.take off ++ List.replicate 0 (ofVal z) ++ es.drop (off + 0) = es := by simp
          rw [e1, ent_same he hi] at h
          refine ⟨_, _, w, ?_, h, s, rfl⟩
          cases a' <;> simp [Builtin.clear_, run_und hu]
        · obtain ⟨rfl, ho, cs, ty2, fr, hh, hu2, hcs⟩ := hx'.resolve_left (by omega)
          have hne : es ≠ [] := by rintro rfl; simp at hol; omega
          have hall : ∀ x ∈ cellsOf (ofVal z), okCell x = true := List.all_eq_true.1 q4
          obtain ⟨_, hr3, _⟩ := (Rep.ofVal (zone Γ E) w z).cells hall
          have hget : ∀ (j t : Nat), j < len → t < siz P elem → (Builtin.zeroCells z.cells len).toList[j * siz P elem + t]? = z.cells[t]? := fun j t hj ht => by
            have hq : j * siz P elem + t < len * siz P elem := mul_lt hj ht
            have := zeros_get z.cells len (siz P elem) _ hzs hq
            rw [mod_cell ht] at this
            rw [← this]
            unfold Builtin.zeroCells
            rw [hzs, Array.getElem?_toList]
          obtain ⟨w', hst, s', _⟩ := s.writePart (P := P) (o := off) (xs := List.replicate len (ofVal z)) (news := (Builtin.zeroCells z.cells len).toList) he hne (by simpa using hol) (by simp [Builtin.zeroCells, hzs]) (fun u hu => by
              obtain ⟨q, hq, rfl⟩ := List.getElem_of_mem hu
              have hq2 : q < len * siz P elem := by simpa [Builtin.zeroCells, hzs] using hq
              have hq3 := Nat.div_add_mod q (siz P elem)
              have ht := Nat.mod_lt q hpos
              have hj : q / siz P elem < len := Nat.div_lt_of_lt_mul (by rw [Nat.mul_comm]; exact hq2)
              have h5 := hget (q / siz P elem) (q % siz P elem) hj ht
              rw [Nat.mul_comm, hq3] at h5
              have h6 : z.cells[q % siz P elem]? = some (z.cells[q % siz P elem]'(by omega)) := by simp [hzs, ht]
              rw [h6, List.getElem?_eq_getElem hq] at h5
              have h7 : (cellsOf (ofVal z))[q % siz P elem]? = some ((cellsOf (ofVal z))[q % siz P elem]'(by omega)) := by simp [hcl, ht]
              have h8 := hr3 _ _ _ h7 h6
              rw [Option.some.inj h5]
              exact h8.one (hall _ (List.getElem_mem _))) (fun e he => by rw [List.eq_of_mem_replicate he]; exact hcl) (fun e he => by rw [List.eq_of_mem_replicate he]; exact hall)
            (fun j t e v e1 e2 => by
              rw [List.getElem?_replicate] at e1
              split at e1
              · rename_i hj
                cases e1
                have ht := (List.getElem?_eq_some_iff.1 e2).1
                rw [hcl] at ht
                have h6 : z.cells[t]? = some (z.cells[t]'(by omega)) := by simp [hzs, ht]
                exact ⟨_, (hget j t hj ht).trans h6, hr3 _ _ _ e2 h6⟩
              · cases e1)
          rw [List.length_replicate] at s'
          refine ⟨_, _, w', ?_, h, s', rfl⟩
          obtain ⟨n, rfl⟩ : ∃ n, len = n + 1 := ⟨len - 1, by omega⟩
          simp [Builtin.clear_, run_und hu, zeroValue_run q1 q2, hst]
      · exact h.elim
    · exact h.elim
  · exact h.elim
end
end Sx

/- Structs that are built, made slices, conversions, lengths. -/
set_option linter.unusedVariables false
namespace Sx
open Go Go.RowKit
section
variable {E : Env} {tab : List Ent} {P : Program} {w : World} {Γ : Ctx} {ts : List AV} {a : Act}
theorem ofVal_vs (z : Value) : Vs E (zone Γ E) tab w (cellsOf (ofVal z)) z.cells.toList := by
  unfold ofVal
  split
  · rename_i cs
    refine ⟨by simp [cellsOf, Value.cells], fun i c v h1 h2 => ?_⟩
    simp only [cellsOf, Value.cells] at h1 h2
    rw [List.getElem?_map, h2] at h1
    cases h1
    exact .imm (Rep.ofVal1 _ _ v)
  · rename_i hn
    have h1 : z.cells = #[z] := by
      unfold Value.cells
      split
      · exact (hn _ rfl).elim
      · rfl
    have h2 : cellsOf (ofVal1 z) = [ofVal1 z] := by unfold ofVal1; split <;> rfl
    rw [h1, h2]
    exact .cons (.imm (Rep.ofVal1 _ _ z)) .nil
theorem vs_splice {cs xs : List AV} {vs ys : List Value} {off : Nat} (h1 : Vs E (zone Γ E) tab w cs vs) (h2 : Vs E (zone Γ E) tab w xs ys) (hf : off + xs.length ≤ cs.length) :
    Vs E (zone Γ E) tab w (splice cs off xs) (wrote vs.toArray off ys).toList := by
  obtain ⟨s1, s2⟩ := splice_spec cs off xs hf
  refine ⟨by rw [s1, h1.1]; simp [wrote_size], fun i c v q1 q2 => ?_⟩
  rw [s2] at q1
  have l1 := h1.1
  have l2 := h2.1
  rw [Array.getElem?_toList, wrote_get _ _ _ _ (by simp; omega)] at q2
  split at q1
  · rw [if_pos (by omega)] at q2
    exact h2.2 _ c v q1 q2
  · rw [if_neg (by omega)] at q2
    exact h1.2 i c v q1 (by simpa using q2)
theorem okB_cells {v : AV} {c : Value} (h : okB tab v = true) (hv : V E (zone Γ E) tab w v c) : Vs E (zone Γ E) tab w (cellsOf v) c.cells.toList := by
  unfold okB at h
  split at h
  · obtain ⟨vs, rfl, hl, hc⟩ := hv.agg_inv
    exact ⟨by simpa [cellsOf, Value.cells] using hl, fun i x y q1 q2 => hc i x y q1 (by simpa [Value.cells] using q2)⟩
  · rename_i hn
    have : okSt tab v = true := by
      unfold okSt
      split
      · rename_i cs; exact (hn cs rfl).elim
      · exact h
    obtain ⟨g1, g2, _⟩ := okSt_cells this hv
    exact ⟨by simpa using g1, fun i x y q1 q2 => g2 i x y q1 (by simpa using q2)⟩
theorem fillS_sound {fs : List Field} {places : Array (Nat × Nat)} (hp : ∀ (i : Nat) fd, fs[i]? = some fd → places[i]? = some (fd.offset, siz P fd.type)) : ∀ {ps : List (Nat × AV)} {cps : List (Nat × Value)} {cs : List AV} {vs : List Value} {k : List AV → Prop}, fillS fs P tab ps cs k →
    PVs E (zone Γ E) tab w ps cps → Vs E (zone Γ E) tab w cs vs → ∃ cs' vs', k cs' ∧ Vs E (zone Γ E) tab w cs' vs' ∧ Instr.fill (places[·]?) vs.toArray cps = some vs'.toArray
  | [], cps, cs, vs, k, h, hpv, hv => by
    have : cps = [] := by have := hpv.1; simpa using this.symm
    subst this
    exact ⟨cs, vs, h, hv, rfl⟩
  | (i, v) :: ps, [], cs, vs, k, h, hpv, hv => by have := hpv.1; simp at this
  | (i, v) :: ps, (j, c) :: cps, cs, vs, k, h, hpv, hv => by
    obtain ⟨h1, h2⟩ := hpv
    simp at h1
    obtain ⟨rfl, h1⟩ := h1
    obtain ⟨c2, cs2, e, hvc, hrest⟩ := Vs.cons_inv h2
    cases e
    rw [fillS_cons] at h
    split at h
    · rename_i fd hfd
      obtain ⟨q1, q2, q3, h⟩ := h
      have h := lnorm_iff h
      rw [nth_eq] at hfd
      have q2 := Nat.eq_of_beq_eq_true q2
      have q3 : fd.offset + (cellsOf v).length ≤ cs.length := by simpa using q3
      have hcc := okB_cells q1 hvc
      have hl : (cellsOf v).length = c.cells.size := by simpa using hcc.1
      have hl2 := hv.1
      obtain ⟨cs', vs', r1, r2, r3⟩ := fillS_sound hp h ⟨h1, hrest⟩ (vs_splice hv hcc q3)
      refine ⟨cs', vs', r1, r2, ?_⟩
      rw [fill_step (off := fd.offset) (by rw [← hl, q2]; exact hp i fd hfd) (by simp; omega)]
      simpa using r3
    · exact h.elim
theorem fillA_sound {sz : Nat} : ∀ {ps : List (Nat × AV)} {cps : List (Nat × Value)} {cs : List AV} {vs : List Value} {k : List AV → Prop}, fillA sz tab ps cs k →
    PVs E (zone Γ E) tab w ps cps → Vs E (zone Γ E) tab w cs vs → ∃ cs' vs', k cs' ∧ Vs E (zone Γ E) tab w cs' vs' ∧ Instr.fill (fun i => some (i * sz, sz)) vs.toArray cps = some vs'.toArray
  | [], cps, cs, vs, k, h, hpv, hv => by
    have : cps = [] := by have := hpv.1; simpa using this.symm
    subst this
    exact ⟨cs, vs, h, hv, rfl⟩
  | (i, v) :: ps, [], cs, vs, k, h, hpv, hv => by have := hpv.1; simp at this
  | (i, v) :: ps, (j, c) :: cps, cs, vs, k, h, hpv, hv => by
    obtain ⟨h1, h2⟩ := hpv
    simp at h1
    obtain ⟨rfl, h1⟩ := h1
    obtain ⟨c2, cs2, e, hvc, hrest⟩ := Vs.cons_inv h2
    cases e
    rw [fillA_cons] at h
    obtain ⟨q1, q2, q3, h⟩ := h
    have h := lnorm_iff h
    have q2 := Nat.eq_of_beq_eq_true q2
    have q3 : i * sz + (cellsOf v).length ≤ cs.length := by simpa using q3
    have hcc := okB_cells q1 hvc
    have hl : (cellsOf v).length = c.cells.size := by simpa using hcc.1
    have hl2 := hv.1
    obtain ⟨cs', vs', r1, r2, r3⟩ := fillA_sound h ⟨h1, hrest⟩ (vs_splice hv hcc q3)
    refine ⟨cs', vs', r1, r2, ?_⟩
    rw [fill_step (off := i * sz) (by rw [← hl, q2]) (by simp; omega)]
    simpa using r3
theorem fieldsOk_places : ∀ {fs : List Field}, fieldsOk P fs = true → fs.mapM (fun f => (P.info? f.type).map fun i => (f.offset, i.size)) = some (fs.map fun f => (f.offset, siz P f.type))
  | [], _ => rfl
  | f :: fs, h => by
    unfold fieldsOk at h
    split at h
    · rename_i i hi
      simp [List.mapM_cons, tinfo_ok hi, fieldsOk_places h, siz, hi]
    · cases h
theorem buildW_sound {t : TypeId} {ps : List (Nat × AV)} {cps : List (Nat × Value)} {k : AV → Prop} (h : buildW P t ps tab k) (hp : PVs E (zone Γ E) tab w ps cps) :
    ∃ v c, (Instr.build t cps.toArray).run P w = .ok c w ∧ k v ∧ V E (zone Γ E) tab w v c := by
  obtain ⟨i, z, q1, q2, h⟩ := zer_sound h
  split at h
  · rename_i fs hu
    obtain ⟨hf, h⟩ := h
    obtain ⟨cs', vs', r1, r2, r3⟩ := fillS_sound (places := (fs.toList.map fun f => (f.offset, siz P f.type)).toArray) (fun i fd hfd => by simpa using ⟨fd, by simpa using hfd, rfl, rfl⟩) h hp (ofVal_vs z)
    refine ⟨_, .agg vs'.toArray, run_build w t cps.toArray vs'.toArray ?_, r1, .agg _ _ r2.1 r2.2⟩
    unfold Program.built
    rw [tinfo_ok q1, und_ok hu]
    simp only [q2, fieldsOk_places hf]
    simpa using r3
  · rename_i n elem hu
    obtain ⟨hpos, h⟩ := h
    obtain ⟨ie, hie⟩ := siz_tinfo (P := P) (t := elem) (by simpa using hpos)
    obtain ⟨cs', vs', r1, r2, r3⟩ := fillA_sound h hp (ofVal_vs z)
    refine ⟨_, .agg vs'.toArray, run_build w t cps.toArray vs'.toArray ?_, r1, .agg _ _ r2.1 r2.2⟩
    unfold Program.built
    rw [tinfo_ok q1, und_ok hu]
    simp only [q2, tinfo_ok hie]
    have : siz P elem = ie.size := by unfold siz; rw [hie]
    rw [this] at r3
    simpa using r3
  · exact h.elim
theorem convW_sound {src dst : TypeId} {x : AV} {c : Value} {k : AV → Prop} (h : convW P src dst x k) (hx : V E (zone Γ E) tab w x c) : ∃ v c', (convert src dst c).run P w = .ok c' w ∧ k v ∧ V E (zone Γ E) tab w v c' := by
  unfold convW at h
  split at h
  · exact h.elim
  · rename_i d hs
    split at h
    · rename_i kd hd
      split at h
      · rename_i kd2 n
        have := hx.int_inv
        subst this
        refine ⟨_, .int kd (kd.wrap n), ?_, num_sound h, .imm (.int _ _)⟩
        simp [convert, run_und hs, run_und hd, Conv.intToInt]
      · exact h.elim
    · rename_i hd
      split at h
      · rename_i s
        obtain ⟨b, rfl, hb⟩ := hx.str_inv
        refine ⟨_, .string b, ?_, h, .imm (.str _ _ hb)⟩
        cases d <;> simp [convert, run_und hs, run_und hd]
      · exact h.elim
    · exact h.elim
theorem convN_sound {src dst : TypeId} {x : AV} {c : Value} {k : AV → List Ent → Prop} (h : convN P src dst x tab k) (s : Sat Γ E ts tab a w) (hx : V E (zone Γ E) tab w x c) :
    ∃ v tab' E' c' w', (convert src dst c).run P w = .ok c' w' ∧ k v tab' ∧ Sat Γ E' ts tab' a w' ∧ V E' (zone Γ E') tab' w' v c' := by
  unfold convN at h
  split at h
  · rename_i t
    split at h
    · rename_i e hd
      split at h
      · rename_i hs
        split at h
        · rename_i he
          obtain ⟨b, rfl, hb⟩ := hx.str_inv
          have h := snoc_spec h.o
          have hrun := Lib.run_convert_string_bytes (P := P) w src dst e b (und_ok hs) (und_ok hd) (und_ok he)
          have hge : b.size ≤ grownCap w b.size 0 e := grownCap_ge w _ _ _
          have hsz : (Lib.bytesCells w e b).size = grownCap w b.size 0 e := by
            simp [Lib.bytesCells]
            have : b.data.size = b.size := rfl
            omega
          have hlen : (t.map fun x : UInt8 => AV.int .u8 (x.toNat : Int)).length = b.size := by rw [← hb]; simp
          have bel : Below w.heap.size w (Lib.bytesWorld w e b) := ⟨rfl, rfl, rfl, by rw [Lib.bytesWorld_size]; omega, fun j hj => Lib.bytesWorld_at_old w e b j hj⟩
          obtain ⟨E', p, s', hL, hO⟩ := s.pushB (k := .plain) (sz := 1) (es := t.map fun x => .int .u8 (x.toNat : Int)) bel (Lib.bytesWorld_at_new w e b) (fun j hj => by simp; omega)
            (fun x hx => by obtain ⟨y, _, rfl⟩ := List.mem_map.1 hx; rfl) (fun _ x hx v hv => by
              obtain ⟨y, _, rfl⟩ := List.mem_map.1 hx
              have : v = .int .u8 (y.toNat : Int) := by simpa [cellsOf] using hv
              subst this; rfl) nofun nofun (by rw [hlen, hsz]; omega) (fun E' p hE j q x v h1 h2 => by
              rw [List.getElem?_map] at h1
              cases hj : t[j]? with
              | none => rw [hj] at h1; cases h1
              | some y =>
                rw [hj] at h1
                have : x = .int .u8 (y.toNat : Int) := (Option.some.inj h1).symm
                subst this
                have hq : q = 0 ∧ v = .int .u8 (y.toNat : Int) := by
                  cases q with
                  | zero => exact ⟨rfl, (Option.some.inj h2).symm⟩
                  | succ q => cases h2
                obtain ⟨rfl, rfl⟩ := hq
                have hjl : j < b.size := by
                  have := (List.getElem?_eq_some_iff.1 hj).1
                  rw [← hlen]; simpa using this
                refine ⟨.int .u8 (y.toNat : Int), ?_, .int _ _⟩
                have hbj : b.data[j]? = some y := by
                  rw [← hb] at hj
                  simpa using hj
                unfold Lib.bytesCells
                rw [Array.getElem?_append_left (by simp; exact hjl)]
                simp [hbj])
          refine ⟨_, _, E', _, _, hrun, h, s', .loc _ _ (by simp) fun k2 sz2 es2 h2 => ?_⟩
          rw [ent_snoc, if_pos rfl] at h2
          cases h2
          refine ⟨_, _, by rw [hlen], by rw [hlen]; exact hge, .inr ⟨by rw [hL], by rw [hL]; exact hO, _, _, _, by rw [hL]; exact Lib.bytesWorld_at_new w e b, fun j hj => by simp; omega, by rw [hsz]; omega⟩⟩
        · exact h.elim
      · exact h.elim
    · obtain ⟨v, c', h1, h2, h3⟩ := convW_sound h hx
      exact ⟨v, tab, E, c', w, h1, h2, s, h3⟩
  · rename_i i
    split at h
    · rename_i hd
      split at h
      · rename_i e hs
        split at h
        · rename_i he
          split at h
          · rename_i sz es hent
            obtain ⟨rfl, bs, hes, h⟩ := h
            obtain ⟨_, hsl⟩ := hx.loc_inv
            obtain ⟨ad, cap, hc, hle, hor⟩ := hsl _ _ _ hent
            subst hc
            have hl : es.length = bs.length := by rw [hes]; simp
            have fin : (convert src dst (.slice ad es.length cap)).run P w = .ok (.string ⟨bs.toArray⟩) w := by
              cases hb : bs with
              | nil =>
                have h0 : es.length = 0 := by rw [hl, hb]; rfl
                rw [h0, run_convert_bytes_string w src dst e ad 0 cap (und_ok hs) (und_ok he) (und_ok hd)]
                cases ad with
                | none => simp [Conv.bytesToString]; rfl
                | some ad =>
                  have := run_bytesToString (P := P) w ad 0 cap [] (by simp [loadCells, loadCellsFrom])
                  rw [this]
                  rfl
              | cons b0 bt =>
                have hne : es ≠ [] := by rw [hes, hb]; simp
                have hE := s.ents i
                rw [hent] at hE
                obtain ⟨ho, cs, ty, fr, h1, h2, h3, h4⟩ := hE.2.2.2.2 hne
                have hcap : cap ≠ 0 := fun e => by
                  subst e
                  have := List.length_pos_iff.2 hne
                  omega
                obtain ⟨had, _, _⟩ := hor.resolve_left hcap
                subst had
                have := run_convert_bytes_arg (P := P) w src e (und_ok hs) (und_ok he) (E.L i) 0 es.length cap (bs.map fun b => (b.toNat : Int)) (by simp [hl]) (fun j hj => by
                  have hjb : j < bs.length := by omega
                  obtain ⟨c, g1, g2⟩ := h4 j 0 (.int .u8 (bs[j].toNat : Int)) (.int .u8 (bs[j].toNat : Int)) (by rw [hes]; simp [hjb]) rfl
                  cases g2
                  rw [Nat.mul_one] at g1
                  simp only [World.cell?, h1]
                  simp at g1 ⊢
                  simp [g1, hjb]) dst (und_ok hd)
                rw [← hb]
                rw [Nat.zero_mul]
                rw [this]
                congr 1
                unfold strOfNums
                simp
                conv => rhs; rw [← List.map_id bs]
                refine List.map_congr_left fun b _ => ?_
                simp
            exact ⟨.str bs, tab, E, _, w, fin, h, s, .imm (.str _ _ (by simp))⟩
          · exact h.elim
        · exact h.elim
      · exact h.elim
    · exact h.elim
  · obtain ⟨v, c', h1, h2, h3⟩ := convW_sound h hx
    exact ⟨v, tab, E, c', w, h1, h2, s, h3⟩
theorem makeSliceW_sound {nest : Bool} {t : TypeId} {l cp : AV} {cl cc : Value} {k : AV → List Ent → Prop} (h : makeSliceW nest P t l cp tab k) (s : Sat Γ E ts tab a w) (hl : V E (zone Γ E) tab w l cl) (hc : V E (zone Γ E) tab w cp cc) :
    ∃ v tab' E' c w', (Instr.makeSlice t cl cc).run P w = .ok c w' ∧ k v tab' ∧ Sat Γ E' ts tab' a w' ∧ V E' (zone Γ E') tab' w' v c := by
  unfold makeSliceW at h
  split at h
  · rename_i elem hu
    split at h
    · rename_i kl ln
      split at h
      · rename_i kc cn
        obtain ⟨hpos, hb, hq⟩ := h
        obtain ⟨h0, hlc, hq⟩ := hq.le
        obtain ⟨hc0, hbig, h⟩ := hq.le
        have hlc : ln ≤ cn := by omega
        have hpos : 0 < siz P elem := by simpa using hpos
        have hb : byt P elem ≤ 64 := by simpa using hb
        obtain ⟨i, z, q1, q2, q3, q4, h⟩ := zer_sound h
        have h := snoc_spec h.o
        have := hl.int_inv
        subst this
        have := hc.int_inv
        subst this
        have hcl : (cellsOf (ofVal z)).length = siz P elem := Nat.eq_of_beq_eq_true q3
        have hsi : siz P elem = i.size := by unfold siz; rw [q1]
        have hbi : i.bytes ≤ 64 := by unfold byt at hb; rw [q1] at hb; exact hb
        obtain ⟨E', p, s', hL, hO⟩ := zero_push (ty := elem) (cn := cn.toNat) s kindOf_nest hcl q4 (show ln.toNat ≤ cn.toNat by omega) (zz := nz P (kindOf nest P elem) elem (ofVal z)) (by
          unfold nz
          split
          · rename_i hk
            split
            · exact .inr ⟨hk, _, rfl⟩
            · exact .inl rfl
          · exact .inl rfl)
        have hby : (i.bytes : Int) * cn ≤ 281474976710656 := by
          have h1 : (i.bytes : Int) * cn ≤ 64 * cn := Int.mul_le_mul_of_nonneg_right (by omega) (by omega)
          unfold big at hbig
          omega
        refine ⟨_, _, E', _, _, run_make w t elem i z (und_ok hu) (tinfo_ok q1) q2 kl kc ln cn h0 hlc hby (by unfold big at hbig; omega), h, ?_, .loc _ _ (by simp) fun k3 sz3 es3 h3 => ?_⟩
        · rw [← hsi]; exact s'
        · rw [ent_snoc, if_pos rfl] at h3
          cases h3
          have hent := s'.ents tab.length
          refine ⟨_, _, by rw [List.length_replicate], by simp; omega, .inr ⟨by simp [hL], by rw [hL]; exact hO, ?_⟩⟩
          rw [hL, ← hsi]
          refine ⟨_, elem, (0, 0), heap_alloc_new w _, fun j _ => by simp, ?_⟩
          simp [madeCells]
      · exact h.elim
    · exact h.elim
  · exact h.elim
theorem elems_nil {v : AV} {c : Value} {k : Nat → List AV → Prop} (h : elems v tab k) (s : Sat Γ E ts tab a w) (hv : V E (zone Γ E) tab w v c) : ∃ sz es p cap, k sz es ∧ c = .slice p es.length cap ∧ (p = none → es = []) := by
  have key : ∀ {own : Nat × Option Nat} {b sz off n : Nat} {es : List AV}, SlOf E w own b sz off n c → es.length = n → ∃ p cap, c = .slice p es.length cap ∧ (p = none → es = []) := fun h e => by
    obtain ⟨p, cap, rfl, h1, h2⟩ := h
    refine ⟨p, cap, by rw [e], fun hp => ?_⟩
    rcases h2 with h2 | ⟨h2, _⟩
    · exact List.eq_nil_of_length_eq_zero (by omega)
    · rw [hp] at h2; cases h2
  unfold elems at h
  split at h
  · rename_i sz es
    have := hv.rep_inv trivial
    cases this with
    | sl0 => exact ⟨_, _, _, _, h, rfl, fun _ => rfl⟩
    | sl => exact ⟨_, _, _, _, h, rfl, nofun⟩
  · rename_i i
    split at h
    · rename_i kd sz es he
      obtain ⟨p, cap, h1, h2⟩ := key (hv.loc_inv.2 _ _ _ he) rfl
      exact ⟨_, _, _, _, h, h1, h2⟩
    · exact h.elim
  · rename_i i off len
    split at h
    · rename_i kd sz es he
      obtain ⟨hs, hle⟩ := hv.part_inv.2 _ _ _ he
      obtain ⟨p, cap, h1, h2⟩ := key (es := (es.drop off).take len) hs (by rw [List.length_take, List.length_drop, Nat.min_eq_left (by omega)])
      exact ⟨_, _, p, cap, h, h1, h2⟩
    · exact h.elim
  · rename_i i j
    split at h
    · rename_i sz es he
      replace h := optP.o h
      split at h
      · rename_i sz' es' hj
        rw [nth_eq] at hj
        obtain ⟨cs, ty, fr, hh, hc⟩ := hv.sub_inv.2 _ _ _ _ he hj
        have hent := s.ents i
        rw [he] at hent
        obtain ⟨_, h2, _, _, h3⟩ := hent
        have hs1 := h2 rfl
        subst hs1
        obtain ⟨_, cs2, ty2, fr2, hh2, _, _, hcell⟩ := h3 (ne_nil_of_get hj)
        rw [hh] at hh2; cases hh2
        obtain ⟨c2, h4, h5⟩ := hcell j 0 _ _ hj rfl
        simp only [Nat.mul_one, Nat.add_zero] at h4
        rw [hc] at h4; cases h4
        obtain ⟨b, hs, _⟩ := h5
        obtain ⟨p, cap, h1, h2⟩ := key hs rfl
        exact ⟨_, _, _, _, h, h1, h2⟩
      · exact h.elim
    · exact h.elim
  · exact h.elim
theorem elems_len {v : AV} {c : Value} {k : Nat → List AV → Prop} (h : elems v tab k) (s : Sat Γ E ts tab a w) (hv : V E (zone Γ E) tab w v c) : ∃ sz es p cap, k sz es ∧ c = .slice p es.length cap := by
  unfold elems at h
  split at h
  · rename_i sz es
    have := hv.rep_inv trivial
    cases this with
    | sl0 => exact ⟨_, _, _, _, h, rfl⟩
    | sl => exact ⟨_, _, _, _, h, rfl⟩
  · rename_i i
    split at h
    · rename_i kd sz es he
      obtain ⟨p, cap, rfl, _⟩ := hv.loc_inv.2 _ _ _ he
      exact ⟨_, _, _, _, h, rfl⟩
    · exact h.elim
  · rename_i i off len
    split at h
    · rename_i kd sz es he
      obtain ⟨⟨p, cap, rfl, _⟩, hle⟩ := hv.part_inv.2 _ _ _ he
      exact ⟨_, _, p, cap, h, by rw [List.length_take, List.length_drop, Nat.min_eq_left (by omega)]⟩
    · exact h.elim
  · rename_i i j
    split at h
    · rename_i sz es he
      replace h := optP.o h
      split at h
      · rename_i sz' es' hj
        rw [nth_eq] at hj
        obtain ⟨cs, ty, fr, hh, hc⟩ := hv.sub_inv.2 _ _ _ _ he hj
        have hent := s.ents i
        rw [he] at hent
        obtain ⟨_, h2, _, _, h3⟩ := hent
        have hs1 := h2 rfl
        subst hs1
        obtain ⟨_, cs2, ty2, fr2, hh2, _, _, hcell⟩ := h3 (ne_nil_of_get hj)
        rw [hh] at hh2; cases hh2
        obtain ⟨c2, h4, h5⟩ := hcell j 0 _ _ hj rfl
        simp only [Nat.mul_one, Nat.add_zero] at h4
        rw [hc] at h4; cases h4
        obtain ⟨b, ⟨p, cap, rfl, _⟩, _⟩ := h5
        exact ⟨_, _, _, _, h, rfl⟩
      · exact h.elim
    · exact h.elim
  · exact h.elim
theorem len_run_slice {t e ty : TypeId} (hu : und P t = some (.slice e)) (r : List TypeId) {p : Option Addr} {n cap : Nat} : (Builtin.len_ (t :: r).toArray ty #[.slice p n cap]).run P w = .ok (.int .i64 n) w := by
  simp [Builtin.len_, run_und hu, goInt]
theorem len_run_str {t ty : TypeId} (hu : und P t = some .string) (r : List TypeId) {b : ByteArray} : (Builtin.len_ (t :: r).toArray ty #[.string b]).run P w = .ok (.int .i64 b.size) w := by
  simp [Builtin.len_, run_und hu, goInt]
theorem lenW_sound {t e ty : TypeId} {r : List TypeId} {v : AV} {c : Value} {k : AV → Prop} (h : lenW v tab k) (s : Sat Γ E ts tab a w) (hu : und P t = some (.slice e)) (hv : V E (zone Γ E) tab w v c) :
    ∃ v' c', (Builtin.len_ (t :: r).toArray ty #[c]).run P w = .ok c' w ∧ k v' ∧ V E (zone Γ E) tab w v' c' := by
  unfold lenW at h
  split at h
  · have := hv.nilsl_inv
    subst this
    exact ⟨_, _, len_run_slice hu r, h, .imm (.int _ _)⟩
  · obtain ⟨p, rfl⟩ := hv.emp_inv
    exact ⟨_, _, len_run_slice hu r, h, .imm (.int _ _)⟩
  · rename_i i off len
    split at h
    · rename_i he
      obtain ⟨⟨p, cap, rfl, _⟩, _⟩ := hv.part_inv.2 _ _ _ he
      exact ⟨_, _, len_run_slice hu r, h, .imm (.int _ _)⟩
    · exact h.elim
  · obtain ⟨sz, es, p, cap, ⟨n, rfl, h⟩, rfl⟩ := elems_len h s hv
    exact ⟨_, _, len_run_slice hu r, h, .imm (.int _ _)⟩
end
end Sx

/- Renaming: the state told in other numbers. -/
set_option linter.unusedVariables false
namespace Sx
open Go Go.RowKit
section
variable {E E' : Env} {Z Z' : Nat → Prop} {tab tab' : List Ent} {P : Program} {w : World}
structure Mv (φ : Nat → Option Nat) (E : Env) (Z : Nat → Prop) (tab : List Ent) (E' : Env) (Z' : Nat → Prop) (tab' : List Ent) (w : World) : Prop where
  imm : ∀ b, Z b → b < w.heap.size → Z' b
  at' : ∀ i p, i < tab.length → φ i = some p → p < tab'.length ∧ E'.L p = E.L i ∧ (∀ b x, E.O b = some (i, x) → E'.O b = some (p, x)) ∧
    ∀ k sz es', ent tab' p = .row k sz es' → ∃ es, ent tab i = .row k sz es ∧ es.length = es'.length ∧ (k = .nest → es' = es)
theorem SlOf.re {own own' : Nat × Option Nat} {b sz off len : Nat} {c : Value} (h : SlOf E w own b sz off len c) (ho : E.O b = some own → E'.O b = some own') : SlOf E' w own' b sz off len c := by
  obtain ⟨a, cap, hc, hl, h⟩ := h
  exact ⟨a, cap, hc, hl, h.imp id fun ⟨h1, h2, h3⟩ => ⟨h1, ho h2, h3⟩⟩
theorem Mv.rep {φ : Nat → Option Nat} (m : Mv φ E Z tab E' Z' tab' w) {v : AV} {c : Value} (r : Rep Z w v c) : Rep Z' w v c := r.mono fun b h1 h2 => ⟨m.imm b h1 h2, rfl⟩
theorem V.imm1 {v : AV} {c : Value} (h : V E Z tab w v c) (hi : Sx.imm1 v = true) : Rep Z w v c := by
  cases h with
  | imm r => exact r
  | _ => cases hi
theorem V.mv1 {φ : Nat → Option Nat} {miss : AV → AV} (m : Mv φ E Z tab E' Z' tab' w) (hmiss : ∀ i v c, refOf v = some i → φ i = none → V E Z tab w v c → V E' Z' tab' w (miss v) c)
    {v : AV} {c : Value} (h : V E Z tab w v c) : V E' Z' tab' w (Sx.mv1 φ miss v) c := by
  cases h with
  | imm r =>
    have r' := m.rep r
    cases r <;> first | exact .imm r' | exact .imm (.unk _) | (simp only [Sx.mv1]; split <;> first | exact .imm r' | exact .imm (.unk _))
  | loc i c hi h =>
    cases hp : φ i with
    | none =>
      simp only [Sx.mv1, hp]
      exact hmiss i _ _ rfl hp (.loc i c hi h)
    | some p =>
      simp only [Sx.mv1, hp]
      obtain ⟨h1, h2, h3, h4⟩ := m.at' i p hi hp
      refine .loc p c h1 fun k sz es' he => ?_
      obtain ⟨es, h5, h6, _⟩ := h4 k sz es' he
      rw [h2, ← h6]
      exact (h k sz es h5).re (h3 _ _)
  | part i off len c hi h =>
    cases hp : φ i with
    | none =>
      simp only [Sx.mv1, hp]
      exact hmiss i _ _ rfl hp (.part i off len c hi h)
    | some p =>
      simp only [Sx.mv1, hp]
      obtain ⟨h1, h2, h3, h4⟩ := m.at' i p hi hp
      refine .part p off len c h1 fun k sz es' he => ?_
      obtain ⟨es, h5, h6, _⟩ := h4 k sz es' he
      rw [h2, ← h6]
      exact ⟨⟨(h k sz es h5).1.1.re (h3 _ _), (h k sz es h5).1.2⟩, (h k sz es h5).2⟩
  | prow i j t c hi h =>
    cases hp : φ i with
    | none =>
      simp only [Sx.mv1, hp]
      exact hmiss i _ _ rfl hp (.prow i j t c hi h)
    | some p =>
      simp only [Sx.mv1, hp]
      obtain ⟨h1, h2, h3, h4⟩ := m.at' i p hi hp
      refine .prow p j t c h1 fun k sz es' he => ?_
      obtain ⟨es, h5, h6, _⟩ := h4 k sz es' he
      rw [h2]
      exact h k sz es h5
  | sub i j c hi h =>
    cases hp : φ i with
    | none =>
      simp only [Sx.mv1, hp]
      exact hmiss i _ _ rfl hp (.sub i j c hi h)
    | some p =>
      simp only [Sx.mv1, hp]
      obtain ⟨h1, h2, h3, h4⟩ := m.at' i p hi hp
      refine .sub p j c h1 fun sz es' sz1 es1 he hj => ?_
      obtain ⟨es, h5, h6, h7⟩ := h4 _ sz es' he
      rw [h7 rfl] at hj
      rw [h2]
      exact h sz es sz1 es1 h5 hj
  | psub i j j' t c hi h =>
    cases hp : φ i with
    | none =>
      simp only [Sx.mv1, hp]
      exact hmiss i _ _ rfl hp (.psub i j j' t c hi h)
    | some p =>
      simp only [Sx.mv1, hp]
      obtain ⟨h1, h2, h3, h4⟩ := m.at' i p hi hp
      refine .psub p j j' t c h1 fun sz es' sz1 es1 he hj => ?_
      obtain ⟨es, h5, h6, h7⟩ := h4 _ sz es' he
      rw [h7 rfl] at hj
      rw [h2]
      exact h sz es sz1 es1 h5 hj
  | agg cs vs hl hc =>
    simp only [Sx.mv1]
    split
    · rename_i hall
      exact .agg _ _ hl fun i x y h1 h2 => .imm (m.rep ((hc i x y h1 h2).imm1 (List.all_eq_true.1 hall x (List.mem_of_getElem? h1))))
    · exact .imm (.unk _)
  | fn => exact .imm (.unk _)
  | ifc => exact .imm (.unk _)
  | tuple => exact .imm (.unk _)
theorem V.mv2 {φ : Nat → Option Nat} {miss : AV → AV} (m : Mv φ E Z tab E' Z' tab' w) (hmiss : ∀ i v c, refOf v = some i → φ i = none → V E Z tab w v c → V E' Z' tab' w (miss v) c)
    {v : AV} {c : Value} (h : V E Z tab w v c) : V E' Z' tab' w (Sx.mv2 φ miss v) c := by
  unfold Sx.mv2
  split
  · obtain ⟨vs, rfl, hl, hc⟩ := h.agg_inv
    refine .agg _ _ (by simpa using hl) fun i x y h1 h2 => ?_
    obtain ⟨z, h3, rfl⟩ := map_get h1
    exact (hc i z y h3 h2).mv1 m hmiss
  · obtain ⟨va, vb, rfl, l1, l2, c1, c2⟩ := h.fn_inv
    refine .fn _ _ _ _ _ (by simpa using l1) (by simpa using l2) (fun i x y h1 h2 => ?_) (fun i x y h1 h2 => ?_)
    · obtain ⟨z, h3, rfl⟩ := map_get h1
      exact (c1 i z y h3 h2).mv1 m hmiss
    · obtain ⟨z, h3, rfl⟩ := map_get h1
      exact (c2 i z y h3 h2).mv1 m hmiss
  · exact h.mv1 m hmiss
theorem V.mv3 {φ : Nat → Option Nat} {miss : AV → AV} (m : Mv φ E Z tab E' Z' tab' w) (hmiss : ∀ i v c, refOf v = some i → φ i = none → V E Z tab w v c → V E' Z' tab' w (miss v) c)
    {v : AV} {c : Value} (h : V E Z tab w v c) : V E' Z' tab' w (Sx.mv3 φ miss v) c := by
  unfold Sx.mv3
  split
  · obtain ⟨vs, rfl, hl, hc⟩ := h.tuple_inv
    refine .tuple _ _ (by simpa using hl) fun i x y h1 h2 => ?_
    obtain ⟨z, h3, rfl⟩ := map_get h1
    exact (hc i z y h3 h2).mv2 m hmiss
  · obtain ⟨c', rfl, hc⟩ := h.ifc_inv
    exact .ifc _ _ _ (hc.mv2 m hmiss)
  · exact h.mv2 m hmiss
theorem okVar1_agg {v : AV} (h : okVar1 v = true) (cs : List AV) : v ≠ .agg cs := fun e => by subst e; cases h
theorem mv1_ok {φ : Nat → Option Nat} {miss : AV → AV} (hmiss : ∀ v, okVar1 (miss v) = true) {v : AV} (h : okVar1 v = true) : okVar1 (Sx.mv1 φ miss v) = true := by
  unfold Sx.mv1
  split
  all_goals first | rfl | (split <;> first | exact hmiss _ | (cases h; done) | rfl) | exact h
theorem mv2_cells {φ : Nat → Option Nat} {miss : AV → AV} (hmiss : ∀ v, okVar1 (miss v) = true) {v : AV} (h : okVar v = true) : cellsOf (Sx.mv2 φ miss v) = (cellsOf v).map (Sx.mv1 φ miss) ∧ okVar (Sx.mv2 φ miss v) = true := by
  unfold Sx.mv2
  split
  · rename_i cs
    refine ⟨rfl, List.all_eq_true.2 fun x hx => ?_⟩
    obtain ⟨y, hy, rfl⟩ := List.mem_map.1 hx
    exact mv1_ok hmiss (List.all_eq_true.1 h y hy)
  · cases h
  · rename_i hn _
    have h1 : okVar1 v = true := by
      unfold okVar at h
      split at h
      · exact (hn _ rfl).elim
      · exact h
    have h2 := mv1_ok (φ := φ) hmiss h1
    have h3 : cellsOf v = [v] := cellsOf_atom hn
    have h4 : cellsOf (Sx.mv1 φ miss v) = [Sx.mv1 φ miss v] := cellsOf_atom (okVar1_agg h2)
    refine ⟨by rw [h3, h4]; rfl, ?_⟩
    unfold okVar
    split
    · rename_i cs e; exact (okVar1_agg h2 cs e).elim
    · exact h2
theorem EntOK.mv {φ : Nat → Option Nat} {miss : AV → AV} (m : Mv φ E Z tab E' Z' tab' w) (hok : ∀ v, okVar1 (miss v) = true) (hmiss : ∀ i v c, refOf v = some i → φ i = none → V E Z tab w v c → V E' Z' tab' w (miss v) c)
    {i p : Nat} (hi : i < tab.length) (hp : φ i = some p) {e : Ent} (h : EntOK E Z tab w i e) : EntOK E' Z' tab' w p (mvE φ miss e) := by
  obtain ⟨_, hL, hO, _⟩ := m.at' i p hi hp
  cases e with
  | dead => exact trivial
  | row k sz es =>
    obtain ⟨h1, h2, h3, h4, h5⟩ := h
    cases k with
    | var =>
      have hcell : ∀ e ∈ es, cellsOf (Sx.mv2 φ miss e) = (cellsOf e).map (Sx.mv1 φ miss) ∧ okVar (Sx.mv2 φ miss e) = true := fun e he => mv2_cells hok (h4 rfl e he)
      refine ⟨fun e he => ?_, nofun, nofun, fun _ e he => ?_, fun hne => ?_⟩
      · obtain ⟨x, hx, rfl⟩ := List.mem_map.1 he
        rw [(hcell x hx).1, List.length_map]; exact h1 x hx
      · obtain ⟨x, hx, rfl⟩ := List.mem_map.1 he
        exact (hcell x hx).2
      · obtain ⟨ho, cs, ty, fr, hh, hu, hs, hc⟩ := h5 (by intro e; subst e; exact hne rfl)
        rw [hL]
        refine ⟨hO _ _ ho, cs, ty, fr, hh, hu, by simpa using hs, fun j t e v e1 e2 => ?_⟩
        obtain ⟨x, hx, rfl⟩ := map_get e1
        rw [(hcell x (mem_of_get hx)).1] at e2
        obtain ⟨y, hy, rfl⟩ := map_get e2
        obtain ⟨c, g1, g2⟩ := hc j t x y hx hy
        exact ⟨c, g1, V.mv1 m hmiss g2⟩
    | plain =>
      refine ⟨h1, h2, h3, h4, fun hne => ?_⟩
      obtain ⟨ho, cs, ty, fr, hh, hu, hs, hc⟩ := h5 hne
      rw [hL]
      exact ⟨hO _ _ ho, cs, ty, fr, hh, hu, hs, fun j t e v e1 e2 => let ⟨c, g1, g2⟩ := hc j t e v e1 e2; ⟨c, g1, m.rep g2⟩⟩
    | nest =>
      refine ⟨h1, h2, h3, h4, fun hne => ?_⟩
      obtain ⟨ho, cs, ty, fr, hh, hu, hs, hc⟩ := h5 hne
      rw [hL]
      refine ⟨hO _ _ ho, cs, ty, fr, hh, hu, hs, fun j t e v e1 e2 => ?_⟩
      obtain ⟨c, g1, g2⟩ := hc j t e v e1 e2
      refine ⟨c, g1, ?_⟩
      show OwnCell E' Z' w p j v c
      have g2 : OwnCell E Z w i j v c := g2
      unfold OwnCell at g2 ⊢
      split at g2
      · obtain ⟨b, q1, q2, q3, q4⟩ := g2
        exact ⟨b, q1.re (hO _ _), q2, q3, fun hne => let ⟨r1, cs, ty, fr, r2, r3, r4, r5⟩ := q4 hne; ⟨hO _ _ r1, cs, ty, fr, r2, r3, r4, fun j t e v e1 e2 => let ⟨c, g1, g2⟩ := r5 j t e v e1 e2; ⟨c, g1, m.rep g2⟩⟩⟩
      · exact g2
      · exact g2
      · exact g2
      · exact g2.elim
end
end Sx

/- A state told otherwise: rows dropped and renumbered, values that say less. -/
set_option linter.unusedVariables false
namespace Sx
open Go Go.RowKit
section
variable {E E' : Env} {Z Z' : Nat → Prop} {tab tab' : List Ent} {P : Program} {w : World} {Γ : Ctx} {ts : List AV} {a : Act}
theorem idx_some {σ : List Nat} {i p : Nat} (h : idx σ i = some p) : σ[p]? = some i := by
  induction σ generalizing p with
  | nil => cases h
  | cons x xs ih =>
    unfold idx at h
    split at h
    · rename_i hb; cases h; simpa using Nat.eq_of_beq_eq_true hb
    · split at h
      · rename_i q hq; cases h; simpa using ih hq
      · cases h
theorem idx_none {σ : List Nat} {i : Nat} (h : idx σ i = none) : ∀ p : Nat, σ[p]? ≠ some i := by
  induction σ with
  | nil => intro p; simp
  | cons x xs ih =>
    unfold idx at h
    split at h
    · cases h
    · rename_i hb
      split at h
      · cases h
      · rename_i hq
        intro p
        cases p with
        | zero => intro e; simp at e; subst e; rw [Nat.beq_refl] at hb; cases hb
        | succ p => simpa using ih hq p
theorem idx_at {σ : List Nat} (hn : nodupB σ = true) {i p : Nat} (h : σ[p]? = some i) : idx σ i = some p := by
  induction σ generalizing p with
  | nil => simp at h
  | cons x xs ih =>
    unfold nodupB at hn
    split at hn
    · cases hn
    · rename_i hx
      cases p with
      | zero => simp at h; subst h; simp [idx, Nat.beq_refl]
      | succ p =>
        simp at h
        have hne : x ≠ i := fun e => by subst e; exact idx_none hx p h
        have hb : Nat.beq x i = false := by
          cases hq : Nat.beq x i with
          | false => rfl
          | true => exact (hne (Nat.eq_of_beq_eq_true hq)).elim
        simp [idx, hb, ih hn h]
theorem upto_at {σ : List Nat} : ∀ {m : Nat}, upto m σ = true → ∀ i, i < m → σ[i]? = some i
  | 0, _, _, h => by omega
  | m + 1, h, i, hi => by
    unfold upto at h
    split at h
    · rename_i j hj
      rw [nth_eq] at hj
      split at h
      · rename_i hb
        have := Nat.eq_of_beq_eq_true hb
        subst this
        by_cases e : i = j
        · subst e; exact hj
        · exact upto_at h i (by omega)
      · cases h
    · cases h
theorem ent_of {l : List Ent} {i : Nat} {e : Ent} (h : l[i]? = some e) : ent l i = e := by rw [ent_eq, h]; rfl
theorem ent_map {σ : List Nat} {f : Nat → Ent} {p i : Nat} (h : σ[p]? = some i) : ent (σ.map f) p = f i := ent_of (by simp [h])
theorem ent_out {l : List Ent} {i : Nat} (h : l.length ≤ i) : ent l i = .dead := by rw [ent_eq, List.getElem?_eq_none h]; rfl
theorem mvE_row {φ : Nat → Option Nat} {miss : AV → AV} {e : Ent} {k : Kind} {sz : Nat} {es' : List AV} (h : mvE φ miss e = .row k sz es') : ∃ es, e = .row k sz es ∧ es.length = es'.length ∧ (k = .nest → es' = es) := by
  unfold mvE at h
  split at h
  · cases h; exact ⟨_, rfl, by simp, nofun⟩
  · subst h; exact ⟨_, rfl, rfl, fun _ => rfl⟩
def cutE (σ : List Nat) (E : Env) : Env := ⟨fun b => match E.O b with
  | some (i, x) => match idx σ i with
    | some p => some (p, x)
    | none => none
  | none => none, fun p => E.L (σ.getD p 0)⟩
theorem cutE_O {σ : List Nat} {b i p : Nat} {x : Option Nat} (h : E.O b = some (i, x)) (hp : idx σ i = some p) : (cutE σ E).O b = some (p, x) := by simp [cutE, h, hp]
theorem cutE_none {σ : List Nat} {b : Nat} (h : E.O b = none) : (cutE σ E).O b = none := by simp [cutE, h]
theorem cutE_lost {σ : List Nat} {b i : Nat} {x : Option Nat} (h : E.O b = some (i, x)) (hp : idx σ i = none) : (cutE σ E).O b = none := by simp [cutE, h, hp]
theorem cutE_inv {σ : List Nat} {b p : Nat} {x : Option Nat} (h : (cutE σ E).O b = some (p, x)) : ∃ i, E.O b = some (i, x) ∧ idx σ i = some p := by
  simp only [cutE] at h
  split at h
  · rename_i i y hb
    split at h
    · rename_i q hq; cases h; exact ⟨i, hb, hq⟩
    · cases h
  · cases h
theorem cutE_L {σ : List Nat} {i p : Nat} (h : σ[p]? = some i) : (cutE σ E).L p = E.L i := by simp [cutE, h]
theorem cut_mv {σ : List Nat} {f : Nat → Ent} {miss : AV → AV} (hf : ∀ i, f i = mvE (idx σ) miss (ent tab i)) (hz : ∀ b, Z b → b < w.heap.size → Z' b) : Mv (idx σ) E Z tab (cutE σ E) Z' (σ.map f) w :=
  ⟨hz, fun i p hi hp => ⟨by have := (List.getElem?_eq_some_iff.1 (idx_some hp)).1; simpa using this, cutE_L (idx_some hp), fun b x h => cutE_O h hp, fun k sz es' he => by
    rw [ent_map (idx_some hp), hf] at he
    exact mvE_row he⟩⟩
theorem cut_ents {σ : List Nat} (hn : nodupB σ = true) {f : Nat → Ent} {miss : AV → AV} (hf : ∀ i, f i = mvE (idx σ) miss (ent tab i)) (m : Mv (idx σ) E Z tab (cutE σ E) Z' (σ.map f) w) (hok : ∀ v, okVar1 (miss v) = true)
    (hmiss : ∀ i v c, refOf v = some i → idx σ i = none → V E Z tab w v c → V (cutE σ E) Z' (σ.map f) w (miss v) c) (he : ∀ i, EntOK E Z tab w i (ent tab i)) (p : Nat) : EntOK (cutE σ E) Z' (σ.map f) w p (ent (σ.map f) p) := by
  by_cases hp : p < σ.length
  · have hi : σ[p]? = some σ[p] := by simp [hp]
    rw [ent_map hi, hf]
    by_cases hlt : σ[p] < tab.length
    · exact (he σ[p]).mv m hok hmiss hlt (idx_at hn hi)
    · rw [ent_out (by omega)]; trivial
  · rw [ent_out (by simpa using hp)]; trivial
theorem Sat.cut {σ : List Nat} (s : Sat Γ E ts tab a w) (hu : upto Γ.muts.length σ = true) (hn : nodupB σ = true) : Sat Γ (cutE σ E) (ts.map (cut3 σ)) (cutT σ tab) a w := by
  have hz : ∀ b, zone Γ E b → b < w.heap.size → zone Γ (cutE σ E) b := fun b h _ => ⟨cutE_none h.1, h.2⟩
  have m : Mv (idx σ) E (zone Γ E) tab (cutE σ E) (zone Γ (cutE σ E)) (cutT σ tab) w := cut_mv (fun _ => rfl) hz
  refine ⟨s.dfr, by simpa using s.len, fun i v c h1 h2 => ?_, fun p => cut_ents hn (fun _ => rfl) m (fun _ => rfl) (fun _ _ c _ _ _ => .imm (.unk c)) s.ents p, fun b x h => ?_, s.os, s.tape, s.output, s.size, fun b hb h0 => ?_, fun i hi => ?_⟩
  · obtain ⟨y, hy, rfl⟩ := map_get h1
    exact (s.vals i y c hy h2).mv3 m (fun _ _ c _ _ _ => .imm (.unk c))
  · obtain ⟨p, x⟩ := x
    obtain ⟨i, h1, _⟩ := cutE_inv h
    exact s.own b _ h1
  · exact ⟨cutE_none (s.frame b hb h0).1, (s.frame b hb h0).2⟩
  · have h1 := upto_at hu i hi
    obtain ⟨h2, h3⟩ := s.mt i hi
    refine ⟨by have := (List.getElem?_eq_some_iff.1 h1).1; simpa [cutT] using this, fun k sz es he => ?_⟩
    unfold cutT at he
    rw [ent_map h1] at he
    obtain ⟨es2, h4, h5, _⟩ := mvE_row he
    obtain ⟨g1, ⟨es0, g2, g3⟩, g4⟩ := h3 k sz es2 h4
    refine ⟨(cutE_L h1).trans g1, ⟨es0, g2, g3.trans h5⟩, fun ho => ?_⟩
    obtain ⟨g5, g6⟩ := g4 ho
    rw [cutE_L h1]
    exact ⟨cutE_O g5 (idx_at hn h1), g6⟩
/-! what says less -/
theorem locE {i : Nat} (h : empT tab i) (p : Option Addr) : V E Z tab w (.loc i) (.slice p 0 0) := by
  unfold empT at h
  split at h
  · rename_i sz es he
    subst h
    exact .loc i _ (ent_lt he) fun k sz' es' he' => by
      rw [he] at he'; cases he'
      exact ⟨p, 0, rfl, Nat.le_refl _, .inl rfl⟩
  · exact h.elim
theorem V.le1 {x y : AV} {c : Value} (h : Sx.le1 tab x y) (hv : V E Z tab w x c) : V E Z tab w y c := by
  unfold Sx.le1 at h
  split at h
  · exact .imm (.unk _)
  · split at h
    · exact hv
    · rw [hv.prop_inv, decide_eq_true h]; exact .imm .tt
    · exact h.elim
  · split at h
    · exact hv
    · rw [hv.prop_inv, decide_eq_false h]; exact .imm .ff
    · exact h.elim
  · rename_i q d
    split at h
    · rw [hv.tt_inv, show true = @decide q d from (decide_eq_true h).symm]; exact .imm (.prop q d)
    · rw [hv.ff_inv, show false = @decide q d from (decide_eq_false h).symm]; exact .imm (.prop q d)
    · rename_i p dp
      rw [hv.prop_inv, show @decide p dp = @decide q d from decide_eq_decide.2 h]; exact .imm (.prop q d)
    · exact h.elim
  · split at h
    · obtain ⟨rfl, rfl⟩ := h; exact hv
    · exact h.elim
  · split at h
    · subst h; exact hv
    · exact h.elim
  · split at h
    · exact hv
    · rw [hv.nilsl_inv]; exact .imm (.emp _)
    · exact h.elim
  · split at h
    · obtain ⟨rfl, rfl⟩ := h; exact hv
    · subst h; obtain ⟨p, rfl⟩ := hv.emp_inv; exact .imm (.sl0 _ _ _)
    · subst h; rw [hv.nilsl_inv]; exact .imm (.sl0 _ _ _)
    · exact h.elim
  · rename_i i
    split at h
    · subst h; exact hv
    · obtain ⟨p, rfl⟩ := hv.emp_inv; exact locE h _
    · rw [hv.nilsl_inv]; exact locE h _
    · exact h.elim
  · subst h; exact hv
theorem leL_get {R : AV → AV → Prop} {L : List AV → List AV → Prop} (h0 : ∀ xs, L [] xs → xs = []) (h1 : ∀ x xs ys, L (x :: xs) ys → ∃ y ys', ys = y :: ys' ∧ R x y ∧ L xs ys') : ∀ {xs ys : List AV}, L xs ys → xs.length = ys.length ∧ ∀ (i : Nat) (y : AV), ys[i]? = some y → ∃ x, xs[i]? = some x ∧ R x y
  | [], ys, h => by have := h0 ys h; subst this; exact ⟨rfl, fun i y e => by simp at e⟩
  | x :: xs, ys, h => by
    obtain ⟨y, ys', rfl, h2, h3⟩ := h1 x xs ys h
    obtain ⟨h4, h5⟩ := leL_get h0 h1 h3
    refine ⟨by simp [h4], fun i z e => ?_⟩
    cases i with
    | zero => simp at e; subst e; exact ⟨x, rfl, h2⟩
    | succ i => simpa using h5 i z (by simpa using e)
theorem leL1_get {xs ys : List AV} (h : leL1 tab xs ys) : xs.length = ys.length ∧ ∀ (i : Nat) (y : AV), ys[i]? = some y → ∃ x, xs[i]? = some x ∧ Sx.le1 tab x y :=
  leL_get (L := leL1 tab) (R := Sx.le1 tab) (fun xs h => by cases xs with | nil => rfl | cons => exact h.elim) (fun x xs ys h => by cases ys with | nil => exact h.elim | cons y ys => exact ⟨y, ys, rfl, h.1, h.2⟩) h
theorem V.le2 {x y : AV} {c : Value} (h : Sx.le2 tab x y) (hv : V E Z tab w x c) : V E Z tab w y c := by
  unfold Sx.le2 at h
  split at h
  · split at h
    · obtain ⟨vs, rfl, hl, hc⟩ := hv.agg_inv
      obtain ⟨h1, h2⟩ := leL1_get h
      refine .agg _ _ (h1.symm.trans hl) fun i z d e1 e2 => ?_
      obtain ⟨x, h3, h4⟩ := h2 i z e1
      exact (hc i x d h3 e2).le1 h4
    · exact h.elim
  · exact hv.le1 h
theorem leL2_get {xs ys : List AV} (h : leL2 tab xs ys) : xs.length = ys.length ∧ ∀ (i : Nat) (y : AV), ys[i]? = some y → ∃ x, xs[i]? = some x ∧ Sx.le2 tab x y :=
  leL_get (L := leL2 tab) (R := Sx.le2 tab) (fun xs h => by cases xs with | nil => rfl | cons => exact h.elim) (fun x xs ys h => by cases ys with | nil => exact h.elim | cons y ys => exact ⟨y, ys, rfl, h.1, h.2⟩) h
theorem V.le3 {x y : AV} {c : Value} (h : Sx.le3 tab x y) (hv : V E Z tab w x c) : V E Z tab w y c := by
  unfold Sx.le3 at h
  split at h
  · split at h
    · obtain ⟨vs, rfl, hl, hc⟩ := hv.tuple_inv
      obtain ⟨h1, h2⟩ := leL2_get h
      refine .tuple _ _ (h1.symm.trans hl) fun i z d e1 e2 => ?_
      obtain ⟨x, h3, h4⟩ := h2 i z e1
      exact (hc i x d h3 e2).le2 h4
    · exact h.elim
  · exact hv.le2 h
theorem leL3_get {xs ys : List AV} (h : leL3 tab xs ys) : xs.length = ys.length ∧ ∀ (i : Nat) (y : AV), ys[i]? = some y → ∃ x, xs[i]? = some x ∧ Sx.le3 tab x y :=
  leL_get (L := leL3 tab) (R := Sx.le3 tab) (fun xs h => by cases xs with | nil => rfl | cons => exact h.elim) (fun x xs ys h => by cases ys with | nil => exact h.elim | cons y ys => exact ⟨y, ys, rfl, h.1, h.2⟩) h
theorem leLv_get {xs ys : List AV} (h : leLv tab xs ys) : xs.length = ys.length ∧ ∀ (i : Nat) (y : AV), ys[i]? = some y → ∃ x, xs[i]? = some x ∧ le2v tab x y :=
  leL_get (L := leLv tab) (R := le2v tab) (fun xs h => by cases xs with | nil => rfl | cons => exact h.elim) (fun x xs ys h => by cases ys with | nil => exact h.elim | cons y ys => exact ⟨y, ys, rfl, h.1, h.2⟩) h
theorem le1_okVar1 {x y : AV} (h : Sx.le1 tab x y) (hx : okVar1 x = true) : okVar1 y = true := by
  unfold Sx.le1 at h
  split at h
  all_goals first | rfl | (subst h; exact hx)
/-- Cells of an element that says less. -/
theorem le2v_cells {x y : AV} (h : le2v tab x y) (hx : okVar x = true) : okVar y = true ∧ (cellsOf x).length = (cellsOf y).length ∧ ∀ (t : Nat) (v : AV), (cellsOf y)[t]? = some v → ∃ u, (cellsOf x)[t]? = some u ∧ Sx.le1 tab u v := by
  unfold le2v at h
  split at h
  · split at h
    · exact h.elim
    · rename_i hn
      rw [cellsOf_atom hn]
      exact ⟨rfl, rfl, fun t v e => by
        cases t with
        | zero => simp [cellsOf] at e; subst e; exact ⟨x, rfl, trivial⟩
        | succ t => simp [cellsOf] at e⟩
  · unfold Sx.le2 at h
    split at h
    · rename_i bs _
      split at h
      · rename_i as
        obtain ⟨h1, h2⟩ := leL1_get h
        refine ⟨List.all_eq_true.2 fun z hz => ?_, h1, h2⟩
        obtain ⟨i, hi⟩ := List.getElem?_of_mem hz
        obtain ⟨u, h3, h4⟩ := h2 i z hi
        exact le1_okVar1 h4 (List.all_eq_true.1 hx u (mem_of_get h3))
      · exact h.elim
    · rename_i hu hn
      have hxa : ∀ cs, x ≠ .agg cs := fun cs e => by
        subst e
        unfold Sx.le1 at h
        split at h
        all_goals first | exact h.elim | (subst h; exact hn _ rfl) | simp_all
      have hx1 : okVar1 x = true := by
        unfold okVar at hx
        split at hx
        · exact (hxa _ rfl).elim
        · exact hx
      have hy1 := le1_okVar1 h hx1
      rw [cellsOf_atom hxa, cellsOf_atom hn]
      refine ⟨?_, rfl, fun t v e => ?_⟩
      · unfold okVar
        split
        · exact (hn _ rfl).elim
        · exact hy1
      · cases t with
        | zero => simp at e; subst e; exact ⟨x, rfl, h⟩
        | succ t => simp at e
theorem EntOK.leE {i : Nat} {e e' : Ent} (h : Sx.leE tab e e') (hv : EntOK E Z tab w i e) : EntOK E Z tab w i e' := by
  unfold Sx.leE at h
  split at h
  · trivial
  · rename_i k sz es
    split at h
    · rename_i k' sz' es'
      obtain ⟨rfl, rfl, h⟩ := h
      split at h
      · obtain ⟨h1, h2, h3, h4, h5⟩ := hv
        obtain ⟨g1, g2⟩ := leLv_get h
        have get : ∀ e ∈ es, ∃ x ∈ es', le2v tab x e := fun e he => by
          obtain ⟨j, hj⟩ := List.getElem?_of_mem he
          obtain ⟨x, h6, h7⟩ := g2 j e hj
          exact ⟨x, mem_of_get h6, h7⟩
        refine ⟨fun e he => ?_, nofun, nofun, fun _ e he => ?_, fun hne => ?_⟩
        · obtain ⟨x, hx, hle⟩ := get e he
          rw [← (le2v_cells hle (h4 rfl x hx)).2.1]; exact h1 x hx
        · obtain ⟨x, hx, hle⟩ := get e he
          exact (le2v_cells hle (h4 rfl x hx)).1
        · obtain ⟨ho, cs, ty, fr, hh, hu, hs, hc⟩ := h5 (by intro e; subst e; exact hne (List.eq_nil_of_length_eq_zero g1.symm))
          refine ⟨ho, cs, ty, fr, hh, hu, by rw [← g1]; exact hs, fun j t e v e1 e2 => ?_⟩
          obtain ⟨x, h6, h7⟩ := g2 j e e1
          obtain ⟨u, h8, h9⟩ := (le2v_cells h7 (h4 rfl x (mem_of_get h6))).2.2 t v e2
          obtain ⟨c, q1, q2⟩ := hc j t x u h6 h8
          exact ⟨c, q1, V.le1 h9 q2⟩
      · subst h; exact hv
    · exact h.elim
theorem leE_row {e : Ent} {k : Kind} {sz : Nat} {es : List AV} (h : Sx.leE tab e (.row k sz es)) : ∃ es', e = .row k sz es' ∧ es'.length = es.length ∧ (k = .nest → es' = es) := by
  unfold Sx.leE at h
  simp only at h
  split at h
  · obtain ⟨rfl, rfl, h⟩ := h
    split at h
    · exact ⟨_, rfl, (leLv_get h).1, nofun⟩
    · subst h; exact ⟨_, rfl, rfl, fun _ => rfl⟩
  · exact h.elim
theorem leT_get : ∀ {t t' : List Ent}, leT tab t t' → t.length = t'.length ∧ ∀ i, Sx.leE tab (ent t i) (ent t' i)
  | [], [], _ => ⟨rfl, fun i => trivial⟩
  | [], _ :: _, h => h.elim
  | _ :: _, [], h => h.elim
  | e :: t, e' :: t', h => by
    obtain ⟨h1, h2⟩ := leT_get h.2
    refine ⟨by simp [h1], fun i => ?_⟩
    cases i with
    | zero => exact h.1
    | succ i => exact h2 i
theorem Sat.le {ts' : List AV} (s : Sat Γ E ts tab a w) (h1 : leL3 tab' ts ts') (h2 : leT tab' tab tab') : Sat Γ E ts' tab' a w := by
  obtain ⟨l1, g1⟩ := leL3_get h1
  obtain ⟨l2, g2⟩ := leT_get h2
  have row : ∀ i k sz es', ent tab' i = .row k sz es' → ∃ es, ent tab i = .row k sz es ∧ es.length = es'.length ∧ (k = .nest → es = es') := fun i k sz es' h => by
    have := g2 i
    rw [h] at this
    exact leE_row this
  have p : Pres (fun _ => False) E (zone Γ E) tab w E (zone Γ E) tab' w := ⟨by omega, fun b h hb => ⟨h, rfl⟩, fun i _ k sz es' he => ⟨rfl, let ⟨es, h3, h4, _⟩ := row i k sz es' he; ⟨es, h3, h4⟩⟩,
    fun i _ k sz es' _ h => ⟨h, fun cs ty fr h => ⟨cs, ty, h, rfl⟩⟩, fun i _ _ sz es' h j sz' es1 hj => by
      obtain ⟨es, h3, _, h5⟩ := row i _ sz es' h
      have := h5 rfl
      subst this
      exact ⟨es, es1, h3, hj, fun cs ty fr c h1 h2 => ⟨cs, ty, fr, h1, h2⟩⟩⟩
  refine { s with len := s.len.trans l1, vals := fun i v c q1 q2 => ?_, ents := fun i => ?_, mt := fun i hi => ?_ }
  · obtain ⟨x, h3, h4⟩ := g1 i v q1
    exact ((s.vals i x c h3 q2).p p).le3 h4
  · exact EntOK.leE (g2 i) ((s.ents i).pres p ⟨rfl, fun b x h => ⟨h, rfl⟩⟩)
  · obtain ⟨h3, h4⟩ := s.mt i hi
    refine ⟨by omega, fun k sz es he => ?_⟩
    obtain ⟨es2, h5, h6, _⟩ := row i k sz es he
    obtain ⟨q1, ⟨es0, q2, q3⟩, q4⟩ := h4 k sz es2 h5
    exact ⟨q1, ⟨es0, q2, q3.trans h6⟩, q4⟩
/-- A row without elements may be put behind. -/
theorem Sat.ext1 (s : Sat Γ E ts tab a w) (sz : Nat) : Sat Γ E ts (tab ++ [.row .plain sz []]) a w := by
  have he : ∀ i, i < tab.length → ent (tab ++ [.row .plain sz []]) i = ent tab i := fun i hi => by rw [ent_snoc, if_neg (by omega)]
  have p : Pres (fun _ => False) E (zone Γ E) tab w E (zone Γ E) (tab ++ [.row .plain sz []]) w := ⟨by simp, fun b h hb => ⟨h, rfl⟩, fun i hi k sz' es' h => ⟨rfl, es', (by rw [← he i hi]; exact h), rfl⟩,
    fun i _ k sz es' _ h => ⟨h, fun cs ty fr h => ⟨cs, ty, h, rfl⟩⟩, fun i hi _ sz' es' h j sz2 es1 hj => ⟨es', es1, (by rw [← he i hi]; exact h), hj, fun cs ty fr c h1 h2 => ⟨cs, ty, fr, h1, h2⟩⟩⟩
  refine { s with vals := fun i v c q1 q2 => (s.vals i v c q1 q2).pres p (.inl fun _ h => h), ents := fun i => ?_, mt := fun i hi => ?_ }
  · rw [ent_snoc]
    split
    · exact ⟨fun e he => (by cases he), nofun, fun _ e he => (by cases he), nofun, fun h => (h rfl).elim⟩
    · exact (s.ents i).pres p ⟨rfl, fun b x h => ⟨h, rfl⟩⟩
  · obtain ⟨h3, h4⟩ := s.mt i hi
    refine ⟨by simp; omega, fun k sz es h => h4 k sz es (by rw [← he i h3]; exact h)⟩
theorem Sat.exts (s : Sat Γ E ts tab a w) (ext : List Nat) : Sat Γ E ts (tab ++ newR ext) a w := by
  induction ext generalizing tab with
  | nil => simpa [newR] using s
  | cons sz ext ih =>
    have := ih (s.ext1 sz)
    simpa [newR] using this
end
end Sx

/- Own rows that are handed over to be read: as trees. -/
set_option linter.unusedVariables false
namespace Sx
open Go Go.RowKit
section
variable {E E' : Env} {Z Z' : Nat → Prop} {tab tab' : List Ent} {P : Program} {w : World} {Γ : Ctx} {ts : List AV} {a : Act}
theorem own_rep {b sz : Nat} {es : List AV} {own : Nat × Option Nat} {c : Value} (hs : SlOf E w own b sz 0 es.length c) (he : elemsOk sz es) (hk : cellsOk es) (hr : es ≠ [] → RowOK E w own b sz es fun _ v c => Rep Z w v c)
    (hz : E.O b = some own → Z' b) (hm : ∀ b, Z b → b < w.heap.size → Z' b) : Rep Z' w (.sl sz es) c := by
  obtain ⟨a2, cap, rfl, hle, hx⟩ := hs
  by_cases hne : es = []
  · subst hne; exact .sl0 _ _ _
  obtain ⟨ho, cs, ty, fr, hh, hu, hsz, hcell⟩ := hr hne
  have ha : a2 = some ⟨b, 0, none⟩ := by
    rcases hx with hx | ⟨hx, _⟩
    · have : es.length = 0 := by omega
      exact (hne (List.eq_nil_of_length_eq_zero this)).elim
    · simpa using hx
  subst ha
  refine .sl sz es b 0 cap (fun x => (cs[x]?).getD undef) hle he hk (fun j t e v _ _ => hz ho) (fun j t e v e1 e2 => ?_) (fun j t e v e1 e2 => ?_)
  · obtain ⟨c, e3, _⟩ := hcell j t e v e1 e2
    rw [cell_of hh, Nat.zero_add, e3]; rfl
  · obtain ⟨c, e3, e4⟩ := hcell j t e v e1 e2
    rw [e3]
    exact e4.mono fun b h1 h2 => ⟨hm b h1 h2, rfl⟩
theorem ownCell_rep {i j : Nat} {v : AV} {c : Value} (h : OwnCell E Z w i j v c) (hz : ∀ b x, E.O b = some (i, x) → Z' b) (hm : ∀ b, Z b → b < w.heap.size → Z' b) : Rep Z' w v c := by
  cases v with
  | sl sz es => obtain ⟨b, h1, h2, h3, h4⟩ := h; exact own_rep h1 h2 h3 h4 (hz b _) hm
  | nilsl => have h : c = .slice none 0 0 := h; subst h; exact .nilsl
  | emp => obtain ⟨a2, rfl⟩ : ∃ a2, c = .slice a2 0 0 := h; exact .emp _
  | unk => exact .unk _
  | _ => exact h.elim
/-- What is known of a row that becomes a tree. -/
structure Known (Z' : Nat → Prop) (w : World) (b sz : Nat) (es : List AV) : Prop where
  el : elemsOk sz es
  ok : cellsOk es
  zone : es ≠ [] → Z' b
  cells : es ≠ [] → ∃ cs ty fr, w.heap[b]? = some (.cells cs ty fr) ∧ ∀ (j t : Nat) (e v : AV), es[j]? = some e → (cellsOf e)[t]? = some v → ∃ c, cs[j * sz + t]? = some c ∧ Rep Z' w v c
theorem EntOK.known {i : Nat} {k : Kind} {sz : Nat} {es : List AV} (h : EntOK E Z tab w i (.row k sz es)) (hk : k ≠ .var) (hun : k = .nest → cellsOk es) (hz : ∀ b x, E.O b = some (i, x) → Z' b) (hm : ∀ b, Z b → b < w.heap.size → Z' b) : Known Z' w (E.L i) sz es := by
  obtain ⟨h1, h2, h3, h4, h5⟩ := h
  refine ⟨h1, ?_, fun hne => hz _ _ (h5 hne).1, fun hne => ?_⟩
  · cases k with
    | var => exact (hk rfl).elim
    | plain => exact h3 rfl
    | nest => exact hun rfl
  · obtain ⟨ho, cs, ty, fr, hh, hu, hs, hc⟩ := h5 hne
    refine ⟨cs, ty, fr, hh, fun j t e v e1 e2 => ?_⟩
    obtain ⟨c, g1, g2⟩ := hc j t e v e1 e2
    refine ⟨c, g1, ?_⟩
    cases k with
    | var => exact (hk rfl).elim
    | plain => exact Rep.mono (fun b h1 h2 => ⟨hm b h1 h2, rfl⟩) g2
    | nest => exact ownCell_rep g2 hz hm
theorem Known.pim {b sz : Nat} {es : List AV} (h : Known Z' w b sz es) (j0 t0 : Nat) : Rep Z' w (.pim sz es j0 t0) (.pointer (some ⟨b, j0 * sz + t0, none⟩)) := by
  have e0 : j0 * sz + t0 = 0 + j0 * sz + t0 := by omega
  rw [e0]
  by_cases hne : es = []
  · subst hne
    exact .pim sz [] j0 t0 b 0 (fun _ => undef) h.el h.ok nofun nofun nofun
  obtain ⟨cs, ty, fr, hh, hc⟩ := h.cells hne
  refine .pim sz es j0 t0 b 0 (fun x => (cs[x]?).getD undef) h.el h.ok (fun j t e v _ _ => h.zone hne) (fun j t e v e1 e2 => ?_) (fun j t e v e1 e2 => ?_)
  · obtain ⟨c, e3, _⟩ := hc j t e v e1 e2
    rw [cell_of hh, Nat.zero_add, e3]; rfl
  · obtain ⟨c, e3, e4⟩ := hc j t e v e1 e2
    rw [e3]; exact e4
theorem get_cut {es : List AV} {off len j : Nat} {e : AV} (h : ((es.drop off).take len)[j]? = some e) : es[off + j]? = some e := by
  rw [List.getElem?_take] at h
  split at h
  · rwa [List.getElem?_drop] at h
  · cases h
theorem Known.sl {b sz off len : Nat} {es : List AV} {own : Nat × Option Nat} {c : Value} (h : Known Z' w b sz es) (hs : SlOf E w own b sz off len c) (hle : off + len ≤ es.length) : Rep Z' w (.sl sz ((es.drop off).take len)) c := by
  obtain ⟨a2, cap, rfl, hcap, hx⟩ := hs
  have hlen : ((es.drop off).take len).length = len := by rw [List.length_take, List.length_drop]; omega
  by_cases hz : len = 0
  · subst hz; simp; exact .sl0 _ _ _
  have hne : es ≠ [] := by intro e; subst e; simp at hle; omega
  obtain ⟨cs, ty, fr, hh, hc⟩ := h.cells hne
  have ha : a2 = some ⟨b, off * sz, none⟩ := by
    rcases hx with hx | ⟨hx, _⟩
    · omega
    · exact hx
  subst ha
  have mem : ∀ x ∈ (es.drop off).take len, x ∈ es := fun x hx => List.drop_subset _ _ (List.take_subset _ _ hx)
  have := Rep.sl (Z := Z') (w := w) sz ((es.drop off).take len) b (off * sz) cap (fun x => (cs[off * sz + x]?).getD undef) (by omega) (fun e he => h.el e (mem e he)) (fun e he => h.ok e (mem e he)) (fun j t e v _ _ => h.zone hne) (fun j t e v e1 e2 => ?_) (fun j t e v e1 e2 => ?_)
  · rw [hlen] at this; exact this
  · obtain ⟨c, e3, _⟩ := hc (off + j) t e v (get_cut e1) e2
    rw [Nat.add_mul, Nat.add_assoc] at e3
    rw [cell_of hh, Nat.add_assoc, e3]; rfl
  · obtain ⟨c, e3, e4⟩ := hc (off + j) t e v (get_cut e1) e2
    rw [Nat.add_mul, Nat.add_assoc] at e3
    rw [e3]; exact e4
/-- The rows that are read stay as they are. -/
structure Snap (σ : List Nat) (E : Env) (Z : Nat → Prop) (tab : List Ent) (w : World) (Z' : Nat → Prop) : Prop where
  ents : ∀ i, EntOK E Z tab w i (ent tab i)
  own : ∀ b i x, E.O b = some (i, x) → idx σ i = none → Z' b
  imm : ∀ b, Z b → b < w.heap.size → Z' b
  known : ∀ i sz es, idx σ i = none → ent tab i = .row .nest sz es → cellsOk es
theorem Snap.row {σ : List Nat} (n : Snap σ E Z tab w Z') {i : Nat} {k : Kind} {sz : Nat} {es : List AV} (hi : idx σ i = none) (he : ent tab i = .row k sz es) (hk : k ≠ .var) : Known Z' w (E.L i) sz es := by
  have := n.ents i
  rw [he] at this
  exact this.known hk (fun e => by subst e; exact n.known i sz es hi he) (fun b x h => n.own b i x h hi) n.imm
theorem snap1_sound {σ : List Nat} (n : Snap σ E Z tab w Z') {i : Nat} {v : AV} {c : Value} (hr : refOf v = some i) (hi : idx σ i = none) (hv : V E Z tab w v c) : Rep Z' w (snap1 tab v) c := by
  unfold snap1
  split
  · cases hr
    split
    · exact .unk _
    · rename_i k sz es hk he
      have := hv.loc_inv.2 _ _ _ he
      have := (n.row hi he hk).sl this (by omega)
      simpa using this
    · exact .unk _
  · cases hr
    split
    · exact .unk _
    · rename_i k sz es hk he
      have := hv.part_inv.2 _ _ _ he
      exact (n.row hi he hk).sl this.1 this.2
    · exact .unk _
  · rename_i i' j
    cases hr
    split
    · rename_i sz0 es he
      split
      · rename_i sz es' hj
        rw [nth_eq] at hj
        obtain ⟨cs, ty, fr, hh, hc⟩ := hv.sub_inv.2 _ _ _ _ he hj
        have hent := n.ents i
        rw [he] at hent
        obtain ⟨_, h2, _, _, h3⟩ := hent
        have hs1 := h2 rfl
        subst hs1
        obtain ⟨_, cs2, ty2, fr2, hh2, _, _, hcell⟩ := h3 (ne_nil_of_get hj)
        rw [hh] at hh2; cases hh2
        obtain ⟨c2, h4, h5⟩ := hcell j 0 _ _ hj rfl
        simp only [Nat.mul_one, Nat.add_zero] at h4
        rw [hc] at h4; cases h4
        exact ownCell_rep h5 (fun b x h => n.own b i x h hi) n.imm
      · exact .unk _
    · exact .unk _
  · rename_i i' j k t
    cases hr
    split
    · rename_i sz0 es he
      split
      · rename_i sz es' hj
        rw [nth_eq] at hj
        obtain ⟨cs, ty, fr, b, m, cap, hh, hc, rfl⟩ := hv.psub_inv.2 _ _ _ _ he hj
        have hent := n.ents i
        rw [he] at hent
        obtain ⟨_, h2, _, _, h3⟩ := hent
        have hs1 := h2 rfl
        subst hs1
        obtain ⟨_, cs2, ty2, fr2, hh2, _, _, hcell⟩ := h3 (ne_nil_of_get hj)
        rw [hh] at hh2; cases hh2
        obtain ⟨c2, h4, h5⟩ := hcell j 0 _ _ hj rfl
        simp only [Nat.mul_one, Nat.add_zero] at h4
        rw [hc] at h4; cases h4
        obtain ⟨b2, ⟨a2, cap2, e, hle, hx⟩, heo, hko, hro⟩ := h5
        cases e
        refine Known.pim (⟨heo, hko, fun hne => ?_, fun hne => ?_⟩ : Known Z' w b sz es') k t
        all_goals
          have eb : b2 = b := by
            rcases hx with hx | ⟨hx, _⟩
            · have : es'.length = 0 := by omega
              exact (hne (List.eq_nil_of_length_eq_zero this)).elim
            · simp at hx; exact hx.symm
          subst eb
          obtain ⟨ho3, cs3, ty3, fr3, hh3, hu3, hs3, hc3⟩ := hro hne
        · exact n.own _ i _ ho3 hi
        · exact ⟨cs3, ty3, fr3, hh3, fun j t e v e1 e2 => let ⟨c, g1, g2⟩ := hc3 j t e v e1 e2; ⟨c, g1, g2.mono fun b h1 h2 => ⟨n.imm b h1 h2, rfl⟩⟩⟩
      · exact .unk _
    · exact .unk _
  · cases hr
    split
    · exact .unk _
    · rename_i k sz es hk he
      rw [hv.prow_inv.2 _ _ _ he]
      exact (n.row hi he hk).pim _ _
    · exact .unk _
  · exact .unk _
theorem snap1_ok (tab : List Ent) (v : AV) : okVar1 (snap1 tab v) = true := by
  unfold snap1
  repeat' split
  all_goals rfl
theorem snapS_ok (σ : List Nat) (tab : List Ent) (v : AV) : okVar1 (snapS σ tab v) = true := by
  unfold snapS
  repeat' split
  all_goals first | rfl | exact snap1_ok _ _
theorem snapS_sound {σ : List Nat} (n : Snap σ E Z tab w Z') {v : AV} {c : Value} (hv : V E Z tab w v c) : Rep Z' w (snapS σ tab v) c := by
  unfold snapS
  split
  · rename_i i hr
    split
    · exact .unk _
    · rename_i hi
      exact snap1_sound n hr hi hv
  · exact .unk _
theorem V.snap {miss : AV → AV} (hm : ∀ b, Z b → b < w.heap.size → Z' b) (hmiss : ∀ v c, V E Z tab w v c → Rep Z' w (miss v) c) {v : AV} {c : Value} (h : V E Z tab w v c) : Rep Z' w (Sx.mv1 (fun _ => none) miss v) c := by
  cases h with
  | imm r =>
    have r' := r.mono (Z' := Z') (w' := w) fun b h1 h2 => ⟨hm b h1 h2, rfl⟩
    cases r <;> first | exact r' | exact .unk _ | (simp only [Sx.mv1]; split <;> first | exact r' | exact .unk _)
  | loc i c hi h => exact hmiss _ _ (.loc i c hi h)
  | part i off len c hi h => exact hmiss _ _ (.part i off len c hi h)
  | prow i j t c hi h => exact hmiss _ _ (.prow i j t c hi h)
  | sub i j c hi h => exact hmiss _ _ (.sub i j c hi h)
  | psub i j j' t c hi h => exact hmiss _ _ (.psub i j j' t c hi h)
  | agg cs vs hl hc =>
    simp only [Sx.mv1]
    split
    · rename_i hall
      exact .agg _ _ hl fun i x y h1 h2 => ((hc i x y h1 h2).imm1 (List.all_eq_true.1 hall x (List.mem_of_getElem? h1))).mono fun b h1 h2 => ⟨hm b h1 h2, rfl⟩
    · exact .unk _
  | fn => exact .unk _
  | ifc => exact .unk _
  | tuple => exact .unk _
theorem snapV_sound {σ : List Nat} (n : Snap σ E Z tab w Z') {i : Nat} {v : AV} {c : Value} (hr : refOf v = some i) (hi : idx σ i = none) (hv : V E Z tab w v c) : Rep Z' w (snapV σ tab v) c := by
  unfold snapV
  split
  · rename_i i' j t
    cases hr
    split
    · rename_i sz es he
      split
      · rename_i hall
        rw [hv.prow_inv.2 _ _ _ he]
        have hent := n.ents i
        rw [he] at hent
        obtain ⟨h1, _, _, h2, h3⟩ := hent
        have hcell : ∀ e ∈ es, cellsOf (Sx.mv2 (fun _ => none) (snapS σ tab) e) = (cellsOf e).map (Sx.mv1 (fun _ => none) (snapS σ tab)) := fun e he => (mv2_cells (snapS_ok σ tab) (h2 rfl e he)).1
        refine Known.pim (⟨fun e he => ?_, fun e he x hx => ?_, fun hne => ?_, fun hne => ?_⟩ : Known Z' w (E.L i) sz _) j t
        · obtain ⟨x, hx, rfl⟩ := List.mem_map.1 he
          rw [hcell x hx, List.length_map]; exact h1 x hx
        · exact List.all_eq_true.1 (List.all_eq_true.1 hall e he) x hx
        · exact n.own _ i _ (h3 (by intro e; subst e; exact hne rfl)).1 hi
        · obtain ⟨ho, cs, ty, fr, hh, hu, hs, hc⟩ := h3 (by intro e; subst e; exact hne rfl)
          refine ⟨cs, ty, fr, hh, fun j t e v e1 e2 => ?_⟩
          obtain ⟨x, hx, rfl⟩ := map_get e1
          rw [hcell x (mem_of_get hx)] at e2
          obtain ⟨y, hy, rfl⟩ := map_get e2
          obtain ⟨c, g1, g2⟩ := hc j t x y hx hy
          exact ⟨c, g1, V.snap n.imm (fun v c h => snapS_sound n h) g2⟩
      · exact .unk _
    · exact snap1_sound n rfl hi hv
  · exact snap1_sound n hr hi hv
theorem snapOk_known {σ : List Nat} : ∀ {n : Nat} {t : List Ent}, snapOk σ n t → ∀ i sz es, idx σ (n + i) = none → ent t i = .row .nest sz es → cellsOk es
  | n, [], _, i, sz, es, _, he => by rw [ent_out (by simp)] at he; cases he
  | n, e :: rest, h, i, sz, es, hi, he => by
    have tail : snapOk σ (n + 1) rest ∧ (∀ sz es, e = .row .nest sz es → idx σ n = none → cellsOk es) := by
      unfold snapOk at h
      split at h
      · split at h
        · rename_i hq; exact ⟨h, fun sz es _ hn => by rw [hn] at hq; cases hq⟩
        · exact ⟨h.2, fun sz es e _ => by cases e; exact h.1⟩
      · rename_i hn; exact ⟨h, fun sz es e => (hn _ _ e).elim⟩
    cases i with
    | zero => exact tail.2 sz es he hi
    | succ i => exact snapOk_known tail.1 i sz es (by rw [Nat.add_assoc, Nat.add_comm 1 i]; exact hi) he
/-- Rows become trees. -/
theorem Sat.frz {σ : List Nat} (s : Sat Γ E ts tab a w) (hm : ∀ b, Γ.O0 b = none) (hu : upto Γ.muts.length σ = true) (hn : nodupB σ = true) (hk : snapOk σ 0 tab) : Sat Γ (cutE σ E) (ts.map (ren3 σ tab)) (renT σ tab) a w ∧
    ∀ v c, V E (zone Γ E) tab w v c → V (cutE σ E) (zone Γ (cutE σ E)) (renT σ tab) w (ren3 σ tab v) c := by
  have hz : ∀ b, zone Γ E b → b < w.heap.size → zone Γ (cutE σ E) b := fun b h _ => ⟨cutE_none h.1, h.2⟩
  have m : Mv (idx σ) E (zone Γ E) tab (cutE σ E) (zone Γ (cutE σ E)) (renT σ tab) w := cut_mv (fun _ => rfl) hz
  have sn : Snap σ E (zone Γ E) tab w (zone Γ (cutE σ E)) := by
    refine ⟨s.ents, fun b i x h1 h2 => ⟨cutE_lost h1 h2, fun hb => ?_⟩, hz, fun i sz es h1 h2 => snapOk_known hk i sz es (by rw [Nat.zero_add]; exact h1) h2⟩
    have := (s.frame b hb (hm b)).1
    rw [this] at h1; cases h1
  have hv : ∀ v c, V E (zone Γ E) tab w v c → V (cutE σ E) (zone Γ (cutE σ E)) (renT σ tab) w (ren3 σ tab v) c := fun v c h => h.mv3 m fun i v c h1 h2 h3 => .imm (snapV_sound sn h1 h2 h3)
  refine ⟨⟨s.dfr, by simpa using s.len, fun i v c h1 h2 => ?_, fun p => cut_ents hn (fun _ => rfl) m (snap1_ok tab) (fun i v c h1 h2 h3 => .imm (snap1_sound sn h1 h2 h3)) s.ents p, fun b x h => ?_, s.os, s.tape, s.output, s.size, fun b hb h0 => ?_, fun i hi => ?_⟩, hv⟩
  · obtain ⟨y, hy, rfl⟩ := map_get h1
    exact hv y c (s.vals i y c hy h2)
  · obtain ⟨p, x⟩ := x
    obtain ⟨i, h1, _⟩ := cutE_inv h
    exact s.own b _ h1
  · exact ⟨cutE_none (s.frame b hb h0).1, (s.frame b hb h0).2⟩
  · have h1 := upto_at hu i hi
    obtain ⟨h2, h3⟩ := s.mt i hi
    refine ⟨by have := (List.getElem?_eq_some_iff.1 h1).1; simpa [renT] using this, fun k sz es he => ?_⟩
    unfold renT at he
    rw [ent_map h1] at he
    obtain ⟨es2, h4, h5, _⟩ := mvE_row he
    obtain ⟨g1, ⟨es0, g2, g3⟩, g4⟩ := h3 k sz es2 h4
    refine ⟨(cutE_L h1).trans g1, ⟨es0, g2, g3.trans h5⟩, fun ho => ?_⟩
    obtain ⟨g5, g6⟩ := g4 ho
    rw [cutE_L h1]
    exact ⟨cutE_O g5 (idx_at hn h1), g6⟩
theorem Sat.weak {fz : Bool} {ts' : List AV} (s : Sat Γ E ts tab a w) (hm : NoMut Γ fz) (h : Sx.weak fz Γ.muts.length ts tab ts' tab') : ∃ E', Sat Γ E' ts' tab' a w := by
  cases h with
  | mk ext σ h1 h2 h3 h4 => exact ⟨_, ((s.exts ext).cut h1 h2).le h3 h4⟩
  | fz ext σ h1 h2 hf hs h3 h4 => exact ⟨_, ((s.exts ext).frz (hm hf).2 h1 h2 hs).1.le h3 h4⟩
end
end Sx

/- What a contract says, and calls. -/
set_option linter.unusedVariables false
namespace Sx
open Go Go.RowKit
section
variable {E E' : Env} {Z Z' : Nat → Prop} {tab tab' : List Ent} {P : Program} {w : World} {Γ : Ctx} {ts : List AV} {a : Act}
/-- A call, of a function with a body or without. -/
def ACall (P : Program) (f : FuncId) (vs : List Value) (w : World) (R : Value → World → Prop) : Prop :=
  ((callFunc f vs.toArray).run P w = .ok (.enter f vs.toArray) w ∧ Calls P f vs.toArray w fun e w' => match e with | .returned v => R v w' | _ => False) ∨
  ∃ v w', (callFunc f vs.toArray).run P w = .ok (.value v) w' ∧ R v w'
theorem calls_mono {f : FuncId} {vs : Array Value} {R R' : Ending → World → Prop} (h : Calls P f vs w R) (hr : ∀ e w', R e w' → R' e w') : Calls P f vs w R' := fun cs =>
  let ⟨e, w', fr, r, s, x⟩ := h cs; ⟨e, w', fr, hr _ _ r, s, x⟩
theorem ACall.mono {f : FuncId} {vs : List Value} {R R' : Value → World → Prop} (h : ACall P f vs w R) (hr : ∀ v w', R v w' → R' v w') : ACall P f vs w R' := by
  rcases h with ⟨h1, h2⟩ | ⟨v, w', h1, h2⟩
  · exact .inl ⟨h1, calls_mono h2 fun e w' h => by cases e <;> first | exact hr _ _ h | exact h⟩
  · exact .inr ⟨v, w', h1, hr _ _ h2⟩
def zoneR (Γ : Ctx) (al : Bool) (E : Env) (b : Nat) : Prop := match al with
  | true => zone Γ E b
  | false => False
/-- What holds when a function has returned. -/
structure Post (Γ : Ctx) (E : Env) (r : AV) (tab : List Ent) (al : Bool) (v : Value) (w : World) : Prop where
  val : V E (zoneR Γ al E) tab w r v
  ents : ∀ i, EntOK E (zoneR Γ al E) tab w i (ent tab i)
  own : ∀ b x, E.O b = some x → b < w.heap.size
  os : w.os = Γ.w0.os
  tape : w.tape = Γ.w0.tape
  output : w.output = Γ.w0.output
  size : Γ.w0.heap.size ≤ w.heap.size
  frame : ∀ b, b < Γ.w0.heap.size → Γ.O0 b = none → E.O b = none ∧ w.heap[b]? = Γ.w0.heap[b]?
  mt : ∀ i, i < Γ.muts.length → i < tab.length ∧ ∀ k sz es, ent tab i = .row k sz es → E.L i = Γ.L0 i ∧ (∃ es0, ent Γ.muts i = .row k sz es0 ∧ es0.length = es.length) ∧
    (Γ.O0 (Γ.L0 i) = some (i, none) → E.O (E.L i) = some (i, none) ∧ ∀ cs ty fr, Γ.w0.heap[E.L i]? = some (.cells cs ty fr) → ∃ cs' ty', w.heap[E.L i]? = some (.cells cs' ty' fr) ∧ cs'.size = cs.size)
/-- What is known of memory that nobody writes (variables of the program). -/
class Glb where
  G : World → Prop
def Gw [Glb] (O : Nat → Option (Nat × Option Nat)) (w : World) : Prop :=
  ∃ B : Nat → Prop, (∀ b, B b → b < w.heap.size ∧ O b = none) ∧ ∀ w' : World, (∀ b, B b → w'.heap[b]? = w.heap[b]?) → Glb.G w'
/-- The contract of a function. -/
def AFn [Glb] (P : Program) : Contracts := fun f args muts Q al =>
  ∀ (w : World) (O : Nat → Option (Nat × Option Nat)) (L : Nat → Nat) (Z : Nat → Prop) (vs : List Value), Gw O w → (∀ b i x, O b = some (i, x) → b < w.heap.size ∧ i < muts.length) →
    (∀ i, EntOK ⟨O, L⟩ (zone ⟨w, O, L, muts, Z⟩ ⟨O, L⟩) muts w i (ent muts i)) → Vs ⟨O, L⟩ (zone ⟨w, O, L, muts, Z⟩ ⟨O, L⟩) muts w args vs →
    ACall P f vs w fun v w' => ∃ r muts' E', Q r muts' ∧ Post ⟨w, O, L, muts, Z⟩ E' r muts' al v w'
/-- All contracts hold, in a world of which the global things are known. -/
def CAll [Glb] (P : Program) (Γ : Ctx) (C : Contracts) : Prop := (∀ f args muts Q al, C f args muts Q al → AFn P f args muts Q al) ∧ Gw Γ.O0 Γ.w0
theorem Gw.at [Glb] (h : Gw Γ.O0 Γ.w0) (s : Sat Γ E ts tab a w) : Gw E.O w := by
  obtain ⟨B, h1, h2⟩ := h
  refine ⟨B, fun b hb => ⟨by have := (h1 b hb).1; have := s.size; omega, (s.frame b (h1 b hb).1 (h1 b hb).2).1⟩, fun w' hw => h2 w' fun b hb => (hw b hb).trans (s.frame b (h1 b hb).1 (h1 b hb).2).2⟩
theorem Gw.none [Glb] {O O' : Nat → Option (Nat × Option Nat)} (h : Gw O w) (ho : ∀ b, O b = .none → O' b = .none) : Gw O' w := by
  obtain ⟨B, h1, h2⟩ := h
  exact ⟨B, fun b hb => ⟨(h1 b hb).1, ho b (h1 b hb).2⟩, h2⟩
theorem Gw.get [Glb] {O : Nat → Option (Nat × Option Nat)} (h : Gw O w) : Glb.G w := by
  obtain ⟨B, _, h2⟩ := h
  exact h2 w fun _ _ => rfl
/-! references given up -/
theorem kls1_sound {σ : List Nat} {v : AV} {c : Value} (h : V E Z tab w v c) : V E Z tab w (kls1 σ v) c ∧ Free (fun i => idx σ i ≠ none) (kls1 σ v) := by
  unfold kls1
  split
  · split
    · exact ⟨.imm (.unk _), .simple _ rfl⟩
    · rename_i hb; exact ⟨h, .sub _ _ fun e => e hb⟩
  · split
    · exact ⟨.imm (.unk _), .simple _ rfl⟩
    · rename_i hb; exact ⟨h, .psub _ _ _ _ fun e => e hb⟩
  · exact ⟨.imm (.unk _), .simple _ rfl⟩
  · exact ⟨.imm (.unk _), .simple _ rfl⟩
  · exact ⟨.imm (.unk _), .simple _ rfl⟩
  · exact ⟨.imm (.unk _), .simple _ rfl⟩
  · refine ⟨h, .simple _ ?_⟩
    rename_i h1 h2 h3 h4 h5 h6
    cases v <;> first | rfl | exact (h1 _ _ rfl).elim | exact (h2 _ _ _ _ rfl).elim | exact (h3 _ rfl).elim | exact (h4 _ _ _ rfl).elim | exact (h5 _ _ rfl).elim | exact (h6 _ rfl).elim
theorem kls2_sound {σ : List Nat} {v : AV} {c : Value} (h : V E Z tab w v c) : V E Z tab w (kls2 σ v) c ∧ Free (fun i => idx σ i ≠ none) (kls2 σ v) := by
  unfold kls2
  split
  · rename_i cs
    obtain ⟨vs, rfl, hl, hc⟩ := h.agg_inv
    refine ⟨.agg _ _ (by simpa using hl) fun j x y h1 h2 => ?_, .agg _ fun x hx => ?_⟩
    · obtain ⟨z, h3, rfl⟩ := map_get h1
      exact (kls1_sound (hc j z y h3 h2)).1
    · obtain ⟨z, hz, rfl⟩ := List.mem_map.1 hx
      obtain ⟨j, hj, rfl⟩ := List.getElem_of_mem hz
      exact (kls1_sound (hc j cs[j] (vs[j]'(by omega)) (by simp [hj]) (by simp))).2
  · rename_i f b d
    obtain ⟨va, vb, rfl, h1, h2, h3, h4⟩ := h.fn_inv
    refine ⟨.fn _ _ _ _ _ (by simpa using h1) (by simpa using h2) (fun j x y q1 q2 => ?_) (fun j x y q1 q2 => ?_), .fn _ _ _ (fun x hx => ?_) (fun x hx => ?_)⟩
    · obtain ⟨z, q3, rfl⟩ := map_get q1
      exact (kls1_sound (h3 j z y q3 q2)).1
    · obtain ⟨z, q3, rfl⟩ := map_get q1
      exact (kls1_sound (h4 j z y q3 q2)).1
    · obtain ⟨z, hz, rfl⟩ := List.mem_map.1 hx
      obtain ⟨j, hj, rfl⟩ := List.getElem_of_mem hz
      exact (kls1_sound (h3 j b[j] (va[j]'(by omega)) (by simp [hj]) (by simp))).2
    · obtain ⟨z, hz, rfl⟩ := List.mem_map.1 hx
      obtain ⟨j, hj, rfl⟩ := List.getElem_of_mem hz
      exact (kls1_sound (h4 j d[j] (vb[j]'(by omega)) (by simp [hj]) (by simp))).2
  · exact kls1_sound h
theorem kls3_sound {σ : List Nat} {v : AV} {c : Value} (h : V E Z tab w v c) : V E Z tab w (kls3 σ v) c ∧ Free (fun i => idx σ i ≠ none) (kls3 σ v) := by
  unfold kls3
  split
  · rename_i cs
    obtain ⟨vs, rfl, hl, hc⟩ := h.tuple_inv
    refine ⟨.tuple _ _ (by simpa using hl) fun j x y h1 h2 => ?_, .tuple _ fun x hx => ?_⟩
    · obtain ⟨z, h3, rfl⟩ := map_get h1
      exact (kls2_sound (hc j z y h3 h2)).1
    · obtain ⟨z, hz, rfl⟩ := List.mem_map.1 hx
      obtain ⟨j, hj, rfl⟩ := List.getElem_of_mem hz
      exact (kls2_sound (hc j cs[j] (vs[j]'(by omega)) (by simp [hj]) (by simp))).2
  · rename_i t v
    obtain ⟨c', rfl, h2⟩ := h.ifc_inv
    have := kls2_sound (σ := σ) h2
    exact ⟨.ifc _ _ _ this.1, .ifc _ _ this.2⟩
  · exact kls2_sound h
theorem Sat.kls (s : Sat Γ E ts tab a w) (σ : List Nat) : Sat Γ E (klsT σ ts) tab a w ∧ ∀ x ∈ klsT σ ts, (∀ i, ¬ idx σ i ≠ none) ∨ Free (fun i => idx σ i ≠ none) x := by
  cases σ with
  | nil => exact ⟨s, fun x _ => .inl fun i h => h rfl⟩
  | cons i0 σ =>
    show Sat Γ E (ts.map (kls3 (i0 :: σ))) tab a w ∧ ∀ x ∈ ts.map (kls3 (i0 :: σ)), _
    refine ⟨{ s with len := by simpa using s.len, vals := fun j v c h1 h2 => ?_ }, fun x hx => .inr ?_⟩
    · obtain ⟨z, h3, rfl⟩ := map_get h1
      exact (kls3_sound (s.vals j z c h3 h2)).1
    · obtain ⟨z, hz, rfl⟩ := List.mem_map.1 hx
      obtain ⟨j, hj, rfl⟩ := List.getElem_of_mem hz
      have hj2 : j < a.tmps.size := by rw [s.len]; exact hj
      exact (kls3_sound (s.vals j ts[j] a.tmps[j] (by simp [hj]) (by simp [hj2]))).2
/-! the tables -/
theorem backT_spec : ∀ {σ : List Nat} {ms tab : List Ent} {k : List Ent → List Ent → Prop}, nodupB σ = true → backT σ ms tab k → ∃ tab', σ.length ≤ ms.length ∧ k (ms.drop σ.length) tab' ∧ tab'.length = tab.length ∧
    (∀ i ∈ σ, i < tab.length) ∧ ∀ i, ent tab' i = match idx σ i with | some p => ent ms p | none => ent tab i
  | [], ms, tab, k, _, h => ⟨tab, Nat.zero_le _, h, rfl, nofun, fun i => rfl⟩
  | i0 :: σ, [], tab, k, _, h => h.elim
  | i0 :: σ, m :: ms, tab, k, hn, h => by
    obtain ⟨hi, h⟩ := eset_spec h
    unfold nodupB at hn
    split at hn
    · cases hn
    · rename_i hx
      obtain ⟨tab', h1, h2, h3, h4, h5⟩ := backT_spec hn h
      refine ⟨tab', by simpa using h1, by simpa using h2, by simpa using h3, fun i hi' => ?_, fun i => ?_⟩
      · rcases List.mem_cons.1 hi' with rfl | hi'
        · exact hi
        · simpa using h4 i hi'
      · rw [h5 i]
        by_cases e : i0 = i
        · subst e
          have q : idx (i0 :: σ) i0 = some 0 := by simp [idx, Nat.beq_refl]
          rw [hx, q]
          simp only
          rw [ent_set hi, if_pos rfl]
          rfl
        · have hb : Nat.beq i0 i = false := by
            cases hq : Nat.beq i0 i with
            | false => rfl
            | true => exact (e (Nat.eq_of_beq_eq_true hq)).elim
          cases hq : idx σ i with
          | some p =>
            have q : idx (i0 :: σ) i = some (p + 1) := by simp [idx, hb, hq]
            rw [q]; rfl
          | none =>
            have q : idx (i0 :: σ) i = none := by simp [idx, hb, hq]
            rw [q]
            simp only
            rw [ent_set hi, if_neg (fun h => e h.symm)]
theorem bkT_ent {σ : List Nat} {n : Nat} : ∀ {ms : List Ent} {p : Nat}, p < ms.length → ent (bkT σ n ms) p = mvE (fun p => some (bkN σ n p)) lost (ent ms p)
  | [], p, h => by simp at h
  | e :: ms, 0, h => rfl
  | e :: ms, p + 1, h => bkT_ent (ms := ms) (p := p) (by simpa using h)
theorem bkT_len {σ : List Nat} {n : Nat} : ∀ {ms : List Ent}, (bkT σ n ms).length = ms.length
  | [] => rfl
  | e :: ms => by simp [bkT, bkT_len]
def bkE (σ : List Nat) (n : Nat) (E E' : Env) : Env := ⟨fun b => match E'.O b with
  | some (p, x) => some (bkN σ n p, x)
  | none => match E.O b with
    | some (i, x) => match idx σ i with
      | some _ => none
      | none => some (i, x)
    | none => none, fun i => match idx σ i with
  | some p => E'.L p
  | none => match decide (i < n) with
    | true => E.L i
    | false => E'.L (σ.length + (i - n))⟩
theorem in1 {σ : List Nat} {miss : AV → AV} {v : AV} (h : refIn1 σ v = true) : mv1 (idx σ) miss v = mv1 (idx σ) lost v := by
  unfold refIn1 at h
  cases v <;> first | rfl | (simp only [refOf] at h; unfold mv1; split at h <;> simp_all)
theorem inL {σ : List Nat} {miss : AV → AV} {cs : List AV} (h : cs.all (refIn1 σ) = true) : cs.map (mv1 (idx σ) miss) = cs.map (mv1 (idx σ) lost) :=
  List.map_congr_left fun x hx => in1 (List.all_eq_true.1 h x hx)
theorem in2 {σ : List Nat} {miss : AV → AV} {v : AV} (h : refIn2 σ v = true) : mv2 (idx σ) miss v = mv2 (idx σ) lost v := by
  cases v with
  | agg cs => show AV.agg _ = AV.agg _; rw [inL h]
  | fn f a b =>
    have h : (a.all (refIn1 σ) && b.all (refIn1 σ)) = true := h
    rw [Bool.and_eq_true] at h
    show AV.fn _ _ _ = AV.fn _ _ _
    rw [inL h.1, inL h.2]
  | loc i => exact in1 (v := .loc i) h
  | part i j k => exact in1 (v := .part i j k) h
  | prow i j k => exact in1 (v := .prow i j k) h
  | sub i j => exact in1 (v := .sub i j) h
  | psub i j k t => exact in1 (v := .psub i j k t) h
  | _ => rfl
theorem in3 {σ : List Nat} {miss : AV → AV} {v : AV} (h : refIn3 σ v = true) : mv3 (idx σ) miss v = mv3 (idx σ) lost v := by
  cases v with
  | tuple vs =>
    show AV.tuple _ = AV.tuple _
    rw [List.map_congr_left fun x hx => in2 (List.all_eq_true.1 h x hx)]
  | ifc t v => show AV.ifc _ _ = AV.ifc _ _; rw [in2 h]
  | agg cs => exact in2 (v := .agg cs) h
  | fn f a b => exact in2 (v := .fn f a b) h
  | loc i => exact in1 (v := .loc i) h
  | part i j k => exact in1 (v := .part i j k) h
  | prow i j k => exact in1 (v := .prow i j k) h
  | sub i j => exact in1 (v := .sub i j) h
  | psub i j k t => exact in1 (v := .psub i j k t) h
  | _ => rfl
theorem inE {σ : List Nat} {miss : AV → AV} {e : Ent} (h : refInE σ e = true) : mvE (idx σ) miss e = mvE (idx σ) lost e := by
  cases e with
  | dead => rfl
  | row k sz es => cases k with
    | var => show Ent.row _ _ _ = Ent.row _ _ _; rw [List.map_congr_left fun x hx => in2 (List.all_eq_true.1 h x hx)]
    | plain => rfl
    | nest => rfl
theorem inT {σ : List Nat} {tab : List Ent} (h : (σ.all fun i => refInE σ (ent tab i)) = true) : renT σ tab = σ.map fun i => mvE (idx σ) lost (ent tab i) :=
  List.map_congr_left fun i hi => inE (List.all_eq_true.1 h i hi)
theorem noRef1 {φ : Nat → Option Nat} {miss : AV → AV} {v : AV} (h : isRef v = false) : mv1 φ miss v = mv1 φ lost v := by
  cases v <;> first | rfl | cases h
theorem noRef {φ : Nat → Option Nat} {miss : AV → AV} {v : AV} (h : hasRef v = false) : mv3 φ miss v = mv3 φ lost v := by
  have key : ∀ cs : List AV, cs.any isRef = false → cs.map (mv1 φ miss) = cs.map (mv1 φ lost) := fun cs hc => List.map_congr_left fun x hx => noRef1 (by
    cases hq : isRef x with
    | false => rfl
    | true => rw [List.any_eq_true.2 ⟨x, hx, hq⟩] at hc; cases hc)
  cases v with
  | tuple => cases h
  | ifc => cases h
  | agg cs => show AV.agg _ = AV.agg _; rw [key cs h]
  | fn f a b =>
    have h : (a.any isRef || b.any isRef) = false := h
    rw [Bool.or_eq_false_iff] at h
    show AV.fn _ _ _ = AV.fn _ _ _
    rw [key a h.1, key b h.2]
  | _ => first | rfl | cases h
end
end Sx

/- Calls keep the state. -/
set_option linter.unusedVariables false
namespace Sx
open Go Go.RowKit
section
variable [Glb] {E E' : Env} {Z Z' : Nat → Prop} {tab tab' : List Ent} {P : Program} {w : World} {Γ : Ctx} {ts : List AV} {a : Act}
theorem bkN_at {σ : List Nat} {n p i : Nat} (h : σ[p]? = some i) : bkN σ n p = i := by unfold bkN; rw [nth_eq, h]
theorem bkN_ge {σ : List Nat} {n p : Nat} (h : σ.length ≤ p) : bkN σ n p = n + (p - σ.length) := by unfold bkN; rw [nth_eq, List.getElem?_eq_none h]
theorem idx_big {σ : List Nat} {n i : Nat} (hσ : ∀ i ∈ σ, i < n) (h : n ≤ i) : idx σ i = none := by
  cases hq : idx σ i with
  | none => rfl
  | some p => have := hσ i (mem_of_get (idx_some hq)); omega
theorem bkE_L {σ : List Nat} {n p : Nat} (hn : nodupB σ = true) (hσ : ∀ i ∈ σ, i < n) : (bkE σ n E E').L (bkN σ n p) = E'.L p := by
  by_cases hp : p < σ.length
  · have hi : σ[p]? = some σ[p] := by simp [hp]
    rw [bkN_at hi]
    simp [bkE, idx_at hn hi]
  · rw [bkN_ge (by omega)]
    have e1 : σ.length + (p - σ.length) = p := by omega
    have e2 : ¬ (n + (p - σ.length) < n) := by omega
    simp [bkE, idx_big hσ (show n ≤ n + (p - σ.length) by omega), e1, e2]
theorem bkE_L0 {σ : List Nat} {n i : Nat} (hi : i < n) (h : idx σ i = none) : (bkE σ n E E').L i = E.L i := by simp [bkE, h, hi]
theorem bkE_some {σ : List Nat} {n b p : Nat} {x : Option Nat} (h : E'.O b = some (p, x)) : (bkE σ n E E').O b = some (bkN σ n p, x) := by simp [bkE, h]
theorem bkE_old {σ : List Nat} {n b i : Nat} {x : Option Nat} (h : E'.O b = none) (h2 : E.O b = some (i, x)) (h3 : idx σ i = none) : (bkE σ n E E').O b = some (i, x) := by simp [bkE, h, h2, h3]
theorem bkE_none {σ : List Nat} {n b : Nat} (h : E'.O b = none) (h2 : E.O b = none) : (bkE σ n E E').O b = none := by simp [bkE, h, h2]
theorem bkE_own {σ : List Nat} {n b : Nat} {y : Nat × Option Nat} (h : (bkE σ n E E').O b = some y) : (∃ z, E'.O b = some z) ∨ ∃ z, E.O b = some z := by
  cases h1 : E'.O b with
  | some z => exact .inl ⟨z, rfl⟩
  | none => cases h2 : E.O b with
    | some z => exact .inr ⟨z, rfl⟩
    | none => rw [bkE_none h1 h2] at h; cases h
def zC (Γ : Ctx) (E : Env) (σ : List Nat) (al : Bool) (b : Nat) : Prop := match al with
  | true => zone Γ E b
  | false => zone Γ E b ∨ ∃ i x, E.O b = some (i, x) ∧ idx σ i = none
theorem set_same {xs : List AV} {p : Nat} {e : AV} (h : xs[p]? = some e) : xs.set p e = xs := by
  apply List.ext_getElem?
  intro i
  rw [List.getElem?_set]
  split
  · rename_i e1; subst e1; rw [h]; simp [(List.getElem?_eq_some_iff.1 h).1]
  · rfl
theorem subAt_ren {σ : List Nat} {args : List AV} {p : Nat} {e : AV} (h : subAt σ tab args p e) : (args.map (ren3 σ tab))[p]? = some e := by
  obtain ⟨i, j, h1, h2, sz, es, sz', es', h3, h4, rfl⟩ := h
  rw [nth_eq] at h1
  rw [List.getElem?_map, h1]
  simp [ren3, mv3, mv2, mv1, h2, snapV, snap1, h3, h4]
theorem setP_same {σ : List Nat} {args : List AV} : ∀ {l : List (Nat × AV)}, subL σ tab args l → setP l (args.map (ren3 σ tab)) = args.map (ren3 σ tab)
  | [], _ => rfl
  | (p, e) :: l, h => by
    show setP l ((args.map (ren3 σ tab)).set p e) = _
    rw [set_same (subAt_ren h.1)]
    exact setP_same h.2
/-- The same table but for rows that are not told. -/
def Less (tabS tab : List Ent) : Prop := tabS.length = tab.length ∧ ∀ i, ent tabS i = ent tab i ∨ ent tabS i = .dead
theorem less_refl (tab : List Ent) : Less tab tab := ⟨rfl, fun _ => .inl rfl⟩
theorem hid_less : ∀ (d : List Nat) (t : List Ent), Less (hid d t) t
  | [], t => less_refl t
  | i :: d, t => by
    obtain ⟨h1, h2⟩ := hid_less d (t.set i .dead)
    refine ⟨by rw [show hid (i :: d) t = hid d (t.set i .dead) from rfl, h1]; simp, fun j => ?_⟩
    rcases h2 j with h | h
    · by_cases hi : i < t.length
      · rw [ent_set hi] at h
        split at h
        · exact .inr h
        · exact .inl h
      · have e : t.set i .dead = t := List.set_eq_of_length_le (by omega)
        exact .inl (h.trans (by rw [e]))
    · exact .inr h
theorem less_row {tabS : List Ent} (hl : Less tabS tab) {i : Nat} {k : Kind} {sz : Nat} {es : List AV} (h : ent tabS i = .row k sz es) : ent tab i = .row k sz es := by
  rcases hl.2 i with h2 | h2
  · rw [← h2]; exact h
  · rw [h2] at h; cases h
theorem V.less {tabS : List Ent} (hl : Less tabS tab) {v : AV} {c : Value} (h : V E Z tab w v c) : V E Z tabS w v c := by
  have key : ∀ {i : Nat} {k : Kind} {sz : Nat} {es : List AV}, ent tabS i = .row k sz es → ent tab i = .row k sz es := fun {i k sz es} h => by
    rcases hl.2 i with h2 | h2
    · rw [← h2]; exact h
    · rw [h2] at h; cases h
  induction h with
  | imm h => exact .imm h
  | loc i c h1 h2 => exact .loc i c (by rw [hl.1]; exact h1) fun k sz es h => h2 k sz es (key h)
  | part i off len c h1 h2 => exact .part i off len c (by rw [hl.1]; exact h1) fun k sz es h => h2 k sz es (key h)
  | prow i j t c h1 h2 => exact .prow i j t c (by rw [hl.1]; exact h1) fun k sz es h => h2 k sz es (key h)
  | sub i j c h1 h2 => exact .sub i j c (by rw [hl.1]; exact h1) fun sz es sz' es' h => h2 sz es sz' es' (key h)
  | psub i j j' t c h1 h2 => exact .psub i j j' t c (by rw [hl.1]; exact h1) fun sz es sz' es' h => h2 sz es sz' es' (key h)
  | agg cs vs h1 _ ih => exact .agg cs vs h1 ih
  | fn f a b va vb h1 h2 _ _ i1 i2 => exact .fn f a b va vb h1 h2 i1 i2
  | ifc t v c _ ih => exact .ifc t v c ih
  | tuple cs vs h1 _ ih => exact .tuple cs vs h1 ih
theorem EntOK.less {tabS : List Ent} (hl : Less tabS tab) {i : Nat} {e : Ent} (h : EntOK E Z tab w i e) : EntOK E Z tabS w i e := by
  cases e with
  | dead => trivial
  | row k sz es =>
    obtain ⟨h1, h2, h3, h4, h5⟩ := h
    refine ⟨h1, h2, h3, h4, fun hne => ?_⟩
    obtain ⟨g1, cs, ty, fr, g2, g3, g4, g5⟩ := h5 hne
    refine ⟨g1, cs, ty, fr, g2, g3, g4, fun j t e v q1 q2 => ?_⟩
    obtain ⟨c, q3, q4⟩ := g5 j t e v q1 q2
    refine ⟨c, q3, ?_⟩
    cases k with
    | var => exact V.less hl q4
    | plain => exact q4
    | nest => exact q4
theorem ents_less {tabS : List Ent} (hl : Less tabS tab) (h : ∀ i, EntOK E Z tab w i (ent tab i)) : ∀ i, EntOK E Z tabS w i (ent tabS i) := fun i => by
  rcases hl.2 i with h2 | h2
  · rw [h2]; exact EntOK.less hl (h i)
  · rw [h2]; trivial
theorem callX_mk {C : Contracts} {f : FuncId} {args : List AV} {k : AV → List AV → List Ent → Prop} (h : callX C f args ts tab k) : ∃ (tabS : List Ent) (σ : List Nat) (n : Nat) (Q : AV → List Ent → Prop) (al : Bool), Less tabS tab ∧ C f (args.map (ren3 σ tabS)) (renT σ tabS) Q al ∧ tab.length = n ∧ nodupB σ = true ∧ snapOk σ 0 tabS ∧ (al = true → Closed σ args tabS) ∧
    ∀ r muts, Q r muts → efL (bkT σ n muts) fun ms => backT σ ms tab fun fresh tab' => vf3 (bk3 σ n r) fun r' => klsF σ ts fun ts' => lnorm (tab' ++ fresh) fun tab'' => k r' ts' tab'' := by
  cases h with
  | mk σ n r muts al hc hn h1 h2 h3 hk => exact ⟨tab, σ, n, _, al, less_refl _, hc, hn, h1, h2, h3, fun _ _ ⟨e1, e2⟩ => by subst e1; subst e2; exact hk⟩
  | mkT l σ hl n r muts al hc hn h1 h2 h3 hk => rw [setP_same hl] at hc; exact ⟨tab, σ, n, _, al, less_refl _, hc, hn, h1, h2, h3, fun _ _ ⟨e1, e2⟩ => by subst e1; subst e2; exact hk⟩
  | mkH d σ n r muts al hc hn h1 h2 h3 hk => exact ⟨hid d tab, σ, n, _, al, hid_less d tab, hc, hn, h1, h2, h3, fun _ _ ⟨e1, e2⟩ => by subst e1; subst e2; exact hk⟩
  | mkE d σ n p rf mf al hc hn h1 h2 h3 hk => exact ⟨hid d tab, σ, n, _, al, hid_less d tab, hc, hn, h1, h2, h3, fun _ _ ⟨x, hx, e1, e2⟩ => by subst e1; subst e2; exact hk x hx⟩
theorem callX_sound {C : Contracts} (hC : CAll P Γ C) {f : FuncId} {args : List AV} {vs : List Value} {k : AV → List AV → List Ent → Prop}
    (h : callX C f args ts tab k) (s : Sat Γ E ts tab a w) (hv : Vs E (zone Γ E) tab w args vs) :
    ACall P f vs w fun v w' => ∃ r ts' tab' E', k r ts' tab' ∧ Sat Γ E' ts' tab' a w' ∧ V E' (zone Γ E') tab' w' r v := by
  obtain ⟨tabS, σ, n0, Q, al, hS, hc, hn0, hn, hk, hal, hb⟩ := callX_mk h
  subst hn0
  have hZ1 : ∀ b, zone Γ E b → zC Γ E σ al b := fun b hz => by cases al; exact .inl hz; exact hz
  have hzone : ∀ b, zC Γ E σ al b → (cutE σ E).O b = none → zone ⟨w, (cutE σ E).O, (cutE σ E).L, renT σ tabS, zC Γ E σ al⟩ ⟨(cutE σ E).O, (cutE σ E).L⟩ b := fun b h1 h2 => ⟨h2, fun _ => h1⟩
  have hmv : Mv (idx σ) E (zone Γ E) tabS (cutE σ E) (zone ⟨w, (cutE σ E).O, (cutE σ E).L, renT σ tabS, zC Γ E σ al⟩ ⟨(cutE σ E).O, (cutE σ E).L⟩) (renT σ tabS) w :=
    cut_mv (fun _ => rfl) fun b hz _ => hzone b (hZ1 b hz) (cutE_none hz.1)
  have hsnap : al = false → Snap σ E (zone Γ E) tabS w (zone ⟨w, (cutE σ E).O, (cutE σ E).L, renT σ tabS, zC Γ E σ al⟩ ⟨(cutE σ E).O, (cutE σ E).L⟩) := fun e => by
    refine ⟨ents_less hS s.ents, fun b i x h1 h2 => hzone b ?_ (cutE_lost h1 h2), fun b hz _ => hzone b (hZ1 b hz) (cutE_none hz.1), fun i sz es h1 h2 => ?_⟩
    · subst e; exact .inr ⟨i, x, h1, h2⟩
    · exact snapOk_known hk i sz es (by rw [Nat.zero_add]; exact h1) h2
  have hcall := hC.1 _ _ _ _ _ hc w (cutE σ E).O (cutE σ E).L (zC Γ E σ al) vs ((hC.2.at s).none fun b h => cutE_none h) (fun b p x hb => by
      obtain ⟨i, h1, h2⟩ := cutE_inv hb
      exact ⟨s.own b _ h1, by have := (List.getElem?_eq_some_iff.1 (idx_some h2)).1; simpa [renT] using this⟩) (fun p => by
      cases al with
      | true =>
        have e := inT (hal rfl).rows
        have hmv := hmv
        rw [e] at hmv ⊢
        exact cut_ents hn (fun _ => rfl) hmv (fun _ => rfl) (fun _ _ c _ _ _ => .imm (.unk c)) (ents_less hS s.ents) p
      | false => exact cut_ents hn (fun _ => rfl) hmv (snap1_ok tabS) (fun i v c h1 h2 h3 => .imm (snap1_sound (hsnap rfl) h1 h2 h3)) (ents_less hS s.ents) p) (by
      refine ⟨by simpa using hv.1, fun i v c h1 h2 => ?_⟩
      obtain ⟨x, hx, rfl⟩ := map_get h1
      have hxv := (hv.2 i x c hx h2).less hS
      cases al with
      | true =>
        have := List.all_eq_true.1 (hal rfl).args x (mem_of_get hx)
        unfold ren3
        rw [in3 this]
        exact hxv.mv3 hmv fun _ _ c _ _ _ => .imm (.unk c)
      | false => exact hxv.mv3 hmv fun i v c h1 h2 h3 => .imm (snapV_sound (hsnap rfl) h1 h2 h3))
  refine hcall.mono fun v w' hp => ?_
  obtain ⟨r, muts, E', hq0, hp⟩ := hp
  replace hb := hb r muts hq0
  obtain ⟨tab1, hle, hkk, hlen, hσ, hent⟩ := backT_spec hn (efL_iff hb)
  have hkk := lnorm_iff (klsF_iff (vf3_iff hkk))
  rw [bkT_len] at hle
  obtain ⟨s1, hfree⟩ := s.kls σ
  -- the new table
  have ent_lo : ∀ i, i < tab.length → ent (tab1 ++ (bkT σ tab.length muts).drop σ.length) i = match idx σ i with | some p => ent (bkT σ tab.length muts) p | none => ent tab i := fun i hi => by
    exact (show ent (tab1 ++ (bkT σ tab.length muts).drop σ.length) i = ent tab1 i by rw [ent_eq, ent_eq, List.getElem?_append_left (by omega)]).trans (hent i)
  have ent_hi : ∀ q, ent (tab1 ++ (bkT σ tab.length muts).drop σ.length) (tab.length + q) = ent (bkT σ tab.length muts) (σ.length + q) := fun q => by
    rw [ent_eq, ent_eq, List.getElem?_append_right (by omega), List.getElem?_drop, hlen]
    congr 3
    omega
  have ent_bk : ∀ p, p < muts.length → ent (tab1 ++ (bkT σ tab.length muts).drop σ.length) (bkN σ tab.length p) = mvE (fun p => some (bkN σ tab.length p)) lost (ent muts p) := fun p hp => by
    rw [← bkT_ent hp]
    by_cases h1 : p < σ.length
    · have hi : σ[p]? = some σ[p] := by simp [h1]
      rw [bkN_at hi, ent_lo _ (hσ _ (List.getElem_mem h1)), idx_at hn hi]
    · rw [bkN_ge (by omega), ent_hi]
      congr 1
      omega
  have mlen : (renT σ tabS).length = σ.length := by simp [renT]
  have bk_lt : ∀ p, p < muts.length → bkN σ tab.length p < (tab1 ++ (bkT σ tab.length muts).drop σ.length).length := fun p hp => by
    rw [List.length_append, List.length_drop, bkT_len, hlen]
    by_cases h1 : p < σ.length
    · have hi : σ[p]? = some σ[p] := by simp [h1]
      rw [bkN_at hi]
      have := hσ _ (List.getElem_mem h1)
      omega
    · rw [bkN_ge (by omega)]; omega
  have hframe : ∀ b, b < w.heap.size → (cutE σ E).O b = none → E'.O b = none ∧ w'.heap[b]? = w.heap[b]? := hp.frame
  have hzR : ∀ b, zoneR ⟨w, (cutE σ E).O, (cutE σ E).L, renT σ tabS, zC Γ E σ al⟩ al E' b → b < w'.heap.size → zone Γ (bkE σ tab.length E E') b := fun b hz _ => by
    cases al with
    | false => exact hz.elim
    | true =>
      have hz : E'.O b = none ∧ (b < w.heap.size → zone Γ E b) := hz
      have hE : E.O b = none := by
        by_cases hb : b < w.heap.size
        · exact (hz.2 hb).1
        · cases hq : E.O b with
          | none => rfl
          | some x => exact (hb (s.own b x hq)).elim
      exact ⟨bkE_none hz.1 hE, fun hb => (hz.2 (Nat.lt_of_lt_of_le hb s.size)).2 hb⟩
  have m2 : Mv (fun p => some (bkN σ tab.length p)) E' (zoneR ⟨w, (cutE σ E).O, (cutE σ E).L, renT σ tabS, zC Γ E σ al⟩ al E') muts (bkE σ tab.length E E') (zone Γ (bkE σ tab.length E E')) (tab1 ++ (bkT σ tab.length muts).drop σ.length) w' := by
    refine ⟨hzR, fun p q hp' hq => ?_⟩
    cases hq
    refine ⟨bk_lt p hp', bkE_L hn hσ, fun b x h => bkE_some h, fun k sz es' he => ?_⟩
    rw [ent_bk p hp'] at he
    exact mvE_row he
  have row : ∀ i, i < tab.length → ∀ k sz es', ent (tab1 ++ (bkT σ tab.length muts).drop σ.length) i = .row k sz es' →
      (bkE σ tab.length E E').L i = E.L i ∧ (∃ es, ent tab i = .row k sz es ∧ es.length = es'.length) ∧ (idx σ i = none → es' = match ent tab i with | .row _ _ es => es | .dead => []) ∧
      (E.O (E.L i) = some (i, none) → (bkE σ tab.length E E').O (E.L i) = some (i, none) ∧ ∀ cs ty fr, w.heap[E.L i]? = some (.cells cs ty fr) → ∃ cs' ty', w'.heap[E.L i]? = some (.cells cs' ty' fr) ∧ cs'.size = cs.size) := by
    intro i hi k sz es' he
    cases hq : idx σ i with
    | none =>
      have he : ent tab i = .row k sz es' := by rw [ent_lo i hi, hq] at he; exact he
      refine ⟨bkE_L0 hi hq, ⟨es', he, rfl⟩, fun _ => by rw [he], fun ho => ?_⟩
      obtain ⟨h1, h2⟩ := hframe _ (s.own _ _ ho) (cutE_lost ho hq)
      exact ⟨bkE_old h1 ho hq, fun cs ty fr h => ⟨cs, ty, h2.trans h, rfl⟩⟩
    | some p =>
      have hpi := idx_some hq
      have hpl : p < σ.length := (List.getElem?_eq_some_iff.1 hpi).1
      have hb : bkN σ tab.length p = i := bkN_at hpi
      rw [← hb, ent_bk p (by omega)] at he
      obtain ⟨es2, h1, h2, _⟩ := mvE_row he
      obtain ⟨h3, h4⟩ := hp.mt p (by show p < (renT σ tabS).length; omega)
      obtain ⟨g1, ⟨es0, g2, g3⟩, g4⟩ := h4 k sz es2 h1
      have g1 : E'.L p = (cutE σ E).L p := g1
      rw [cutE_L hpi] at g1
      have g2 : ent (renT σ tabS) p = .row k sz es0 := g2
      unfold renT at g2
      rw [ent_map hpi] at g2
      obtain ⟨es3, g5, g6, _⟩ := mvE_row g2
      have hL : (bkE σ tab.length E E').L i = E'.L p := by rw [← hb]; exact bkE_L hn hσ
      refine ⟨hL.trans g1, ⟨es3, less_row hS g5, by omega⟩, (fun h => nomatch h), fun ho => ?_⟩
      obtain ⟨q1, q2⟩ := g4 (by show (cutE σ E).O ((cutE σ E).L p) = _; rw [cutE_L hpi]; exact cutE_O ho hq)
      rw [g1] at q1 q2
      refine ⟨?_, q2⟩
      rw [bkE_some q1, hb]
  obtain ⟨_, s2⟩ := s1.step (X := fun i => idx σ i ≠ none) (E' := bkE σ tab.length E E') (tab' := tab1 ++ (bkT σ tab.length muts).drop σ.length) (w' := w') hfree
    (by rw [List.length_append]; omega)
    (fun b h hb => ⟨bkE_none (hframe b hb (cutE_none h)).1 h, (hframe b hb (cutE_none h)).2⟩)
    (fun i hi k sz es' he => ⟨(row i hi k sz es' he).1, (row i hi k sz es' he).2.1⟩)
    (fun i hi k sz es' he ho => (row i hi k sz es' he).2.2.2 ho)
    (fun i hi hx sz es' he j sz' es1 hj => by
      have hq : idx σ i = none := by
        cases hq : idx σ i with
        | none => rfl
        | some p => exact (hx (by rw [hq]; nofun)).elim
      obtain ⟨_, ⟨es, h1, _⟩, h2, h3⟩ := row i hi _ _ _ he
      have h2 := h2 hq
      rw [h1] at h2
      simp only at h2
      subst h2
      refine ⟨es', es1, h1, hj, fun cs ty fr c g1 g2 => ⟨cs, ty, fr, ?_, g2⟩⟩
      have hent := s.ents i
      rw [h1] at hent
      obtain ⟨ho, _⟩ := hent.2.2.2.2 (ne_nil_of_get hj)
      exact (hframe _ (s.own _ _ ho) (cutE_lost ho hq)).2.trans g1)
    (fun p0 i => by
      by_cases hi : i < tab.length
      · cases hq : idx σ i with
        | none =>
          refine .inl ⟨by rw [ent_lo i hi, hq], bkE_L0 hi hq, fun b x hb => ?_⟩
          obtain ⟨h1, h2⟩ := hframe _ (s.own _ _ hb) (cutE_lost hb hq)
          exact ⟨bkE_old h1 hb hq, h2⟩
        | some p =>
          refine .inr ?_
          have hpi := idx_some hq
          have hpl : p < σ.length := (List.getElem?_eq_some_iff.1 hpi).1
          have hb : bkN σ tab.length p = i := bkN_at hpi
          rw [← hb, ent_bk p (by omega)]
          exact (hp.ents p).mv m2 (fun _ => rfl) (fun _ _ c _ _ _ => .imm (.unk c)) (by omega) rfl
      · refine .inr ?_
        by_cases hi2 : σ.length + (i - tab.length) < muts.length
        · have hb : bkN σ tab.length (σ.length + (i - tab.length)) = i := by rw [bkN_ge (by omega)]; omega
          rw [← hb, ent_bk _ hi2]
          exact (hp.ents _).mv m2 (fun _ => rfl) (fun _ _ c _ _ _ => .imm (.unk c)) hi2 rfl
        · rw [ent_out (by rw [List.length_append, List.length_drop, bkT_len]; omega)]; trivial)
    (fun b x hb => by
      rcases bkE_own hb with ⟨z, h⟩ | ⟨z, h⟩
      · exact hp.own b z h
      · exact Nat.lt_of_lt_of_le (s.own b z h) hp.size)
    hp.os hp.tape hp.output hp.size
  exact ⟨_, _, _, _, hkk, s2, hp.val.mv3 m2 fun _ _ c _ _ _ => .imm (.unk c)⟩
/-- The slice in an element of a nested row becomes a row of its own. -/
theorem Sat.lift {i j sz sz' : Nat} {es es' : List AV} (s : Sat Γ E ts tab a w) (he : ent tab i = .row .nest sz es) (hj : es[j]? = some (.sl sz' es')) :
    ∃ E', Pres (fun _ => False) E (zone Γ E) (tab.set i (.row .nest sz (es.set j .unk))) w E' (zone Γ E') (tab.set i (.row .nest sz (es.set j .unk)) ++ [.row .plain sz' es']) w ∧
      Sat Γ E' ts (tab.set i (.row .nest sz (es.set j .unk)) ++ [.row .plain sz' es']) a w ∧
      ∀ c, V E (zone Γ E) tab w (.sub i j) c → V E' (zone Γ E') (tab.set i (.row .nest sz (es.set j .unk)) ++ [.row .plain sz' es']) w (.loc tab.length) c := by
  obtain ⟨p2, s2⟩ := s.take (j := j) he
  have hi := ent_lt he
  have hent := s.ents i
  rw [he] at hent
  obtain ⟨g1, g2, _, _, g3⟩ := hent
  have hs1 := g2 rfl
  subst hs1
  obtain ⟨ho, cs, ty, fr, hh, hu, hs, hc⟩ := g3 (ne_nil_of_get hj)
  obtain ⟨c2, h3, h4⟩ := hc j 0 _ _ hj rfl
  simp only [Nat.mul_one, Nat.add_zero] at h3
  obtain ⟨b, hsl, heo, hko, hro⟩ := h4
  have hval : ∀ c, V E (zone Γ E) tab w (.sub i j) c → c = c2 := fun c h => by
    obtain ⟨cs', ty', fr', q1, q2⟩ := h.sub_inv.2 _ _ _ _ he hj
    rw [hh] at q1; cases q1
    rw [h3] at q2; cases q2; rfl
  have hset : ∀ q, q < tab.length → ent (tab.set i (.row .nest 1 (es.set j .unk)) ++ [.row .plain sz' es']) q = ent (tab.set i (.row .nest 1 (es.set j .unk))) q := fun q hq => by
    rw [ent_snoc, if_neg (by simp; omega)]
  have hnew : ent (tab.set i (.row .nest 1 (es.set j .unk)) ++ [.row .plain sz' es']) tab.length = .row .plain sz' es' := by
    rw [ent_snoc, if_pos (by simp)]
  have hcut : ent (tab.set i (.row .nest 1 (es.set j .unk))) i = .row .nest 1 (es.set j .unk) := by rw [ent_set hi, if_pos rfl]
  by_cases hb : E.O b = some (i, some j)
  · have hbl : ∀ q, E.O (E.L q) = some (q, none) → E.L q ≠ b := fun q h e => by rw [e, hb] at h; cases h
    obtain ⟨p3, s3⟩ := s2.step (X := fun _ => False) (E' := ⟨fun x => if x = b then some (tab.length, none) else E.O x, fun q => if q = tab.length then b else E.L q⟩) (tab' := tab.set i (.row .nest 1 (es.set j .unk)) ++ [.row .plain sz' es']) (w' := w)
      (fun _ _ => .inl fun _ => id) (by simp) (fun x hx hlt => ⟨by
        have : x ≠ b := fun e => by rw [e, hb] at hx; cases hx
        simp [this, hx], rfl⟩)
      (fun q hq k sz2 es2 h => by
        have hq : q < tab.length := by simpa using hq
        rw [hset q hq] at h
        exact ⟨by simp [show q ≠ tab.length by omega], es2, h, rfl⟩)
      (fun q hq k sz2 es2 h h5 => by
        exact ⟨by simp [hbl q h5, h5], fun cs ty fr h => ⟨cs, ty, h, rfl⟩⟩)
      (fun q hq _ sz2 es2 h j2 sz3 es3 h5 => by
        have hq : q < tab.length := by simpa using hq
        rw [hset q hq] at h
        exact ⟨es2, es3, h, h5, fun cs ty fr c h1 h2 => ⟨cs, ty, fr, h1, h2⟩⟩)
      (fun p q => by
        by_cases e : q = i
        · subst e
          refine .inr ?_
          rw [hset q hi, hcut]
          have := s2.ents q
          rw [hcut] at this
          obtain ⟨m1, m2, m3, m4, m5⟩ := this
          refine ⟨m1, m2, m3, m4, fun hne => ?_⟩
          obtain ⟨n1, cs', ty', fr', n2, n3, n4, n5⟩ := m5 hne
          have hq : q ≠ tab.length := by omega
          refine ⟨?_, cs', ty', fr', ?_, n3, n4, fun j' t' e' v' e1 e2 => ?_⟩
          · simp [hq, hbl q n1, n1]
          · simpa [hq] using n2
          · obtain ⟨c, q1, q2⟩ := n5 j' t' e' v' e1 e2
            refine ⟨c, q1, ?_⟩
            by_cases ejj : j' = j
            · subst ejj
              have : e' = .unk := by
                rw [List.getElem?_set_self (List.getElem?_eq_some_iff.1 hj).1] at e1; cases e1; rfl
              subst this
              have ht : t' = 0 := by have := (List.getElem?_eq_some_iff.1 e2).1; simp [cellsOf] at this; omega
              subst ht
              cases e2
              exact q2
            · refine OwnCell.keep (E' := ⟨fun x => if x = b then some (tab.length, none) else E.O x, fun q => if q = tab.length then b else E.L q⟩) (w' := w) q2 p.imm fun b' hb' => ⟨?_, rfl⟩
              have : b' ≠ b := fun e => by subst e; rw [hb] at hb'; cases hb'; exact ejj rfl
              simp [this, hb']
        · by_cases e2 : q = tab.length
          · subst e2
            refine .inr ?_
            rw [hnew]
            refine ⟨heo, nofun, fun _ => hko, nofun, fun hne => ?_⟩
            obtain ⟨n1, cs', ty', fr', n2, n3, n4, n5⟩ := hro hne
            refine ⟨by simp, cs', ty', fr', by simpa using n2, n3, n4, fun j' t' e' v' e1 e2 => ?_⟩
            obtain ⟨c, q1, q2⟩ := n5 j' t' e' v' e1 e2
            exact ⟨c, q1, q2.mono p.imm⟩
          · by_cases hq : q < tab.length
            · refine .inl ⟨hset q hq, by simp [e2], fun x y hx => ⟨?_, rfl⟩⟩
              have : x ≠ b := fun e3 => by subst e3; rw [hb] at hx; cases hx; exact e rfl
              simp [this, hx]
            · refine .inr ?_
              rw [ent_out (by simp; omega)]
              trivial)
      (fun x y hx => by
        by_cases e : x = b
        · subst e; exact s2.own _ _ hb
        · exact s2.own x y (by simpa [e] using hx)) rfl rfl rfl (Nat.le_refl _)
    refine ⟨_, p3, s3, fun c hv => ?_⟩
    rw [hval c hv]
    refine .loc _ _ (by simp) fun k3 sz3 es3 h3 => ?_
    rw [hnew] at h3; cases h3
    obtain ⟨a', cap, q1, q2, q3⟩ := hsl
    refine ⟨a', cap, q1, q2, q3.imp id fun ⟨r1, r2, cs', ty', fr', r3, r4, r5⟩ => ⟨?_, ?_, cs', ty', fr', ?_, r4, r5⟩⟩
    · simpa using r1
    · simp
    · simpa using r3
  · obtain ⟨a', cap, q1, q2, q3⟩ := hsl
    have q3 := q3.resolve_right fun h => hb h.2.1
    subst q3
    have hes : es' = [] := List.eq_nil_of_length_eq_zero (by omega)
    subst hes
    refine ⟨E, ?_, s2.ext1 sz', fun c hv => ?_⟩
    · exact ⟨by simp, fun b h hb => ⟨h, rfl⟩, fun q hq k sz2 es2 h => ⟨rfl, es2, (by rw [← hset q (by simpa using hq)]; exact h), rfl⟩,
        fun q hq k sz2 es2 _ h => ⟨h, fun cs ty fr h => ⟨cs, ty, h, rfl⟩⟩, fun q hq _ sz2 es2 h j2 sz3 es3 h5 => ⟨es2, es3, (by rw [← hset q (by simpa using hq)]; exact h), h5, fun cs ty fr c h1 h2 => ⟨cs, ty, fr, h1, h2⟩⟩⟩
    · rw [hval c hv, q1]
      refine .loc _ _ (by simp) fun k3 sz3 es3 h3 => ?_
      rw [hnew] at h3; cases h3
      exact ⟨a', 0, rfl, Nat.le_refl _, .inl rfl⟩
theorem liftL_spec : ∀ {l : List AV} {k : List AV → Prop}, liftL l k → k (l.map lift0)
  | [], _, h => h
  | v :: vs, k, h => by
    have h2 : liftL vs fun vs' => k (lift0 v :: vs') := vf3_iff (show vf3 (lift0 v) (fun v' => liftL vs fun vs' => k (v' :: vs')) from h)
    exact liftL_spec (k := fun vs' => k (lift0 v :: vs')) h2
theorem callW_sound {C : Contracts} {fz : Bool} (hC : CAll P Γ C) {f : FuncId} {args : List AV} {vs : List Value} {k : AV → List AV → List Ent → Prop}
    (h : callW C fz f args ts tab k) (hm : NoMut Γ fz) (s : Sat Γ E ts tab a w) (hv : Vs E (zone Γ E) tab w args vs) :
    ACall P f vs w fun v w' => ∃ r ts' tab' E', k r ts' tab' ∧ Sat Γ E' ts' tab' a w' ∧ V E' (zone Γ E') tab' w' r v := by
  cases h with
  | mk σ n r muts al hc hn h1 h2 h3 hk => exact callX_sound hC (.mk σ n r muts al hc hn h1 h2 h3 hk) s hv
  | mkT l σ hl n r muts al hc hn h1 h2 h3 hk => exact callX_sound hC (.mkT l σ hl n r muts al hc hn h1 h2 h3 hk) s hv
  | mkH d σ n r muts al hc hn h1 h2 h3 hk => exact callX_sound hC (.mkH d σ n r muts al hc hn h1 h2 h3 hk) s hv
  | mkE d σ n p rf mf al hc hn h1 h2 h3 hk => exact callX_sound hC (.mkE d σ n p rf mf al hc hn h1 h2 h3 hk) s hv
  | frz σ hf h1 h2 h =>
    unfold frzC at h
    have h := efL_iff (vfL_iff (fun _ _ => vf3_iff) (vfL_iff (fun _ _ => vf3_iff) h))
    have hmu : upto Γ.muts.length σ = true := by
      have : Γ.muts.length = 0 := by rw [(hm hf).1]; rfl
      rw [this]; rfl
    obtain ⟨s2, hv2⟩ := s.frz (hm hf).2 hmu h1 h2
    refine callX_sound hC h s2 ⟨by simpa using hv.1, fun i v c q1 q2 => ?_⟩
    obtain ⟨x, hx, rfl⟩ := map_get q1
    exact hv2 x c (hv.2 i x c hx q2)
  | lift i j p h =>
    unfold liftC at h
    obtain ⟨hp0, h⟩ := h
    rw [nth_eq] at hp0
    split at h
    · rename_i sz es he
      replace h := optP.o h
      split at h
      · rename_i sz' es' hj
        have hj := nth_some hj
        obtain ⟨_, h⟩ := eset_spec h.o
        have h := liftL_spec (lnorm_iff (liftL_spec (snoc_spec h)))
        obtain ⟨p2, _⟩ := s.take (j := j) he
        obtain ⟨E', p3, s3, hs⟩ := s.lift he hj
        have hlen : (tab.set i (.row .nest sz (es.set j .unk))).length = tab.length := by simp
        rw [hlen] at h
        have hl : ∀ {v : AV} {c : Value}, V E (zone Γ E) tab w v c → V E' (zone Γ E') (tab.set i (.row .nest sz (es.set j .unk)) ++ [.row .plain sz' es']) w (lift0 v) c := fun h => by
          unfold lift0
          split
          all_goals first | exact .imm (.unk _) | exact (h.p p2).p p3
        refine callX_sound hC h { s3 with len := by simpa using s3.len, vals := fun q x y h1 h2 => ?_ } ⟨by simpa using hv.1, fun q x y h1 h2 => ?_⟩
        · obtain ⟨z, hz, rfl⟩ := map_get h1
          exact hl (s.vals q z y hz h2)
        · rw [List.getElem?_set] at h1
          split at h1
          · rename_i e
            subst e
            split at h1
            · cases h1
              exact hs y (hv.2 _ _ y hp0 h2)
            · cases h1
          · obtain ⟨z, hz, rfl⟩ := map_get h1
            exact hl (hv.2 q z y hz h2)
      · exact h.elim
    · exact h.elim
end
end Sx

/- Operations keep the state. -/
set_option linter.unusedVariables false
namespace Sx
open Go Go.RowKit
section
variable [Glb] {E E' : Env} {Z Z' : Nat → Prop} {tab tab' : List Ent} {P : Program} {w : World} {Γ : Ctx} {ts : List AV} {a : Act} {o : Oper}
/-- What an operation does. -/
def Did (P : Program) (o : Oper) (a : Act) (w : World) (R : Value → World → Prop) : Prop :=
  ∀ (next : Act → World → Prop) (Q : Exit → Act → World → Prop), (∀ c w', R c w' → next (a.put o.dst c) w') → o.wp P a w next Q
theorem Did.value {R : Value → World → Prop} {c : Value} {w' : World} (h : (execOp a.eval o).run P w = .ok (.value c) w') (hr : R c w') : Did P o a w R := fun next Q hn => by
  unfold Oper.wp
  rw [h]
  exact hn _ _ hr
theorem Did.skip {R : Value → World → Prop} {w' : World} (h : (execOp a.eval o).run P w = .ok .skip w') (hr : R undef w') : Did P o a w R := fun next Q hn => by
  unfold Oper.wp
  rw [h]
  exact hn _ _ hr
theorem Did.acall {R : Value → World → Prop} {f : FuncId} {vs : List Value} (h : (execOp a.eval o).run P w = (callFunc f vs.toArray).run P w) (hr : ACall P f vs w R) : Did P o a w R := fun next Q hn => by
  unfold Oper.wp
  rw [h]
  rcases hr with ⟨h1, h2⟩ | ⟨v, w', h1, h2⟩
  · rw [h1]
    exact calls_mono h2 fun e w' h => by
      cases e with
      | returned v => exact hn _ _ h
      | _ => exact h.elim
  · rw [h1]
    exact hn _ _ h2
abbrev Rd (Γ : Ctx) (a : Act) (k : AV → List AV → List Ent → Prop) (c : Value) (w' : World) : Prop := ∃ v ts' tab' E', k v ts' tab' ∧ Sat Γ E' ts' tab' a w' ∧ V E' (zone Γ E') tab' w' v c
theorem binW_first {op : BinOp} {x y : AV} {cx : Value} {k : AV → Prop} {t : TypeId} (h : binW P t op x y k) (hx : V E Z tab w x cx) : (∀ cs, cx ≠ .agg cs) ∧ cx ≠ .nilIface := by
  unfold binW at h
  split at h
  · rw [hx.int_inv]; exact ⟨nofun, nofun⟩
  · obtain ⟨b, rfl, _⟩ := hx.str_inv; exact ⟨nofun, nofun⟩
  · unfold boolW at h
    split at h
    · split at h
      · obtain ⟨p, d, rfl, _⟩ := asP_sound h hx; exact ⟨nofun, nofun⟩
      · obtain ⟨p, d, rfl, _⟩ := asP_sound h hx; exact ⟨nofun, nofun⟩
      · exact h.elim
    · exact h.elim
theorem isNil_sound {x : AV} {c : Value} {k : (p : Prop) → Decidable p → Prop} (h : isNil x tab k) (s : Sat Γ E ts tab a w) (hv : V E (zone Γ E) tab w x c) : ∃ p n cap q d, c = .slice p n cap ∧ k q d ∧ p.isNone = @decide q d := by
  unfold isNil at h
  split at h
  · rw [hv.nilsl_inv]; exact ⟨_, _, _, _, _, rfl, h, rfl⟩
  · obtain ⟨p, rfl⟩ := hv.emp_inv
    cases h with
    | mk h => exact ⟨_, _, _, p.isNone = true, inferInstance, rfl, h _ _ trivial, by cases p <;> rfl⟩
  · obtain ⟨sz, es, p, cap, h, rfl, h2⟩ := elems_nil h s hv
    cases h with
    | mk h => exact ⟨_, _, _, p.isNone = true, inferInstance, rfl, h _ _ fun hp => h2 (by simpa using hp), by cases p <;> rfl⟩
theorem run_nil_eql {t e : TypeId} (hu : P.underlying t = some (.slice e)) (p : Option Addr) (n cap : Nat) (w : World) : (Op.equal t (.slice p n cap) (.slice none 0 0)).run P w = .ok p.isNone w := by
  unfold Op.equal
  rw [show Op.maxDepth = 9999 + 1 from rfl]
  unfold Op.equalIn
  have e1 : (underlying t).run P w = .ok (.slice e) w := by simp [underlying, hu]
  cases p with
  | none => simp [e1]
  | some a => simp [e1]
theorem cellEq_sound {d : Nat} {t : TypeId} {x y : AV} {cx cy : Value} {k : (p : Prop) → Decidable p → Prop} (h : cellEq P t x y k) (hx : V E Z tab w x cx) (hy : V E Z tab w y cy) :
    ∃ (p : Prop) (dp : Decidable p), (Op.equalIn (d + 1) t cx cy).run P w = .ok (@decide p dp) w ∧ k p dp := by
  unfold cellEq at h
  split at h
  · rename_i hu
    have hu := und_ok hu
    split at h
    · rename_i kd a
      split at h
      · rename_i kd' b
        split at h
        · rename_i hs
          rw [hx.int_inv, hy.int_inv, ← sameKind_eq hs]
          refine ⟨_, _, ?_, h⟩
          rw [run_equalIn_int w d t kd _ a b hu]
          congr 1
        · exact h.elim
      · exact h.elim
    · exact h.elim
  · rename_i hu
    have hu := und_ok hu
    split at h
    · split at h
      · obtain ⟨b, rfl, rfl⟩ := hx.str_inv
        obtain ⟨b', rfl, rfl⟩ := hy.str_inv
        refine ⟨_, _, ?_, h⟩
        rw [run_equalIn_string w d t _ _ hu, ByteArray.toList_eq, ByteArray.toList_eq]
        congr 1
        rw [Bool.eq_iff_iff]
        simp
      · exact h.elim
    · exact h.elim
  · rename_i hu
    have hu := und_ok hu
    obtain ⟨p, dp, rfl, h⟩ := asP_sound h hx
    obtain ⟨q, dq, rfl, h⟩ := asP_sound h hy
    refine ⟨_, _, ?_, h⟩
    rw [run_equalIn_bool' w d t _ _ hu]
    congr 1
    by_cases p <;> by_cases q <;> simp [*]
  · exact h.elim
theorem fieldsEq_sound {d : Nat} {fs : List Field} {xs ys : List AV} {vs us : List Value} {k : (p : Prop) → Decidable p → Prop} (hn : ∀ f ∈ fs, f.name ≠ "_") (h : fieldsEq P fs xs ys k)
    (hl : xs.length = vs.length) (hx : ∀ (i : Nat) (x : AV) (v : Value), xs[i]? = some x → vs[i]? = some v → V E Z tab w x v)
    (hl' : ys.length = us.length) (hy : ∀ (i : Nat) (x : AV) (v : Value), ys[i]? = some x → us[i]? = some v → V E Z tab w x v) :
    ∃ (p : Prop) (dp : Decidable p), (Op.eqFields (d + 1) vs.toArray us.toArray fs).run P w = .ok (@decide p dp) w ∧ k p dp := by
  induction fs generalizing k with
  | nil => exact ⟨True, .isTrue trivial, by simp [Op.eqFields], h⟩
  | cons f fs ih =>
    unfold fieldsEq at h
    obtain ⟨x, cx, g1, h, g2⟩ := part_val h hl hx
    obtain ⟨y, cy, g3, h, g4⟩ := part_val h hl' hy
    obtain ⟨p, dp, g5, h⟩ := cellEq_sound (d := d) h g2 g4
    have hf := hn f (by simp)
    have key : ∀ (q : Prop) (dq : Decidable q), (Op.eqFields (d + 1) vs.toArray us.toArray fs).run P w = .ok (@decide q dq) w →
        (Op.eqFields (d + 1) vs.toArray us.toArray (f :: fs)).run P w = .ok (@decide (p ∧ q) (@instDecidableAnd p q dp dq)) w := fun q dq hq => by
      simp only [Op.eqFields, ne_eq, hf, not_false_eq_true, if_true, Sem.run_bind, g1, g3, g5, Result.andThen_ok]
      by_cases hp : p
      · simp only [hp, decide_true, Bool.not_true, Bool.false_eq_true, if_false, hq]
        by_cases hqq : q <;> simp [hp, hqq]
      · simp [hp]
    split at h
    · refine ⟨p, dp, ?_, h⟩
      have := key True (.isTrue trivial) (by simp [Op.eqFields])
      rw [this]
      congr 1
      by_cases hp : p <;> simp [hp]
    · obtain ⟨q, dq, hq, h⟩ := ih (fun f hf => hn f (by simp [hf])) h
      exact ⟨_, _, key q dq hq, h⟩
theorem structW_sound {op : BinOp} {xs ys : List AV} {cx cy : Value} {k : AV → Prop} {t : TypeId} (h : structW P t op xs ys k) (hx : V E Z tab w (.agg xs) cx) (hy : V E Z tab w (.agg ys) cy) :
    ∃ v c, (binOp op t cx cy).run P w = .ok c w ∧ k v ∧ Rep Z w v c ∧ ∀ (op : BinOp) (x y : Operand), (eqGuard op t x y cx cy).run P w = .ok () w := by
  obtain ⟨vs, rfl, hl, hv⟩ := hx.agg_inv
  obtain ⟨us, rfl, hl', hv'⟩ := hy.agg_inv
  unfold structW at h
  split at h
  · rename_i fs hu
    have hu := und_ok hu
    obtain ⟨hok, h⟩ := h
    unfold stOk at hok
    split at hok
    · cases hok
    rename_i h1
    split at hok
    · cases hok
    rename_i h2
    rw [hu] at hok
    dsimp only at hok
    have hn : ∀ f ∈ fs.toList, f.name ≠ "_" := fun f hf => by
      have := List.all_eq_true.1 hok f hf
      simpa using this
    have hfo : P.fieldsOf t = fs := by unfold Program.fieldsOf; rw [hu]
    obtain ⟨p, dp, g1, h⟩ := fieldsEq_sound (d := 9998) hn h hl hv hl' hv'
    have g2 := run_equalIn_struct (P := P) w 9999 t vs.toArray us.toArray (by rw [hfo]; exact hu) h1
    rw [hfo, g1] at g2
    split at h
    · exact ⟨_, _, by rw [run_eql_struct, g2]; rfl, h, .prop _ _, fun op x y => run_eqGuard_agg w op t x y _ _ h2⟩
    · refine ⟨_, .bool (@decide (¬ p) (instDecidableNot (dp := dp))), ?_, h, .prop _ _, fun op x y => run_eqGuard_agg w op t x y _ _ h2⟩
      rw [run_neq_struct, g2]
      show Result.ok (Value.bool (!decide p)) w = _
      congr 2
      by_cases hp : p <;> simp [hp]
    · exact h.elim
  · exact h.elim
theorem binN_sound {op : BinOp} {x y : AV} {cx cy : Value} {k : AV → Prop} {t : TypeId} (h : binN P t op x y tab k) (s : Sat Γ E ts tab a w) (hx : V E (zone Γ E) tab w x cx) (hy : V E (zone Γ E) tab w y cy) :
    ∃ v c, (binOp op t cx cy).run P w = .ok c w ∧ k v ∧ Rep (zone Γ E) w v c ∧ ∀ (op : BinOp) (x y : Operand), (eqGuard op t x y cx cy).run P w = .ok () w := by
  unfold binN at h
  split at h
  · split at h
    · rename_i e hu
      have hu := und_ok hu
      rw [hy.nilsl_inv]
      unfold nilW at h
      split at h
      · obtain ⟨p, n, cap, q, d, rfl, h, hd⟩ := isNil_sound h s hx
        exact ⟨_, .bool (decide q), by simp [binOp, run_nil_eql hu, hd], h, .prop _ _, fun _ _ _ => eqGuard_ok ⟨nofun, nofun⟩⟩
      · obtain ⟨p, n, cap, q, d, rfl, h, hd⟩ := isNil_sound h s hx
        exact ⟨_, .bool (decide (¬ q)), by simp [binOp, run_nil_eql hu, hd], h, .prop _ _, fun _ _ _ => eqGuard_ok ⟨nofun, nofun⟩⟩
      · exact h.elim
    · exact h.elim
  · split at h
    · exact structW_sound h hx hy
    · exact h.elim
  · obtain ⟨v, c, g1, g2, g3⟩ := binW_sound h hx hy
    exact ⟨v, c, g1, g2, g3, fun _ _ _ => eqGuard_ok (binW_first h hx)⟩
theorem intOfs_sound {vs : List AV} {cs : List Value} {k : List Int → Prop} (h : intOfs vs k) (hv : Vs E Z tab w vs cs) : ∃ ns : List Int, k ns ∧ cs = ns.map (Value.int .i64) := by
  induction vs generalizing cs k with
  | nil => rw [hv.nil_inv]; exact ⟨[], h, rfl⟩
  | cons v vs ih =>
    obtain ⟨c, cs', rfl, h1, h2⟩ := hv.cons_inv
    unfold intOfs at h
    split at h
    · rename_i e; cases e
    · rename_i n ws e
      cases e
      obtain ⟨ns, h3, rfl⟩ := ih h h2
      exact ⟨n :: ns, h3, by rw [h1.int_inv]; rfl⟩
    · exact h.elim
theorem lenB_sound {nest : Bool} {args : List AV} {cs : List Value} {tys : List TypeId} {ty : TypeId} {con : Array Bool} {k : AV → List Ent → Prop} (h : builtinW nest P .len args tys tab k) (s : Sat Γ E ts tab a w) (hv : Vs E (zone Γ E) tab w args cs) :
    ∃ v c, (builtin .len tys.toArray ty con cs.toArray).run P w = .ok (.value c) w ∧ k v tab ∧ V E (zone Γ E) tab w v c := by
  unfold builtinW at h
  simp only at h
  split at h
  · rename_i v
    obtain ⟨c, cs', rfl, h1, h2⟩ := hv.cons_inv
    have := h2.nil_inv
    subst this
    split at h
    · rename_i t r
      split at h
      · rename_i n e hu
        refine ⟨_, _, ?_, h, .imm (.int _ _)⟩
        simp [builtin, Builtin.len_, run_und hu, goInt]
      · rename_i hu
        split at h
        · obtain ⟨b, rfl, hb⟩ := h1.str_inv
          obtain ⟨n, rfl, h⟩ := h
          refine ⟨_, .int .i64 b.size, ?_, h, ?_⟩
          · simp only [builtin, Sem.run_bind]
            rw [len_run_str hu r]
            rfl
          · have : (b.size : Int) = ((b.data.toList.length : Nat) : Int) := by simp
            rw [this, hb]
            exact .imm (.int _ _)
        · exact h.elim
      · rename_i e hu
        obtain ⟨v', c', g1, g2, g3⟩ := lenW_sound (ty := ty) (r := r) h s hu h1
        refine ⟨v', c', ?_, g2, g3⟩
        simp only [builtin, Sem.run_bind]
        rw [g1]
        rfl
      · exact h.elim
    · exact h.elim
  · exact h.elim
theorem builtinW_sound {nest : Bool} {b : Builtin} {args : List AV} {cs : List Value} {tys : List TypeId} {ty : TypeId} {con : Array Bool} {k : AV → List Ent → Prop} (h : builtinW nest P b args tys tab k) (s : Sat Γ E ts tab a w) (hv : Vs E (zone Γ E) tab w args cs) :
    ∃ v tab' c w' E', (builtin b tys.toArray ty con cs.toArray).run P w = .ok (.value c) w' ∧ k v tab' ∧ Sat Γ E' ts tab' a w' ∧ V E' (zone Γ E') tab' w' v c := by
  unfold builtinW at h
  split at h
  · obtain ⟨v, c, g1, g2, g3⟩ := lenB_sound (nest := nest) (ty := ty) (con := con) h s hv
    exact ⟨v, tab, c, w, E, g1, g2, s, g3⟩
  · split at h
    · rename_i d x
      obtain ⟨c1, cs', rfl, h1, h2⟩ := hv.cons_inv
      obtain ⟨c2, cs'', rfl, h4, h3⟩ := h2.cons_inv
      have := h3.nil_inv
      subst this
      split at h
      · rename_i t t2
        obtain ⟨v, tab', c', w', E', g1, g2, g3, g4⟩ := appendW_sound (ty := ty) h s h1 h4
        refine ⟨v, tab', c', w', E', ?_, g2, g3, g4⟩
        simp only [builtin, Sem.run_bind]
        rw [g1]
        rfl
      · exact h.elim
    · exact h.elim
  · split at h
    · rename_i x
      obtain ⟨c1, cs', rfl, h1, h2⟩ := hv.cons_inv
      have := h2.nil_inv
      subst this
      split at h
      · rename_i t
        obtain ⟨v, tab', w', g1, g2, g3, rfl⟩ := clearW_sound (ty := ty) h s h1
        refine ⟨_, tab', .tuple #[], w', E, ?_, g2, g3, .imm (.tuple _ _ rfl nofun)⟩
        simp only [builtin, Sem.run_bind]
        rw [g1]
        rfl
      · exact h.elim
    · exact h.elim
  · obtain ⟨ns, h, rfl⟩ := intOfs_sound h hv
    split at h
    · rename_i x y
      refine ⟨_, tab, .int .i64 (max x y), w, E, ?_, num_sound h, s, .imm (.int _ _)⟩
      simp [builtin, Builtin.max_, Builtin.max2]
      omega
    · exact h.elim
  · obtain ⟨ns, h, rfl⟩ := intOfs_sound h hv
    split at h
    · rename_i x y
      refine ⟨_, tab, .int .i64 (min x y), w, E, ?_, num_sound h, s, .imm (.int _ _)⟩
      simp [builtin, Builtin.min_, Builtin.min2]
      omega
    · exact h.elim
  · exact h.elim
theorem okSt_var {v : AV} {c : Value} {elem : TypeId} {k : Nat → List Ent → Prop} (h : okSt tab v = true ∧ snoc tab (.row .var (cellsOf v).length [v]) k) (s : Sat Γ E ts tab a w) (hv : V E (zone Γ E) tab w v c) :
    ∃ n tab' E' ad w', (newVar elem c).run P w = .ok ad w' ∧ k n tab' ∧ Sat Γ E' ts tab' a w' ∧ V E' (zone Γ E') tab' w' (.prow n 0 0) (.pointer (some ad)) := by
  obtain ⟨n, tab', E', g1, g2, g3, g4⟩ := box_sound (P := P) (elem := elem) h.2 h.1 s hv
  exact ⟨n, tab', E', _, _, g1, g2, g3, g4⟩
theorem opW_sound {C : Contracts} {nest fz : Bool} {k : AV → List AV → List Ent → Prop} (hC : CAll P Γ C)
    (h : opW C nest fz P o.op ts tab k) (s : Sat Γ E ts tab a w) (hm : NoMut Γ fz) : Did P o a w (Rd Γ a k) := by
  unfold opW at h
  split at h
  · rename_i x ho
    obtain ⟨v, h1, h2⟩ := ev_sound h s
    exact .value (c := a.eval x) (by simp [execOp, ho]) ⟨v, ts, tab, E, h1, s, h2⟩
  · rename_i x ho
    obtain ⟨v, h1, h2⟩ := ev_sound h s
    exact .value (c := a.eval x) (by simp [execOp, ho]) ⟨v, ts, tab, E, h1, s, h2⟩
  · rename_i c x y ho
    obtain ⟨v, h1, h2⟩ := ev_sound h s
    obtain ⟨b, hb, h3, h4⟩ := two_sound h1 h2
    cases b with
    | true =>
      obtain ⟨v, h5, h6⟩ := ev_sound (h3 rfl) s
      exact .value (c := a.eval x) (by simp [execOp, ho, hb, asBool]) ⟨v, ts, tab, E, h5, s, h6⟩
    | false =>
      obtain ⟨v, h5, h6⟩ := ev_sound (h4 rfl) s
      exact .value (c := a.eval y) (by simp [execOp, ho, hb, asBool]) ⟨v, ts, tab, E, h5, s, h6⟩
  · rename_i op t x y pos ho
    obtain ⟨v1, h1, h2⟩ := ev_sound h s
    obtain ⟨v2, h3, h4⟩ := ev_sound h1 s
    obtain ⟨v, c, g1, g2, g3, g5⟩ := binN_sound h3 s h2 h4
    have g4 := g5 op x y
    exact .value (c := c) (by simp [execOp, ho, g4, g1]) ⟨v, ts, tab, E, g2, s, .imm g3⟩
  · rename_i op t x ho
    obtain ⟨v1, h1, h2⟩ := ev_sound h s
    obtain ⟨v, c, g1, g2, g3⟩ := unW_sound (P := P) (w := w) h1 h2
    exact .value (c := c) (by simp [execOp, ho, g1]) ⟨v, ts, tab, E, g2, s, .imm g3⟩
  · rename_i src dst x ho
    obtain ⟨v1, h1, h2⟩ := ev_sound h s
    obtain ⟨v, tab', E', c, w', g1, g2, g4, g3⟩ := convN_sound h1 s h2
    exact .value (c := c) (by simp [execOp, ho, g1]) ⟨v, ts, tab', E', g2, g4, g3⟩
  · rename_i elem ho
    obtain ⟨i, z, q1, q2, q3⟩ := zer_sound h
    obtain ⟨n, tab', E', c', w', g1, g2, g3, g4⟩ := okSt_var (P := P) (elem := elem) q3 s (.imm (Rep.ofVal _ _ z))
    refine .value (c := .pointer (some c')) (w' := w') ?_ ⟨_, ts, tab', E', g2, g3, g4⟩
    have hz := zeroValue_run q1 q2 w
    simp [execOp, ho, Instr.alloc, hz, g1]
  · rename_i elem x ho
    obtain ⟨v1, h1, h2⟩ := ev_sound h s
    obtain ⟨n, tab', E', c', w', g1, g2, g3, g4⟩ := okSt_var (P := P) (elem := elem) h1 s h2
    refine .value (c := .pointer (some c')) (w' := w') ?_ ⟨_, ts, tab', E', g2, g3, g4⟩
    simp [execOp, ho, Instr.box, g1]
  · rename_i t parts ho
    obtain ⟨vs, h1, h2⟩ := evp_sound h s
    obtain ⟨v, c, g1, g2, g3⟩ := buildW_sound h1 h2
    refine .value (c := c) (w' := w) ?_ ⟨v, ts, tab, E, g2, s, g3⟩
    have e : parts.map (fun x => (x.1, a.eval x.2)) = (parts.toList.map fun (i, x) => (i, a.eval x)).toArray := by apply Array.toList_inj.1; rw [Array.toList_map]
    simp [execOp, ho, e, g1]
  · rename_i t len parts ho
    obtain ⟨vs, h1, h2⟩ := evp_sound h s
    obtain ⟨v, tab', E', c, w', g1, g2, g3, g4⟩ := buildSliceW_sound h1 s hm h2
    refine .value (c := c) (w' := w') ?_ ⟨v, ts, tab', E', g2, g3, g4⟩
    have e : parts.map (fun x => (x.1, a.eval x.2)) = (parts.toList.map fun (i, x) => (i, a.eval x)).toArray := by apply Array.toList_inj.1; rw [Array.toList_map]
    simp [execOp, ho, e, g1]
  · rename_i t p ho
    obtain ⟨v1, h1, h2⟩ := ev_sound h s
    obtain ⟨v, c, g1, g2, g3⟩ := loadW_sound h1 s h2
    exact .value (c := c) (by simp [execOp, ho, g1]) ⟨v, ts, tab, E, g2, s, g3⟩
  · rename_i t p x ho
    obtain ⟨v1, h1, h2⟩ := ev_sound h s
    obtain ⟨v2, h3, h4⟩ := ev_sound h1 s
    obtain ⟨ts', tab', w', E', g1, g2, g3⟩ := storeW_sound h3 s hm h2 h4
    exact .skip (w' := w') (by simp [execOp, ho, g1]) ⟨.unk, ts', tab', E', g2, g3, .imm (.unk _)⟩
  · rename_i x ho
    obtain ⟨v1, h1, h2⟩ := ev_sound h s
    split at h1
    · rename_i i j t
      split at h1
      · rename_i he
        refine .value (c := a.eval x) (w' := w) ?_ ⟨_, ts, tab, E, h1, s, h2⟩
        simp [execOp, ho, h2.prow_inv.2 _ _ _ he]
      · exact h1.elim
    · rename_i sz es j t
      have := h2.rep_inv trivial
      refine .value (c := a.eval x) (w' := w) ?_ ⟨_, ts, tab, E, h1, s, h2⟩
      cases hc : a.eval x with
      | pointer q => cases q with
        | some q => simp [execOp, ho, hc]
        | none => rw [hc] at this; cases this
      | _ => rw [hc] at this; cases this
    · rename_i f fi ca
      refine .value (c := a.eval x) (w' := w) ?_ ⟨_, ts, tab, E, h1, s, h2⟩
      obtain ⟨va, vb, e, _⟩ := h2.fn_inv
      simp [execOp, ho, e]
    · exact h1.elim
  · rename_i f fi ca ho
    obtain ⟨v1, h1, h2⟩ := evs_sound h s
    obtain ⟨v2, h3, h4⟩ := evs_sound h1 s
    obtain ⟨v3, tab', E', h5, p, s', h6⟩ := frzA_sound hm h3 s h2
    refine .value (c := .func f (fi.toList.map a.eval).toArray (ca.toList.map a.eval).toArray) (w' := w) ?_ ⟨_, ts, tab', E', h5, s', .fn f v3 v2 _ _ h6.1 h4.1 h6.2 fun i v c q1 q2 => (h4.2 i v c q1 q2).p p⟩
    have e1 : fi.map a.eval = (fi.toList.map a.eval).toArray := by apply Array.toList_inj.1; rw [Array.toList_map]
    have e2 : ca.map a.eval = (ca.toList.map a.eval).toArray := by apply Array.toList_inj.1; rw [Array.toList_map]
    simp [execOp, ho, Instr.makeFunc, e1, e2]
  · rename_i t l c ho
    obtain ⟨v1, h1, h2⟩ := ev_sound h s
    obtain ⟨v2, h3, h4⟩ := ev_sound h1 s
    obtain ⟨v, tab', E', c', w', g1, g2, g3, g4⟩ := makeSliceW_sound h3 s h2 h4
    exact .value (c := c') (w' := w') (by simp [execOp, ho, g1]) ⟨v, ts, tab', E', g2, g3, g4⟩
  · rename_i t x lo hi mx ho
    obtain ⟨v1, h1, h2⟩ := ev_sound h s
    obtain ⟨lv, h3, h4⟩ := bnd_sound h1 s
    obtain ⟨hv, h5, h6⟩ := bnd_sound h3 s
    split at h5
    · obtain ⟨v, c', g1, g2, g3⟩ := sliceW_sound h5 h2 h4 h6
      exact .value (c := c') (w' := w) (by simp [execOp, ho, g1]) ⟨v, ts, tab, E, g2, s, g3⟩
    · obtain ⟨mv, h7, h8⟩ := bnd_sound h5 s
      obtain ⟨v, c', g1, g2, g3⟩ := slice0_sound h7 h2 h4 h6 h8
      simp only [Option.map_some] at g1
      exact .value (c := c') (w' := w) (by simp [execOp, ho, g1]) ⟨v, ts, tab, E, g2, s, g3⟩
  · rename_i st x f ho
    obtain ⟨v1, h1, h2⟩ := ev_sound h s
    obtain ⟨v, c, g1, g2, g3⟩ := fieldAddrW_sound h1 h2
    exact .value (c := c) (by simp [execOp, ho, g1]) ⟨v, ts, tab, E, g2, s, g3⟩
  · rename_i st x f ho
    obtain ⟨v1, h1, h2⟩ := ev_sound h s
    obtain ⟨v, c, g1, g2, g3⟩ := fieldW_sound h1 h2
    exact .value (c := c) (by simp [execOp, ho, g1]) ⟨v, ts, tab, E, g2, s, g3⟩
  · rename_i t x i ho
    obtain ⟨v1, h1, h2⟩ := ev_sound h s
    obtain ⟨v2, h3, h4⟩ := ev_sound h1 s
    obtain ⟨v, c, g1, g2, g3⟩ := indexAddrW_sound h3 s h2 h4
    exact .value (c := c) (by simp [execOp, ho, g1]) ⟨v, ts, tab, E, g2, s, g3⟩
  · rename_i t x i ho
    obtain ⟨v1, h1, h2⟩ := ev_sound h s
    obtain ⟨v2, h3, h4⟩ := ev_sound h1 s
    obtain ⟨v, c, g1, g2, g3⟩ := indexW_sound h3 h2 h4
    exact .value (c := c) (by simp [execOp, ho, g1]) ⟨v, ts, tab, E, g2, s, g3⟩
  · rename_i x i ho
    obtain ⟨v1, h1, h2⟩ := ev_sound h s
    split at h1
    · rename_i vs
      obtain ⟨cs, e, hl, hc⟩ := h2.tuple_inv
      obtain ⟨h3, h4⟩ := lget_spec h1
      have hi := (List.getElem?_eq_some_iff.1 h4.1).1
      have hi2 : i < cs.length := by omega
      exact .value (c := cs[i]) (w' := w) (by simp [execOp, ho, e, Instr.extract, hi2]) ⟨_, ts, tab, E, h4.2, s, hc i _ _ h4.1 (by simp [hi2])⟩
    · exact h1.elim
  · rename_i c ho
    split at h
    · rename_i b hcal
      obtain ⟨vs, h1, h2⟩ := evs_sound h s
      obtain ⟨v, tab', c', w', E', g1, g2, g3, g4⟩ := builtinW_sound (ty := o.type) (con := c.args.map fun | .const _ => true | _ => false) h1 s h2
      refine .value (c := c') (w' := w') ?_ ⟨v, ts, tab', E', g2, g3, g4⟩
      have e1 : c.args.map a.eval = (c.args.toList.map a.eval).toArray := by apply Array.toList_inj.1; rw [Array.toList_map]
      simp only [Array.toArray_toList] at g1
      simp only [execOp, ho, resolve, hcal, Sem.run_bind, Sem.run_pure, Result.andThen_ok, invoke, e1]
      exact g1
    · rename_i g hcal
      obtain ⟨v1, h1, h2⟩ := ev_sound h s
      obtain ⟨vs, h3, h4⟩ := evs_sound h1 s
      split at h3
      · rename_i f fi ca
        obtain ⟨va, vb, e, l1, l2, c1, c2⟩ := h2.fn_inv
        have hvs := Vs.append (E := E) (Z := zone Γ E) (tab := tab) (w := w) ⟨l1, c1⟩ (Vs.append h4 ⟨l2, c2⟩)
        have hcall := callW_sound hC h3 hm s hvs
        refine .acall ?_ hcall
        have e1 : c.args.map a.eval = (c.args.toList.map a.eval).toArray := by apply Array.toList_inj.1; rw [Array.toList_map]
        simp only [execOp, ho, resolve, hcal, Sem.run_bind, Sem.run_pure, Result.andThen_ok, e, Deferred.ofValue, invoke, e1]
        simp
      · exact h3.elim
    · exact h.elim
  · exact h.elim
end
end Sx

/- Operations that write no memory told of in the table. -/
set_option linter.unusedVariables false
namespace Sx
open Go Go.RowKit
section
variable [Glb] {E E' : Env} {Z Z' : Nat → Prop} {tab tab' : List Ent} {P : Program} {w w' : World} {Γ : Ctx} {ts : List AV} {a : Act} {o : Oper}
theorem Sat.grow (s : Sat Γ E ts tab a w) (h : Below w.heap.size w w') : Pres (fun _ => False) E (zone Γ E) tab w E (zone Γ E) tab w' ∧ Sat Γ E ts tab a w' := by
  have old : ∀ b, b < w.heap.size → w'.heap[b]? = w.heap[b]? := h.block
  have hlt : ∀ {b : Nat} {x}, w.heap[b]? = some x → b < w.heap.size := fun h => (Array.getElem?_eq_some_iff.1 h).1
  exact s.step (X := fun _ => False) (E' := E) (tab' := tab) (fun _ _ => .inl fun _ => id) (Nat.le_refl _) (fun b h hb => ⟨h, old b hb⟩) (fun i _ k sz es' he => ⟨rfl, es', he, rfl⟩)
    (fun i _ k sz es' he ho => ⟨ho, fun cs ty fr h => ⟨cs, ty, (old _ (hlt h)).trans h, rfl⟩⟩) (fun i _ _ sz es' he j sz' es1 hj => ⟨es', es1, he, hj, fun cs ty fr c h1 h2 => ⟨cs, ty, fr, (old _ (hlt h1)).trans h1, h2⟩⟩)
    (fun _ i => .inl ⟨rfl, rfl, fun b x h => ⟨h, old b (s.own b _ h)⟩⟩) (fun b x hb => Nat.lt_of_lt_of_le (s.own b x hb) h.size) h.os h.tape h.output h.size
theorem Sat.tmp (s : Sat Γ E ts tab a w) {d : Nat} {v : AV} {c : Value} (hv : V E (zone Γ E) tab w v c) : Sat Γ E (ts.set d v) tab (a.put (some d) c) w := by
  refine { s with len := by simp [Act.put, s.len], vals := fun i x y h1 h2 => ?_ }
  have h2 : (a.tmps.setIfInBounds d c)[i]? = some y := h2
  rw [Array.getElem?_setIfInBounds] at h2
  rw [List.getElem?_set] at h1
  have := s.len
  by_cases e : d = i
  · subst e
    rw [if_pos rfl] at h1 h2
    split at h1
    · rename_i hd
      rw [if_pos (by omega)] at h2
      cases h1; cases h2; exact hv
    · cases h1
  · rw [if_neg e] at h1 h2
    exact s.vals i x y h1 h2
theorem Sat.same (s : Sat Γ E ts tab a w) {d : Nat} {v : AV} {c : Value} (hc : a.tmps[d]? = some c) (hv : V E (zone Γ E) tab w v c) : Sat Γ E (ts.set d v) tab a w := by
  refine { s with len := by simp [s.len], vals := fun i x y h1 h2 => ?_ }
  rw [List.getElem?_set] at h1
  by_cases e : d = i
  · subst e
    rw [if_pos rfl] at h1
    split at h1
    · rw [hc] at h2; cases h1; cases h2; exact hv
    · cases h1
  · rw [if_neg e] at h1
    exact s.vals i x y h1 h2
theorem putW_sound {v : AV} {c : Value} {dst : Option Tmp} {k : List AV → Prop} (h : putW ts dst v k) (s : Sat Γ E ts tab a w) (hv : V E (zone Γ E) tab w v c) : ∃ ts', k ts' ∧ Sat Γ E ts' tab (a.put dst c) w := by
  unfold putW at h
  split at h
  · obtain ⟨_, h⟩ := lset_spec h
    exact ⟨_, h, s.tmp hv⟩
  · exact ⟨_, h, s⟩
theorem V.nil_inv {c : Value} (h : V E Z tab w (.tuple []) c) : c = .tuple #[] := by
  obtain ⟨vs, rfl, hl, _⟩ := h.tuple_inv
  cases vs with
  | nil => rfl
  | cons => simp at hl
theorem V.undef : V E Z tab w (.tuple []) undef := .imm (.tuple [] [] rfl (fun i c v h => by simp at h))
theorem guardW_sound {ops : Array Oper} {k : Bool → List AV → Prop} (h : guardW ops.toList o.guard ts k) (s : Sat Γ E ts tab a w) : ∃ b ts', k b ts' ∧ Sat Γ E ts' tab a w ∧ Region.wanted o (yielded ops a.tmps) = b := by
  unfold guardW at h
  split at h
  · rename_i hg
    exact ⟨true, ts, h, s, by simp [Region.wanted, hg]⟩
  · rename_i j want hg
    split at h
    · rename_i o' ho
      rw [nth_eq, Array.getElem?_toList] at ho
      split at h
      · rename_i t ht
        obtain ⟨v, h1, h⟩ := lget_spec h
        have hlt : t < a.tmps.size := by rw [s.len]; exact (List.getElem?_eq_some_iff.1 h1).1
        have hv := s.vals t v _ h1 (Array.getElem?_eq_getElem hlt)
        have hy : ∀ b, a.tmps[t] = .bool b → yielded ops a.tmps j = some b := fun b hb => by
          simp [yielded, ho, ht, Array.getElem?_eq_getElem hlt, hb]
        have hw : ∀ b, a.tmps[t] = .bool b → Region.wanted o (yielded ops a.tmps) = (b == want) := fun b hb => by
          simp [Region.wanted, hg, hy b hb]
        split at h
        · have e := hw true hv.tt_inv
          exact ⟨want, ts, h, s, by rw [e]; cases want <;> rfl⟩
        · have e := hw false hv.ff_inv
          exact ⟨!want, ts, h, s, by rw [e]; cases want <;> rfl⟩
        · have e0 := hv.nil_inv
          exact ⟨false, ts, h, s, by simp [Region.wanted, hg, yielded, ho, ht, Array.getElem?_eq_getElem hlt, e0]⟩
        · rename_i p d
          have e0 := hv.prop_inv
          by_cases hp : p
          · rw [decide_eq_true hp] at e0
            obtain ⟨_, h⟩ := lset_spec (h.1 hp)
            exact ⟨want, _, h, s.same (Array.getElem?_eq_getElem hlt) (by rw [e0]; exact .imm .tt), by rw [hw true e0]; cases want <;> rfl⟩
          · rw [decide_eq_false hp] at e0
            obtain ⟨_, h⟩ := lset_spec (h.2 hp)
            exact ⟨!want, _, h, s.same (Array.getElem?_eq_getElem hlt) (by rw [e0]; exact .imm .ff), by rw [hw false e0]; cases want <;> rfl⟩
        · exact h.elim
      · exact h.elim
    · exact h.elim
abbrev Rp (Γ : Ctx) (E : Env) (tab : List Ent) (w : World) (k : AV → Prop) (c : Value) (w' : World) : Prop := ∃ v, k v ∧ Below w.heap.size w w' ∧ V E (zone Γ E) tab w' v c
theorem callP_sound {C : Contracts} (hC : CAll P Γ C) {f : FuncId} {args : List AV} {vs : List Value} {k : AV → Prop}
    (h : callP C f args tab k) (s : Sat Γ E ts tab a w) (hv : Vs E (zone Γ E) tab w args vs) : ACall P f vs w (Rp Γ E tab w k) := by
  obtain ⟨r, muts, al, hc, hk, hal, hk2, hkk⟩ := h
  have hZ1 : ∀ b, zone Γ E b → zC Γ E [] al b := fun b hz => by cases al; exact .inl hz; exact hz
  have hzone : ∀ b, zC Γ E [] al b → (cutE [] E).O b = none → zone ⟨w, (cutE [] E).O, (cutE [] E).L, renT [] tab, zC Γ E [] al⟩ ⟨(cutE [] E).O, (cutE [] E).L⟩ b := fun b h1 h2 => ⟨h2, fun _ => h1⟩
  have hmv : Mv (idx []) E (zone Γ E) tab (cutE [] E) (zone ⟨w, (cutE [] E).O, (cutE [] E).L, renT [] tab, zC Γ E [] al⟩ ⟨(cutE [] E).O, (cutE [] E).L⟩) (renT [] tab) w :=
    cut_mv (fun _ => rfl) fun b hz _ => hzone b (hZ1 b hz) (cutE_none hz.1)
  have hO : ∀ b, (cutE [] E).O b = none := fun b => by
    cases hq : E.O b with
    | none => exact cutE_none hq
    | some x => exact cutE_lost hq rfl
  have hsnap : al = false → Snap [] E (zone Γ E) tab w (zone ⟨w, (cutE [] E).O, (cutE [] E).L, renT [] tab, zC Γ E [] al⟩ ⟨(cutE [] E).O, (cutE [] E).L⟩) := fun e => by
    refine ⟨s.ents, fun b i x h1 h2 => hzone b ?_ (hO b), fun b hz _ => hzone b (hZ1 b hz) (hO b), fun i sz es h1 h2 => ?_⟩
    · subst e; exact .inr ⟨i, x, h1, h2⟩
    · exact snapOk_known hk i sz es (by rw [Nat.zero_add]; exact h1) h2
  have hcall := hC.1 _ _ _ _ _ hc w (cutE [] E).O (cutE [] E).L (zC Γ E [] al) vs ((hC.2.at s).none fun b h => cutE_none h) (fun b p x hb => by rw [hO b] at hb; cases hb) (fun p => by
      rw [ent_out (Nat.zero_le _)]; trivial) (by
      refine ⟨by simpa using hv.1, fun i v c h1 h2 => ?_⟩
      obtain ⟨x, hx, rfl⟩ := map_get h1
      have hxv := hv.2 i x c hx h2
      cases al with
      | true =>
        have hr := hal rfl
        have : hasRef x = false := by
          cases hq : hasRef x with
          | false => rfl
          | true => rw [List.any_eq_true.2 ⟨x, mem_of_get hx, hq⟩] at hr; cases hr
        unfold ren3
        rw [noRef this]
        exact hxv.mv3 hmv fun _ _ c _ _ _ => .imm (.unk c)
      | false => exact hxv.mv3 hmv fun i v c h1 h2 h3 => .imm (snapV_sound (hsnap rfl) h1 h2 h3))
  refine hcall.mono fun v w' hp => ?_
  obtain ⟨r0, m0, E', ⟨e1, e2⟩, hp⟩ := hp
  rw [e1, e2] at hp
  have hframe : ∀ b, b < w.heap.size → E'.O b = none ∧ w'.heap[b]? = w.heap[b]? := fun b hb => hp.frame b hb (hO b)
  have hbel : Below w.heap.size w w' := ⟨hp.os, hp.tape, hp.output, hp.size, fun b hb => (hframe b hb).2⟩
  have fresh : ∀ b, w.heap.size ≤ b → zone Γ E b := fun b hb => ⟨by
    cases hq : E.O b with
    | none => rfl
    | some x => have := s.own b x hq; omega, fun h => by have := s.size; omega⟩
  have hzR : ∀ b, zoneR ⟨w, (cutE [] E).O, (cutE [] E).L, renT [] tab, zC Γ E [] al⟩ al E' b → b < w'.heap.size → zone Γ E b := fun b hz _ => by
    cases al with
    | false => exact hz.elim
    | true =>
      have hz : E'.O b = none ∧ (b < w.heap.size → zone Γ E b) := hz
      by_cases hb : b < w.heap.size
      · exact hz.2 hb
      · exact fresh b (by omega)
  have m2 : Mv (idx []) E' (zoneR ⟨w, (cutE [] E).O, (cutE [] E).L, renT [] tab, zC Γ E [] al⟩ al E') muts E (zone Γ E) tab w' := ⟨hzR, fun i p _ h => by cases h⟩
  have sn : Snap [] E' (zoneR ⟨w, (cutE [] E).O, (cutE [] E).L, renT [] tab, zC Γ E [] al⟩ al E') muts w' (zone Γ E) := by
    refine ⟨hp.ents, fun b i x h1 _ => fresh b ?_, hzR, fun i sz es h1 h2 => snapOk_known hk2 i sz es (by rw [Nat.zero_add]; exact h1) h2⟩
    rcases Nat.lt_or_ge b w.heap.size with hb | hb
    · rw [(hframe b hb).1] at h1; cases h1
    · exact hb
  exact ⟨_, vf3_iff hkk, hbel, hp.val.mv3 m2 fun i v c h1 h2 h3 => .imm (snapV_sound sn h1 h2 h3)⟩
theorem opP_sound {C : Contracts} {k : AV → Prop} (hC : CAll P Γ C)
    (h : opP C P o.op ts tab k) (s : Sat Γ E ts tab a w) : Did P o a w (Rp Γ E tab w k) := by
  have same : Below w.heap.size w w := Below.refl _ _
  unfold opP at h
  split at h
  · rename_i x ho
    obtain ⟨v, h1, h2⟩ := ev_sound h s
    exact .value (c := a.eval x) (by simp [execOp, ho]) ⟨v, h1, same, h2⟩
  · rename_i x ho
    obtain ⟨v, h1, h2⟩ := ev_sound h s
    exact .value (c := a.eval x) (by simp [execOp, ho]) ⟨v, h1, same, h2⟩
  · rename_i op t x y pos ho
    obtain ⟨v1, h1, h2⟩ := ev_sound h s
    obtain ⟨v2, h3, h4⟩ := ev_sound h1 s
    obtain ⟨v, c, g1, g2, g3, g5⟩ := binN_sound h3 s h2 h4
    have g4 := g5 op x y
    exact .value (c := c) (by simp [execOp, ho, g4, g1]) ⟨v, g2, same, .imm g3⟩
  · rename_i op t x ho
    obtain ⟨v1, h1, h2⟩ := ev_sound h s
    obtain ⟨v, c, g1, g2, g3⟩ := unW_sound (P := P) (w := w) h1 h2
    exact .value (c := c) (by simp [execOp, ho, g1]) ⟨v, g2, same, .imm g3⟩
  · rename_i src dst x ho
    obtain ⟨v1, h1, h2⟩ := ev_sound h s
    obtain ⟨v, c, g1, g2, g3⟩ := convW_sound h1 h2
    exact .value (c := c) (by simp [execOp, ho, g1]) ⟨v, g2, same, g3⟩
  · rename_i t p ho
    obtain ⟨v1, h1, h2⟩ := ev_sound h s
    obtain ⟨v, c, g1, g2, g3⟩ := loadW_sound h1 s h2
    exact .value (c := c) (by simp [execOp, ho, g1]) ⟨v, g2, same, g3⟩
  · rename_i t x lo hi ho
    obtain ⟨v1, h1, h2⟩ := ev_sound h s
    obtain ⟨lv, h3, h4⟩ := bnd_sound h1 s
    obtain ⟨hv, h5, h6⟩ := bnd_sound h3 s
    obtain ⟨v, c', g1, g2, g3⟩ := sliceW_sound h5 h2 h4 h6
    exact .value (c := c') (w' := w) (by simp [execOp, ho, g1]) ⟨v, g2, same, g3⟩
  · rename_i st x f ho
    obtain ⟨v1, h1, h2⟩ := ev_sound h s
    obtain ⟨v, c, g1, g2, g3⟩ := fieldAddrW_sound h1 h2
    exact .value (c := c) (by simp [execOp, ho, g1]) ⟨v, g2, same, g3⟩
  · rename_i st x f ho
    obtain ⟨v1, h1, h2⟩ := ev_sound h s
    obtain ⟨v, c, g1, g2, g3⟩ := fieldW_sound h1 h2
    exact .value (c := c) (by simp [execOp, ho, g1]) ⟨v, g2, same, g3⟩
  · rename_i t x i ho
    obtain ⟨v1, h1, h2⟩ := ev_sound h s
    obtain ⟨v2, h3, h4⟩ := ev_sound h1 s
    obtain ⟨v, c, g1, g2, g3⟩ := indexAddrW_sound h3 s h2 h4
    exact .value (c := c) (by simp [execOp, ho, g1]) ⟨v, g2, same, g3⟩
  · rename_i t x i ho
    obtain ⟨v1, h1, h2⟩ := ev_sound h s
    obtain ⟨v2, h3, h4⟩ := ev_sound h1 s
    obtain ⟨v, c, g1, g2, g3⟩ := indexW_sound h3 h2 h4
    exact .value (c := c) (by simp [execOp, ho, g1]) ⟨v, g2, same, g3⟩
  · rename_i x i ho
    obtain ⟨v1, h1, h2⟩ := ev_sound h s
    split at h1
    · rename_i vs
      obtain ⟨cs, e, hl, hc⟩ := h2.tuple_inv
      obtain ⟨h3, h4⟩ := lget_spec h1
      have hi := (List.getElem?_eq_some_iff.1 h4.1).1
      have hi2 : i < cs.length := by omega
      exact .value (c := cs[i]) (w' := w) (by simp [execOp, ho, e, Instr.extract, hi2]) ⟨_, h4.2, same, hc i _ _ h4.1 (by simp [hi2])⟩
    · exact h1.elim
  · rename_i c ho
    split at h
    · rename_i hcal
      obtain ⟨vs, h1, h2⟩ := evs_sound h s
      obtain ⟨v, c', g1, g2, g3⟩ := lenB_sound (ty := o.type) (con := c.args.map fun | .const _ => true | _ => false) h1 s h2
      refine .value (c := c') (w' := w) ?_ ⟨v, g2, same, g3⟩
      have e1 : c.args.map a.eval = (c.args.toList.map a.eval).toArray := by apply Array.toList_inj.1; rw [Array.toList_map]
      simp only [Array.toArray_toList] at g1
      simp only [execOp, ho, resolve, hcal, Sem.run_bind, Sem.run_pure, Result.andThen_ok, invoke, e1]
      exact g1
    · rename_i g hcal
      obtain ⟨v1, h1, h2⟩ := ev_sound h s
      obtain ⟨vs, h3, h4⟩ := evs_sound h1 s
      split at h3
      · rename_i f fi ca
        obtain ⟨va, vb, e, l1, l2, c1, c2⟩ := h2.fn_inv
        have hvs := Vs.append (E := E) (Z := zone Γ E) (tab := tab) (w := w) ⟨l1, c1⟩ (Vs.append h4 ⟨l2, c2⟩)
        have hcall := callP_sound hC h3 s hvs
        refine .acall ?_ hcall
        have e1 : c.args.map a.eval = (c.args.toList.map a.eval).toArray := by apply Array.toList_inj.1; rw [Array.toList_map]
        simp only [execOp, ho, resolve, hcal, Sem.run_bind, Sem.run_pure, Result.andThen_ok, e, Deferred.ofValue, invoke, e1]
        simp
      · exact h3.elim
    · exact h.elim
  · rename_i t parts ho
    obtain ⟨vs, h1, h2⟩ := evp_sound h s
    obtain ⟨v, c, g1, g2, g3⟩ := buildW_sound h1 h2
    have e1 : parts.map (fun (i, x) => (i, a.eval x)) = (parts.toList.map fun (i, x) => (i, a.eval x)).toArray := by apply Array.toList_inj.1; rw [Array.toList_map]
    exact .value (c := c) (w' := w) (by simp [execOp, ho, e1, g1]) ⟨v, g2, same, g3⟩
  · exact h.elim
end
end Sx

/- Regions whose order is drawn: what each operation needs and gives. -/
set_option linter.unusedVariables false
namespace Sx
open Go Go.RowKit
section
variable [Glb] {E E' : Env} {Z Z' : Nat → Prop} {tab tab' : List Ent} {P : Program} {w w' : World} {Γ : Ctx} {ts : List AV} {a : Act} {o : Oper}
theorem lget_eq (l : List AV) (n : Nat) (k : AV → Prop) : lget l n k = (match l[n]? with | some v => k v | none => False) := by
  induction l generalizing n with
  | nil => cases n <;> rfl
  | cons x xs ih => cases n with
    | zero => rfl
    | succ n => simpa [lget] using ih n
/-- What is not looked at is not known. -/
def mask (L : List Nat) : Nat → List AV → List AV
  | _, [] => []
  | i, v :: vs => (match isIn L i with | true => v | false => .unk) :: mask L (i + 1) vs
theorem mask_len (L : List Nat) : ∀ (i : Nat) (ts : List AV), (mask L i ts).length = ts.length
  | _, [] => rfl
  | i, v :: vs => by simp [mask, mask_len]
theorem mask_get (L : List Nat) : ∀ (i : Nat) (ts : List AV) (t : Nat), (mask L i ts)[t]? = (ts[t]?).map fun v => match isIn L (i + t) with | true => v | false => .unk
  | _, [], t => by simp [mask]
  | i, v :: vs, 0 => by simp [mask]
  | i, v :: vs, t + 1 => by
    have := mask_get L (i + 1) vs t
    simp only [mask, List.getElem?_cons_succ]
    rw [this, show i + 1 + t = i + (t + 1) by omega]
theorem mask_at {L : List Nat} {t : Nat} (h : isIn L t = true) : (mask L 0 ts)[t]? = ts[t]? := by
  rw [mask_get, Nat.zero_add, h]; simp
theorem isIn_mem {L : List Nat} {t : Nat} (h : t ∈ L) : isIn L t = true := by
  induction L with
  | nil => cases h
  | cons x xs ih =>
    unfold isIn
    split
    · rfl
    · rename_i hb
      rcases List.mem_cons.1 h with rfl | h
      · rw [Nat.beq_refl] at hb; cases hb
      · exact ih h
theorem mem_isIn {L : List Nat} {t : Nat} (h : isIn L t = true) : t ∈ L := by
  induction L with
  | nil => cases h
  | cons x xs ih =>
    unfold isIn at h
    split at h
    · rename_i hb; rw [Nat.eq_of_beq_eq_true hb]; exact List.mem_cons_self ..
    · exact List.mem_cons_of_mem _ (ih h)
def seen (L : List Nat) (x : Operand) : Prop := ∀ t, x = .tmp t → isIn L t = true
theorem ev_mask {L : List Nat} {x : Operand} (h : seen L x) (k : AV → Prop) : ev (mask L 0 ts) x k = ev ts x k := by
  cases x with
  | tmp t => show lget _ t k = lget _ t k; rw [lget_eq, lget_eq, mask_at (h t rfl)]
  | _ => rfl
theorem evs_mask {L : List Nat} : ∀ {os : List Operand}, (∀ x ∈ os, seen L x) → ∀ (k : List AV → Prop), evs (mask L 0 ts) os k = evs ts os k
  | [], _, k => rfl
  | x :: os, h, k => by
    show ev _ x _ = ev _ x _
    rw [ev_mask (h x (List.mem_cons_self ..))]
    congr 1
    funext v
    exact evs_mask (fun x hx => h x (List.mem_cons_of_mem _ hx)) _
theorem evp_mask {L : List Nat} : ∀ {os : List (Nat × Operand)}, (∀ x ∈ os, seen L x.2) → ∀ (k : List (Nat × AV) → Prop), evp (mask L 0 ts) os k = evp ts os k
  | [], _, k => rfl
  | (i, x) :: os, h, k => by
    show ev _ x _ = ev _ x _
    rw [ev_mask (h (i, x) (List.mem_cons_self ..))]
    congr 1
    funext v
    exact evp_mask (fun y hy => h y (List.mem_cons_of_mem _ hy)) _
theorem bnd_mask {L : List Nat} {x : Option Operand} (h : ∀ y, x = some y → seen L y) (k : Option Int → Prop) : bnd (mask L 0 ts) x k = bnd ts x k := by
  cases x with
  | none => rfl
  | some x => show ev _ x _ = ev _ x _; rw [ev_mask (h x rfl)]
theorem tmpsOf_mem {os : List Operand} {t : Nat} (h : Operand.tmp t ∈ os) : t ∈ tmpsOf os := by
  induction os with
  | nil => cases h
  | cons x xs ih =>
    rcases List.mem_cons.1 h with rfl | h2
    · exact List.mem_cons_self ..
    · cases x <;> first | exact List.mem_cons_of_mem _ (ih h2) | exact ih h2
theorem opP_mask {C : Contracts} {L : List Nat} {op : Op} {k : AV → Prop} (hL : ∀ t ∈ tmpsOf op.operands.toList, isIn L t = true) (h : opP C P op ts tab k) : opP C P op (mask L 0 ts) tab k := by
  have sn : ∀ x, x ∈ op.operands.toList → seen L x := fun x hx t e => by subst e; exact hL t (tmpsOf_mem hx)
  unfold opP at h ⊢
  split at h
  · rename_i x; simp only [ev_mask (sn x (by simp [Op.operands]))]; exact h
  · rename_i x; simp only [ev_mask (sn x (by simp [Op.operands]))]; exact h
  · rename_i op t x y pos; simp only [ev_mask (sn x (by simp [Op.operands])), ev_mask (sn y (by simp [Op.operands]))]; exact h
  · rename_i op t x; simp only [ev_mask (sn x (by simp [Op.operands]))]; exact h
  · rename_i s d x; simp only [ev_mask (sn x (by simp [Op.operands]))]; exact h
  · rename_i t x; simp only [ev_mask (sn x (by simp [Op.operands]))]; exact h
  · rename_i t x lo hi
    simp only [ev_mask (sn x (by simp [Op.operands])), bnd_mask (x := lo) (fun y e => sn y (by subst e; simp [Op.operands])), bnd_mask (x := hi) (fun y e => sn y (by subst e; simp [Op.operands]))]; exact h
  · rename_i t x f; simp only [ev_mask (sn x (by simp [Op.operands]))]; exact h
  · rename_i t x f; simp only [ev_mask (sn x (by simp [Op.operands]))]; exact h
  · rename_i t x i; simp only [ev_mask (sn x (by simp [Op.operands])), ev_mask (sn i (by simp [Op.operands]))]; exact h
  · rename_i t x i; simp only [ev_mask (sn x (by simp [Op.operands])), ev_mask (sn i (by simp [Op.operands]))]; exact h
  · rename_i x i; simp only [ev_mask (sn x (by simp [Op.operands]))]; exact h
  · rename_i c
    split at h
    · rename_i hcal
      rw [evs_mask fun x hx => sn x (by simp [Op.operands, Call.operands]; exact .inr (by simpa using hx))]
      exact h
    · rename_i g hcal
      rw [ev_mask (sn g (by simp [Op.operands, Call.operands, hcal]))]
      have : ∀ k, evs (mask L 0 ts) c.args.toList k = evs ts c.args.toList k := evs_mask fun x hx => sn x (by simp [Op.operands, Call.operands]; exact .inr (by simpa using hx))
      simp only [this]
      exact h
    · exact h.elim
  · rename_i t parts
    rw [evp_mask fun x hx => sn x.2 (by
      simp only [Op.operands]
      exact List.mem_map.2 ⟨x, hx, rfl⟩)]
    exact h
  · exact h.elim
/-- A fact of one temporary. -/
def Fact (Γ : Ctx) (E : Env) (tab : List Ent) (a : Act) (w : World) (t : Nat) (v : AV) : Prop := ∀ c, a.tmps[t]? = some c → V E (zone Γ E) tab w v c
theorem Sat.facts {L : List Nat} {n : Nat} (s : Sat Γ E (List.replicate n .unk) tab a w) (hn : ts.length = n) (h : ∀ t ∈ L, ∀ v, ts[t]? = some v → Fact Γ E tab a w t v) : Sat Γ E (mask L 0 ts) tab a w := by
  refine { s with len := by rw [mask_len, hn]; simpa using s.len, vals := fun i v c h1 h2 => ?_ }
  rw [mask_get, Nat.zero_add] at h1
  obtain ⟨v', h3, h4⟩ := Option.map_eq_some_iff.1 h1
  split at h4
  · rename_i hi; subst h4; exact h i (mem_isIn hi) v' h3 c h2
  · subst h4; exact .imm (.unk _)
/-- From one abstract value to another that says no more, at the same temporary. -/
def Imp (v v' : AV) : Prop := ∀ (E : Env) (Z : Nat → Prop) (tab : List Ent) (w : World) (c : Value), V E Z tab w v c → V E Z tab w v' c
/-- What one operation needs and gives. -/
structure Rec (P : Program) (ops : Array Oper) (o : Oper) (tab : List Ent) (ts ts' : List AV) (v : AV) : Prop where
  len : ts'.length = ts.length
  dst : ∀ d, o.dst = some d → ts'[d]? = some v
  keep : ∀ (t : Nat) (x x' : AV), o.dst ≠ some t → ts[t]? = some x → ts'[t]? = some x' → Imp x x'
  run : ∀ (Γ : Ctx) (E : Env) (a : Act) (w : World), Gw Γ.O0 Γ.w0 → Sat Γ E (List.replicate ts.length .unk) tab a w → (∀ t ∈ looks ops.toList o, ∀ x, ts[t]? = some x → Fact Γ E tab a w t x) →
    (Region.wanted o (yielded ops a.tmps) = true → Did P o a w fun c w' => Below w.heap.size w w' ∧ V E (zone Γ E) tab w' v c) ∧ (Region.wanted o (yielded ops a.tmps) = false → v = .tuple [])
  bin : isBin o = true → (∀ (E : Env) (Z : Nat → Prop) (tab : List Ent) (w : World) (c : Value), V E Z tab w v c → c = .tuple #[]) → ∀ (Γ : Ctx) (E : Env) (a : Act) (w : World), Gw Γ.O0 Γ.w0 → Sat Γ E (List.replicate ts.length .unk) tab a w → (∀ t ∈ looks ops.toList o, ∀ x, ts[t]? = some x → Fact Γ E tab a w t x) → Region.wanted o (yielded ops a.tmps) = false
theorem putW_get {dst : Option Tmp} {v : AV} {k : List AV → Prop} (h : putW ts dst v k) : ∃ ts', k ts' ∧ ts'.length = ts.length ∧ (∀ d, dst = some d → ts'[d]? = some v) ∧ ∀ t, dst ≠ some t → ts'[t]? = ts[t]? := by
  unfold putW at h
  split at h
  · rename_i d
    obtain ⟨hd, h⟩ := lset_spec h
    refine ⟨_, h, by simp, fun d' e => by cases e; simp [hd], fun t ht => ?_⟩
    rw [List.getElem?_set_ne (fun e => ht (by rw [e]))]
  · exact ⟨ts, h, rfl, nofun, fun _ _ => rfl⟩
theorem Did.mono {R R' : Value → World → Prop} (h : Did P o a w R) (hr : ∀ c w', R c w' → R' c w') : Did P o a w R' := fun next Q hn => h next Q fun c w' hc => hn c w' (hr c w' hc)
/-- The guard, told apart. -/
theorem guardW_rec {ops : Array Oper} {k : Bool → List AV → Prop} (h : guardW ops.toList o.guard ts k) : ∃ yes ts1, k yes ts1 ∧ ts1.length = ts.length ∧ (∀ (t : Nat) (x x' : AV), ts[t]? = some x → ts1[t]? = some x' → Imp x x') ∧
    ∀ (Γ : Ctx) (E : Env) (tab : List Ent) (a : Act) (w : World), a.tmps.size = ts.length → (∀ t ∈ looks ops.toList o, ∀ x, ts[t]? = some x → Fact Γ E tab a w t x) → Region.wanted o (yielded ops a.tmps) = yes := by
  have idI : ∀ (t : Nat) (x x' : AV), ts[t]? = some x → ts[t]? = some x' → Imp x x' := fun t x x' h1 h2 => by rw [h1] at h2; cases h2; exact fun _ _ _ _ _ h => h
  unfold guardW at h
  split at h
  · rename_i hg
    exact ⟨true, ts, h, rfl, idI, fun _ _ _ _ _ _ _ => by simp [Region.wanted, hg]⟩
  · rename_i j want hg
    split at h
    · rename_i o' ho
      have ho' := ho
      rw [nth_eq, Array.getElem?_toList] at ho
      split at h
      · rename_i t ht
        obtain ⟨v, h1, h⟩ := lget_spec h
        have hlook : t ∈ looks ops.toList o := by simp [looks, hg, ho', ht]
        have hlt : t < ts.length := (List.getElem?_eq_some_iff.1 h1).1
        have hw : ∀ (a : Act), a.tmps.size = ts.length → ∀ b, a.tmps[t]? = some (.bool b) → Region.wanted o (yielded ops a.tmps) = (b == want) := fun a _ b hb => by
          simp [Region.wanted, hg, yielded, ho, ht, hb]
        have get : ∀ (a : Act), a.tmps.size = ts.length → ∃ c, a.tmps[t]? = some c := fun a ha => ⟨_, Array.getElem?_eq_getElem (by rw [ha]; exact hlt)⟩
        have setI : ∀ (u : AV), Imp v u → ∀ (t' : Nat) (x x' : AV), ts[t']? = some x → (ts.set t u)[t']? = some x' → Imp x x' := fun u hu t' x x' h2 h3 => by
          rw [List.getElem?_set] at h3
          split at h3
          · rename_i e; subst e
            rw [h1] at h2; cases h2
            cases h3; exact hu
          · exact idI t' x x' h2 h3
        split at h
        · refine ⟨want, ts, h, rfl, idI, fun Γ E tab a w ha hf => ?_⟩
          obtain ⟨c, hc⟩ := get a ha
          have := (hf t hlook _ h1 c hc).tt_inv
          rw [hw a ha true (by rw [hc, this])]; cases want <;> rfl
        · refine ⟨!want, ts, h, rfl, idI, fun Γ E tab a w ha hf => ?_⟩
          obtain ⟨c, hc⟩ := get a ha
          have := (hf t hlook _ h1 c hc).ff_inv
          rw [hw a ha false (by rw [hc, this])]; cases want <;> rfl
        · refine ⟨false, ts, h, rfl, idI, fun Γ E tab a w ha hf => ?_⟩
          obtain ⟨c, hc⟩ := get a ha
          have := (hf t hlook _ h1 c hc).nil_inv
          simp [Region.wanted, hg, yielded, ho, ht, hc, this]
        · rename_i p d
          by_cases hp : p
          · obtain ⟨_, h⟩ := lset_spec (h.1 hp)
            refine ⟨want, _, h, by simp, setI _ fun E Z tab w c hv => ?_, fun Γ E tab a w ha hf => ?_⟩
            · rw [hv.prop_inv, decide_eq_true hp]; exact .imm .tt
            · obtain ⟨c, hc⟩ := get a ha
              have := (hf t hlook _ h1 c hc).prop_inv
              rw [hw a ha true (by rw [hc, this, decide_eq_true hp])]; cases want <;> rfl
          · obtain ⟨_, h⟩ := lset_spec (h.2 hp)
            refine ⟨!want, _, h, by simp, setI _ fun E Z tab w c hv => ?_, fun Γ E tab a w ha hf => ?_⟩
            · rw [hv.prop_inv, decide_eq_false hp]; exact .imm .ff
            · obtain ⟨c, hc⟩ := get a ha
              have := (hf t hlook _ h1 c hc).prop_inv
              rw [hw a ha false (by rw [hc, this, decide_eq_false hp])]; cases want <;> rfl
        · exact h.elim
      · exact h.elim
    · exact h.elim
end
end Sx

/- Regions whose order is drawn: the records of a run. -/
set_option linter.unusedVariables false
namespace Sx
open Go Go.RowKit
section
variable [Glb] {E E' : Env} {Z Z' : Nat → Prop} {tab tab' : List Ent} {P : Program} {w w' : World} {Γ : Ctx} {ts : List AV} {a : Act} {o : Oper}
theorem ev_val {x : Operand} {k : AV → Prop} (h : ev ts x k) : ∃ v, k v ∧ ev ts x (fun u => u = v) := by
  cases x with
  | tmp t => obtain ⟨v, h1, h2⟩ := lget_spec h; exact ⟨v, h2, by show lget ts t _; rw [lget_eq, h1]⟩
  | const v => exact ⟨_, h, rfl⟩
  | global g => exact h.elim
  | func f => exact ⟨_, h, rfl⟩
theorem looks_ops {ops : List Oper} {t : Nat} (h : t ∈ tmpsOf o.op.operands.toList) : t ∈ looks ops o := by
  unfold looks
  repeat' split
  all_goals first | exact h | exact List.mem_cons_of_mem _ h
theorem put_rec {ops : Array Oper} {ts1 : List AV} {v : AV} {k : List AV → Prop} (hl : ts1.length = ts.length) (himp : ∀ (t : Nat) (x x' : AV), ts[t]? = some x → ts1[t]? = some x' → Imp x x') (h : putW ts1 o.dst v k)
    (hrun : ∀ (Γ : Ctx) (E : Env) (a : Act) (w : World), Gw Γ.O0 Γ.w0 → Sat Γ E (List.replicate ts.length .unk) tab a w → (∀ t ∈ looks ops.toList o, ∀ x, ts[t]? = some x → Fact Γ E tab a w t x) →
      (Region.wanted o (yielded ops a.tmps) = true → Did P o a w fun c w' => Below w.heap.size w w' ∧ V E (zone Γ E) tab w' v c) ∧ (Region.wanted o (yielded ops a.tmps) = false → v = .tuple [])) :
    (isBin o = true → (∀ (E : Env) (Z : Nat → Prop) (tab : List Ent) (w : World) (c : Value), V E Z tab w v c → c = .tuple #[]) → ∀ (Γ : Ctx) (E : Env) (a : Act) (w : World), Gw Γ.O0 Γ.w0 → Sat Γ E (List.replicate ts.length .unk) tab a w → (∀ t ∈ looks ops.toList o, ∀ x, ts[t]? = some x → Fact Γ E tab a w t x) → Region.wanted o (yielded ops a.tmps) = false) →
    ∃ ts', k ts' ∧ Rec P ops o tab ts ts' v := by
  intro hbin
  obtain ⟨ts', h1, h2, h3, h4⟩ := putW_get h
  exact ⟨ts', h1, h2.trans hl, h3, fun t x x' hd e1 e2 => himp t x x' e1 (by rw [← h4 t hd]; exact e2), hrun, hbin⟩
def NotTup (v : AV) : Prop := ∃ c, c ≠ .tuple #[] ∧ ∀ (E : Env) (Z : Nat → Prop) (tab : List Ent) (w : World), V E Z tab w v c
theorem NotTup.p {p : Prop} {d : Decidable p} : NotTup (.prop p d) := ⟨.bool (@decide p d), nofun, fun _ _ _ _ => .imm (.prop p d)⟩
theorem NotTup.i {k : IntKind} {n : Int} : NotTup (.int k n) := ⟨.int k n, nofun, fun _ _ _ _ => .imm (.int k n)⟩
theorem NotTup.s {s : List UInt8} : NotTup (.str s) := ⟨.string ⟨s.toArray⟩, nofun, fun _ _ _ _ => .imm (.str s _ (by simp))⟩
theorem num_nt {kd : IntKind} {n : Int} {k : AV → Prop} (h : num kd n k) : ∃ v, k v ∧ NotTup v := by
  obtain ⟨m, _, hk⟩ := h
  exact ⟨_, hk, by first | exact NotTup.p | exact NotTup.i | exact NotTup.s⟩
theorem partW_ex {t : TypeId} {e : AV} {t0 : Nat} {k : AV → Prop} (h : partW P t e t0 k) : ∃ v, k v := by
  unfold partW at h
  split at h
  · exact h.elim
  · split at h
    · split at h
      · exact ⟨_, h⟩
      · exact ⟨_, h.2⟩
    · exact ⟨_, h.2⟩
  · obtain ⟨v, _, h⟩ := lget_spec h
    exact ⟨v, h⟩
theorem asP_ex {v : AV} {k : (p : Prop) → Decidable p → Prop} (h : asP v k) : ∃ p d, k p d := by
  unfold asP at h
  split at h
  all_goals first | exact ⟨_, _, h⟩ | exact h.elim
theorem cellEq_ex {t : TypeId} {x y : AV} {k : (p : Prop) → Decidable p → Prop} (h : cellEq P t x y k) : ∃ p d, k p d := by
  unfold cellEq at h
  split at h
  · split at h
    · split at h
      · split at h
        · exact ⟨_, _, h⟩
        · exact h.elim
      · exact h.elim
    · exact h.elim
  · split at h
    · split at h
      · exact ⟨_, _, h⟩
      · exact h.elim
    · exact h.elim
  · obtain ⟨_, _, h⟩ := asP_ex h
    obtain ⟨_, _, h⟩ := asP_ex h
    exact ⟨_, _, h⟩
  · exact h.elim
theorem fieldsEq_ex {fs : List Field} {xs ys : List AV} {k : (p : Prop) → Decidable p → Prop} (h : fieldsEq P fs xs ys k) : ∃ p d, k p d := by
  induction fs generalizing k with
  | nil => exact ⟨_, _, h⟩
  | cons f fs ih =>
    unfold fieldsEq at h
    obtain ⟨_, h⟩ := partW_ex h
    obtain ⟨_, h⟩ := partW_ex h
    obtain ⟨_, _, h⟩ := cellEq_ex h
    split at h
    · exact ⟨_, _, h⟩
    · obtain ⟨_, _, h⟩ := ih h
      exact ⟨_, _, h⟩
theorem binN_nt {t : TypeId} {op : BinOp} {x y : AV} {k : AV → Prop} (h : binN P t op x y tab k) : ∃ v, k v ∧ NotTup v := by
  have hbool : ∀ {x y : AV}, boolW P t op x y k → ∃ v, k v ∧ NotTup v := fun {x y} h => by
    unfold boolW at h
    split at h
    · split at h
      · unfold asP at h
        repeat' split at h
        all_goals first | exact ⟨_, h, by first | exact NotTup.p | exact NotTup.i | exact NotTup.s⟩ | exact h.elim
      · unfold asP at h
        repeat' split at h
        all_goals first | exact ⟨_, h, by first | exact NotTup.p | exact NotTup.i | exact NotTup.s⟩ | exact h.elim
      · exact h.elim
    · exact h.elim
  have hstr : ∀ {s u : List UInt8}, strW op s u k → ∃ v, k v ∧ NotTup v := fun {s u} h => by
    unfold strW at h
    split at h
    · exact ⟨_, h.2.o, by first | exact NotTup.p | exact NotTup.i | exact NotTup.s⟩
    all_goals first | exact ⟨_, h, by first | exact NotTup.p | exact NotTup.i | exact NotTup.s⟩ | exact h.elim
  have hint : ∀ {kd : IntKind} {a b : Int}, intW op kd a b k → ∃ v, k v ∧ NotTup v := fun {kd a b} h => by
    unfold intW at h
    split at h
    all_goals first | exact num_nt h | exact num_nt h.2 | exact ⟨_, h, by first | exact NotTup.p | exact NotTup.i | exact NotTup.s⟩ | exact h.elim
  have hbin : ∀ {x y : AV}, binW P t op x y k → ∃ v, k v ∧ NotTup v := fun {x y} h => by
    unfold binW at h
    split at h
    · split at h
      · split at h
        · exact num_nt h.2
        · exact num_nt h.2
        · split at h
          · exact hint h
          · exact h.elim
      · exact h.elim
    · split at h
      · exact hstr h
      · exact h.elim
    · exact hbool h
  unfold binN at h
  split at h
  · split at h
    · unfold nilW at h
      split at h
      · unfold isNil at h
        split at h
        · exact ⟨_, h, by first | exact NotTup.p | exact NotTup.i | exact NotTup.s⟩
        · obtain ⟨h⟩ := h
          exact ⟨_, h False (.isFalse id) trivial, by first | exact NotTup.p | exact NotTup.i | exact NotTup.s⟩
        · unfold elems at h
          repeat' split at h
          all_goals first
            | (obtain ⟨h⟩ := h; exact ⟨_, h False (.isFalse id) (fun e => e.elim), by first | exact NotTup.p | exact NotTup.i | exact NotTup.s⟩)
            | exact h.elim
            | (have h := h.o; split at h <;> first | (obtain ⟨h⟩ := h; exact ⟨_, h False (.isFalse id) (fun e => e.elim), by first | exact NotTup.p | exact NotTup.i | exact NotTup.s⟩) | exact h.elim)
      · unfold isNil at h
        split at h
        · exact ⟨_, h, by first | exact NotTup.p | exact NotTup.i | exact NotTup.s⟩
        · obtain ⟨h⟩ := h
          exact ⟨_, h False (.isFalse id) trivial, by first | exact NotTup.p | exact NotTup.i | exact NotTup.s⟩
        · unfold elems at h
          repeat' split at h
          all_goals first
            | (obtain ⟨h⟩ := h; exact ⟨_, h False (.isFalse id) (fun e => e.elim), by first | exact NotTup.p | exact NotTup.i | exact NotTup.s⟩)
            | exact h.elim
            | (have h := h.o; split at h <;> first | (obtain ⟨h⟩ := h; exact ⟨_, h False (.isFalse id) (fun e => e.elim), by first | exact NotTup.p | exact NotTup.i | exact NotTup.s⟩) | exact h.elim)
      · exact h.elim
    · exact h.elim
  · split at h
    · unfold structW at h
      split at h
      · obtain ⟨p, d, h⟩ := fieldsEq_ex h.hk
        split at h
        · exact ⟨_, h, NotTup.p⟩
        · exact ⟨_, h, NotTup.p⟩
        · exact h.elim
      · exact h.elim
    · exact h.elim
  · exact hbin h
theorem operP_rec {C : Contracts} {ops : Array Oper} {k : List AV → Prop} (hC : ∀ f args muts Q al, C f args muts Q al → AFn P f args muts Q al) (h : operP C P ops.toList o ts tab k) :
    ∃ ts' v, k ts' ∧ Rec P ops o tab ts ts' v := by
  unfold operP at h
  obtain ⟨yes, ts1, h, hl, himp, hwant⟩ := guardW_rec h
  have hsat : ∀ (Γ : Ctx) (E : Env) (a : Act) (w : World), Sat Γ E (List.replicate ts.length .unk) tab a w → (∀ t ∈ looks ops.toList o, ∀ x, ts[t]? = some x → Fact Γ E tab a w t x) → Sat Γ E (mask (looks ops.toList o) 0 ts1) tab a w := fun Γ E a w s hf =>
    s.facts hl fun t ht x1 h1 => by
      have hlt : t < ts.length := by rw [← hl]; exact (List.getElem?_eq_some_iff.1 h1).1
      exact fun c hc => himp t ts[t] x1 (by simp [hlt]) h1 _ _ _ _ _ (hf t ht _ (by simp [hlt]) c hc)
  have hsz : ∀ (Γ : Ctx) (E : Env) (a : Act) (w : World), Sat Γ E (List.replicate ts.length .unk) tab a w → a.tmps.size = ts.length := fun Γ E a w s => by simpa using s.len
  have hin : ∀ t ∈ tmpsOf o.op.operands.toList, isIn (looks ops.toList o) t = true := fun t ht => isIn_mem (looks_ops ht)
  cases yes with
  | false =>
    obtain ⟨ts', h1, h2⟩ := put_rec (P := P) (tab := tab) (ops := ops) hl himp h (fun Γ E a w _ s hf => ⟨fun hw => (by rw [hwant Γ E tab a w (hsz Γ E a w s) hf] at hw; cases hw), fun _ => rfl⟩) (fun _ _ Γ E a w _ s hf => hwant Γ E tab a w (hsz Γ E a w s) hf)
    exact ⟨ts', .tuple [], h1, h2⟩
  | true =>
    have nofalse : ∀ (Γ : Ctx) (E : Env) (a : Act) (w : World) (v : AV), Sat Γ E (List.replicate ts.length .unk) tab a w → (∀ t ∈ looks ops.toList o, ∀ x, ts[t]? = some x → Fact Γ E tab a w t x) → Region.wanted o (yielded ops a.tmps) = false → v = .tuple [] := fun Γ E a w v s hf hw => by
      rw [hwant Γ E tab a w (hsz Γ E a w s) hf] at hw; cases hw
    dsimp only at h
    split at h
    · rename_i c x y ho
      have hin' : ∀ z ∈ [c, x, y], seen (looks ops.toList o) z := fun z hz t e => by subst e; exact hin t (tmpsOf_mem (by rw [ho]; simpa [Op.operands] using hz))
      obtain ⟨cv, h1, h2⟩ := ev_val h
      have sel : ∃ (b : Bool) (v : AV), (∀ (E : Env) (Z : Nat → Prop) (tab : List Ent) (w : World) (c : Value), V E Z tab w cv c → c = .bool b) ∧ ev ts1 (if b then x else y) (fun u => u = v) ∧ putW ts1 o.dst v k := by
        unfold two at h1
        split at h1
        · obtain ⟨v, g1, g2⟩ := ev_val h1
          exact ⟨true, v, fun _ _ _ _ _ hv => hv.tt_inv, g2, g1⟩
        · obtain ⟨v, g1, g2⟩ := ev_val h1
          exact ⟨false, v, fun _ _ _ _ _ hv => hv.ff_inv, g2, g1⟩
        · rename_i p d
          by_cases hp : p
          · obtain ⟨v, g1, g2⟩ := ev_val (h1.1 hp)
            exact ⟨true, v, fun _ _ _ _ _ hv => by rw [hv.prop_inv, decide_eq_true hp], g2, g1⟩
          · obtain ⟨v, g1, g2⟩ := ev_val (h1.2 hp)
            exact ⟨false, v, fun _ _ _ _ _ hv => by rw [hv.prop_inv, decide_eq_false hp], g2, g1⟩
        · exact h1.elim
      obtain ⟨b, v, g1, g2, g3⟩ := sel
      obtain ⟨ts', q1, q2⟩ := put_rec (P := P) (tab := tab) (ops := ops) hl himp g3 (fun Γ E a w _ s hf => ⟨fun _ => by
        have s1 := hsat Γ E a w s hf
        obtain ⟨cv', e1, e2⟩ := ev_sound (k := fun u => u = cv) (by rw [ev_mask (hin' c (by simp))]; exact h2) s1
        subst e1
        have hb := g1 _ _ _ _ _ e2
        obtain ⟨v', e3, e4⟩ := ev_sound (k := fun u => u = v) (o := if b then x else y) (by rw [ev_mask (by cases b <;> exact hin' _ (by simp))]; exact g2) s1
        subst e3
        refine .value (c := a.eval (if b then x else y)) (w' := w) ?_ ⟨Below.refl _ _, e4⟩
        cases b <;> simp [execOp, ho, hb, asBool], nofalse Γ E a w v s hf⟩) (fun hb => by unfold isBin at hb; rw [ho] at hb; cases hb)
      exact ⟨ts', v, q1, q2⟩
    · rename_i op hnp
      obtain ⟨v, h1, h2⟩ := h
      obtain ⟨ts', q1, q2⟩ := put_rec (P := P) (tab := tab) (ops := ops) hl himp h2 (fun Γ E a w hg s hf => ⟨fun _ =>
        (opP_sound ⟨hC, hg⟩ (opP_mask hin h1) (hsat Γ E a w s hf)).mono fun c w' ⟨v', e1, e2, e3⟩ => by subst e1; exact ⟨e2, e3⟩, nofalse Γ E a w v s hf⟩) (fun hb hv Γ0 E0 a0 w0 _ _ _ => by
        exfalso
        have h1' : opP C P o.op ts1 tab (fun u => u = v) := h1
        unfold isBin at hb
        split at hb
        · rename_i op' t' x' y' pos' hop
          rw [hop] at h1'
          obtain ⟨_, h3, _⟩ := ev_val h1'
          obtain ⟨_, h4, _⟩ := ev_val h3
          obtain ⟨_, h5, c, h6, h7⟩ := binN_nt h4
          exact h6 (hv ⟨fun _ => none, fun _ => 0⟩ (fun _ => False) [] w0 c (by rw [← h5]; exact h7 _ _ _ _))
        · cases hb)
      exact ⟨ts', v, q1, q2⟩
theorem regP_rec {C : Contracts} {ops : Array Oper} (hC : ∀ f args muts Q al, C f args muts Q al → AFn P f args muts Q al) : ∀ {n : Nat} {l : List Oper} {ts : List AV} {k : List AV → List Oper → Prop}, n ≤ l.length → regP C P ops.toList n l ts tab k →
    ∃ (T : Nat → List AV) (vv : Nat → AV), T 0 = ts ∧ k (T n) (l.drop n) ∧ ∀ i o, i < n → l[i]? = some o → Rec P ops o tab (T i) (T (i + 1)) (vv i)
  | 0, l, ts, k, _, h => ⟨fun _ => ts, fun _ => .unk, rfl, h, fun i o hi => by omega⟩
  | n + 1, [], ts, k, hn, h => by simp at hn
  | n + 1, o :: l, ts, k, hn, h => by
    obtain ⟨ts', v, h1, h2⟩ := operP_rec (ops := ops) hC h
    obtain ⟨T, vv, h3, h4, h5⟩ := regP_rec hC (by simpa using hn) h1
    refine ⟨fun i => match i with | 0 => ts | i + 1 => T i, fun i => match i with | 0 => v | i + 1 => vv i, rfl, h4, fun i o' hi ho => ?_⟩
    cases i with
    | zero => simp at ho; subst ho; show Rec P ops o tab ts (T 0) v; rw [h3]; exact h2
    | succ i => exact h5 i o' (by omega) (by simpa using ho)
end
end Sx

/- Regions whose order is drawn: every order. -/
set_option linter.unusedVariables false
namespace Sx
open Go Go.RowKit
section
variable [Glb] {P : Program}
theorem zip_mem {α : Type} {l : List α} {x : α} {i : Nat} (h : l[i]? = some x) : (x, i) ∈ l.zipIdx := List.mem_zipIdx_iff_getElem?.2 h
theorem take_get {α : Type} {l : List α} {n i : Nat} {x : α} (hi : i < n) (h : l[i]? = some x) : (l.take n)[i]? = some x := by rw [List.getElem?_take, if_pos hi]; exact h
theorem dstIs_iff {o : Oper} {t : Nat} : dstIs o t = true ↔ o.dst = some t := by
  unfold dstIs
  split
  · rename_i d hd
    rw [hd]
    exact ⟨fun h => (by rw [Nat.eq_of_beq_eq_true h]), fun h => (by cases h; exact Nat.beq_refl _)⟩
  · rename_i hd; rw [hd]; exact ⟨nofun, nofun⟩
/-- What the Bool says of the first operations. -/
structure HeadOK (ops : List Oper) (n : Nat) : Prop where
  before : ∀ (i : Nat) o, i < n → ops[i]? = some o → ∀ j ∈ befores o, j < i
  look : ∀ (i j : Nat) o p t, i < n → j < n → ops[i]? = some o → ops[j]? = some p → p.dst = some t → t ∈ looks ops o → j < i ∧ j ∈ befores o
  once : ∀ (i j : Nat) o p t, i < n → j < n → ops[i]? = some o → ops[j]? = some p → p.dst = some t → o.dst = some t → i = j
theorem headOk_spec {ops : List Oper} {n : Nat} (h : headOk ops n = true) : HeadOK ops n := by
  have key : ∀ (i : Nat) o, i < n → ops[i]? = some o → okAt ops n i o = true := fun i o hi ho => List.all_eq_true.1 h (o, i) (zip_mem (take_get hi ho))
  have look : ∀ (i j : Nat) o p t, i < n → j < n → ops[i]? = some o → ops[j]? = some p → p.dst = some t → (t ∈ looks ops o → j < i ∧ j ∈ befores o) ∧ (j < i → o.dst ≠ some t) := by
    intro i j o p t hi hj ho hp hd
    have := key i o hi ho
    unfold okAt at this
    rw [Bool.and_eq_true] at this
    have := List.all_eq_true.1 this.2 (p, j) (zip_mem (take_get hj hp))
    simp only at this
    split at this
    · rename_i hb
      have hlt : j < i := by simpa using hb
      rw [Bool.and_eq_true] at this
      refine ⟨fun ht => ⟨hlt, ?_⟩, fun _ e => ?_⟩
      · have := List.all_eq_true.1 this.1 t ht
        rw [Bool.or_eq_true] at this
        rcases this with h1 | h1
        · rw [dstIs_iff.2 hd] at h1; cases h1
        · exact mem_isIn h1
      · have := this.2
        rw [e] at this
        simp only [dstIs_iff.2 hd] at this
        cases this
    · rename_i hb
      have hge : ¬ j < i := fun h => by rw [show Nat.blt j i = true by simpa using h] at hb; cases hb
      refine ⟨fun ht => ?_, fun h => (hge h).elim⟩
      have := List.all_eq_true.1 this t ht
      rw [dstIs_iff.2 hd] at this; cases this
  refine ⟨fun i o hi ho j hj => ?_, fun i j o p t hi hj ho hp hd ht => (look i j o p t hi hj ho hp hd).1 ht, fun i j o p t hi hj ho hp hd he => ?_⟩
  · have := key i o hi ho
    unfold okAt at this
    rw [Bool.and_eq_true] at this
    have := List.all_eq_true.1 this.1 j hj
    simpa using this
  · rcases Nat.lt_trichotomy i j with h1 | h1 | h1
    · exact ((look j i p o t hj hi hp ho he).2 h1 hd).elim
    · exact h1
    · exact ((look i j o p t hi hj ho hp hd).2 h1 he).elim
structure LateOK (ops : List Oper) (n i : Nat) (o : Oper) : Prop where
  lt : i < n
  op : ops[i]? = some o
  move : ∃ x, o.op = .move x
  guard : o.guard = none
  before : befores o = []
  apart : ∀ (j : Nat) p, ops[j]? = some p → j ≠ i → i ∉ befores p → apartB ops o p = true
  sel : ∀ (j : Nat) p, ops[j]? = some p → isSel p = false
theorem lateOk_spec {ops : List Oper} {n i : Nat} (h : lateOk ops n i = true) : ∃ o, LateOK ops n i o := by
  unfold lateOk at h
  rw [Bool.and_eq_true] at h
  obtain ⟨h1, h⟩ := h
  split at h
  · rename_i o ho
    rw [Bool.and_eq_true] at h
    obtain ⟨hm, h2⟩ := h
    have key := fun (j : Nat) (p : Oper) (hp : ops[j]? = some p) => List.all_eq_true.1 h2 (p, j) (zip_mem hp)
    rw [nth_eq] at ho
    unfold isMove at hm
    split at hm
    · rename_i hop
      split at hm
      · rename_i hg
        split at hm
        · rename_i hb
          refine ⟨o, by simpa using h1, ho, ⟨_, hop⟩, hg, hb, fun j p hp hj hn => ?_, fun j p hp => ?_⟩
          · have := key j p hp
            simp only [Bool.and_eq_true, Bool.or_eq_true] at this
            rcases this.2 with (h3 | h3) | h3
            · exact (hj (Nat.eq_of_beq_eq_true h3)).elim
            · exact (hn (mem_isIn h3)).elim
            · exact h3
          · have := key j p hp
            simp only [Bool.and_eq_true] at this
            simpa using this.1
        · cases hm
      · cases hm
    · cases hm
  · cases h
structure TailOK (late : List Nat) (ops : List Oper) (n : Nat) : Prop where
  reach : n < ops.length → ∀ i, i < n → i ∉ late → ∃ (j : Nat) (p : Oper), i < j ∧ j ≤ n ∧ ops[j]? = some p ∧ i ∈ befores p
  chain : ∀ (j : Nat) p, n < j → ops[j]? = some p → (j - 1) ∈ befores p
  before : ∀ (j : Nat) p, ops[j]? = some p → ∀ i ∈ befores p, i < j
  late : ∀ i ∈ late, ∃ o, LateOK ops n i o
theorem tailOk_spec {late : List Nat} {ops : List Oper} {n : Nat} (h : tailOk late ops n = true) : TailOK late ops n := by
  unfold tailOk at h
  rw [Bool.and_eq_true, Bool.and_eq_true] at h
  obtain ⟨⟨h0, h1⟩, h2⟩ := h
  have key := fun (j : Nat) (p : Oper) (hp : ops[j]? = some p) => List.all_eq_true.1 h2 (p, j) (zip_mem hp)
  refine ⟨fun hlt i hi hno => ?_, fun j p hj hp => ?_, fun j p hp i hi => ?_, fun i hi => lateOk_spec (List.all_eq_true.1 h0 i hi)⟩
  · have hil : i < ops.length := by omega
    split at h1
    · rename_i e; omega
    · have := List.all_eq_true.1 h1 (ops[i], i) (zip_mem (take_get hi (by simp [hil])))
      simp only [Bool.or_eq_true] at this
      rcases this with this | this
      · exact (hno (mem_isIn this)).elim
      obtain ⟨⟨p, j⟩, hm, h3⟩ := List.any_eq_true.1 this
      have hm := List.mem_zipIdx_iff_getElem?.1 hm
      rw [List.getElem?_take] at hm
      split at hm
      · rename_i hj
        simp only [Bool.and_eq_true] at h3
        exact ⟨j, p, by simpa using h3.1, by omega, hm, mem_isIn h3.2⟩
      · cases hm
  · have := key j p hp
    simp only [show Nat.blt n j = true by simpa using hj, Bool.and_eq_true] at this
    exact mem_isIn this.1
  · have := key j p hp
    simp only at this
    split at this
    · rw [Bool.and_eq_true] at this
      have := List.all_eq_true.1 this.2 i hi
      simpa using this
    · have := List.all_eq_true.1 this i hi
      simpa using this
theorem looksAt_looks {ops : Array Oper} {o : Oper} {t : Nat} (h : t ∈ o.looksAt ops) : t ∈ looks ops.toList o := by
  unfold Oper.looksAt at h
  rcases List.mem_append.1 h with h | h
  · obtain ⟨x, hx, he⟩ := List.mem_filterMap.1 h
    split at he
    · cases he; exact looks_ops (tmpsOf_mem hx)
    · cases he
  · split at h
    · rename_i g b hg
      have h := Option.mem_toList.1 h
      have h : (ops[g]?).bind (·.dst) = some t := h
      obtain ⟨p, hp, hd⟩ := Option.bind_eq_some_iff.1 h
      unfold looks
      rw [hg]
      simp only
      rw [show nth ops.toList g = some p by rw [nth_eq]; simpa using hp]
      simp only
      rw [show p.dst = some t from hd]
      exact .head _
    · cases h
theorem apartB_apart {ops : Array Oper} {x y : Oper} (h : apartB ops.toList x y = true) : x.apart ops y = true := by
  unfold apartB at h
  rw [Bool.and_eq_true] at h
  obtain ⟨h1, h2⟩ := h
  have g1 : (match x.dst with | some d => !(y.looksAt ops).contains d && y.dst != some d | none => true) = true := by
    cases hd : x.dst with
    | none => rfl
    | some d =>
      rw [hd] at h1
      simp only [Bool.and_eq_true, Bool.not_eq_true'] at h1 ⊢
      constructor
      · cases hc : (y.looksAt ops).contains d with
        | false => rfl
        | true =>
          have := isIn_mem (looksAt_looks (by simpa using hc))
          rw [this] at h1; cases h1.1
      · cases he : (y.dst != some d) with
        | true => rfl
        | false =>
          have : y.dst = some d := by simpa using he
          rw [dstIs_iff.2 this] at h1; cases h1.2
  have g2 : (match y.dst with | some d => !(x.looksAt ops).contains d | none => true) = true := by
    cases hd : y.dst with
    | none => rfl
    | some d =>
      rw [hd] at h2
      simp only [Bool.not_eq_true'] at h2 ⊢
      cases hc : (x.looksAt ops).contains d with
      | false => rfl
      | true =>
        have := isIn_mem (looksAt_looks (by simpa using hc))
        rw [this] at h2; cases h2
  unfold Oper.apart
  rw [Bool.and_eq_true]
  exact ⟨g1, g2⟩
theorem ready_iff {ops : Array Oper} {listed : Array Bool} (hs : listed.size = ops.size) {i : Nat} : i ∈ Region.ready .any ops listed ↔ ∃ o, ops[i]? = some o ∧ listed.getD i true = false ∧ ∀ j ∈ befores o, listed.getD j false = true := by
  unfold Region.ready
  rw [List.mem_filter, List.mem_range, Bool.and_eq_true]
  constructor
  · rintro ⟨hi, h1, h2⟩
    refine ⟨ops[i], by simp [hi], by simpa using h1, fun j hj => ?_⟩
    simp only [Array.getElem?_eq_getElem hi, Option.map_some, Option.getD_some] at h2
    unfold befores at hj
    obtain ⟨e, he, rfl⟩ := List.mem_map.1 hj
    rw [List.mem_filter] at he
    have := Array.all_eq_true'.1 h2 e (by simpa using he.1)
    simpa [he.2] using this
  · rintro ⟨o, ho, h1, h2⟩
    have hi : i < ops.size := (Array.getElem?_eq_some_iff.1 ho).1
    refine ⟨hi, by simp [h1], ?_⟩
    rw [ho]
    simp only [Option.map_some, Option.getD_some]
    refine Array.all_eq_true'.2 fun e he => ?_
    cases hb : Region.binds .any e with
    | false => simp
    | true => simpa using h2 e.on (List.mem_map.2 ⟨e, List.mem_filter.2 ⟨by simpa using he, hb⟩, rfl⟩)
end
end Sx
