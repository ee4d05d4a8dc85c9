/-
  The reference of layer 8: Sum. Conditions: the list lies in blocks of its own; texts not too long.
-/
import Derived.Test.YtjbmdeppoobccaaRef08
import Derived.Test.YtjbmdeppoobccaaHashSum
import Derived.Test.YtjbmdeppoobccaaRefSumS
namespace Go.Proofs.Ytjbmdeppoobccaa
open Go.RowKit Go.Maps

/-- The list's row behind one text more. -/
theorem RowT.snoc {wa w8 : World} {G G' : Nat → Prop} {v v8 : Value} {vs : List Value} {T : List (List Nat)} {u : Value} {t : List Nat} (hvs : Own wa 0 22 v vs) (hl : vs.length = T.length)
    (hve : ∀ (i : Nat) (x : Value) (s : List Nat), vs[i]? = some x → T[i]? = some s → OwnT wa G x s) (hu : OwnT wa G' u t) (hG : ∀ k, G k → G' k)
    (O8 : Own w8 0 22 v8 (vs ++ [u])) (G8 : wa.grownBy w8 v.ownBlock) (F8 : ∀ k, v8.ownBlock = some k → G' k) : RowT w8 G' v8 (T ++ [t]) := by
  have keep : ∀ {H : Nat → Prop} {x : Value} {s : List Nat}, OwnT wa H x s → OwnT w8 H x s := fun {H x s} hx => by
    refine ⟨hx.own.other fun k hk => G8.block k (hx.own.lt k hk).2 (hx.ne_row hvs k hk), hx.small, hx.inF⟩
  refine ⟨⟨_, O8, by simp [hl], fun i x s hx hs => ?_⟩, F8⟩
  by_cases hi : i < T.length
  · rw [List.getElem?_append_left (by omega)] at hx hs
    exact keep ((hve i x s hx hs).mono hG)
  · have hi2 : i = T.length := by
      have := (List.getElem?_eq_some_iff.1 hs).1
      simp at this; omega
    subst hi2
    rw [← hl, List.getElem?_append_right (Nat.le_refl _), Nat.sub_self] at hx
    rw [List.getElem?_append_right (Nat.le_refl _), Nat.sub_self] at hs
    obtain rfl : u = x := by simpa using hx
    obtain rfl : t = s := by simpa using hs
    exact keep hu

theorem OwnT.aside {w w' : World} {F : Nat → Prop} {v : Value} {t : List Nat} {r : Nat} {c : Array Value} {fr : Nat × Nat} (h : OwnT w F v t) (hr : w.heap[r]? = some (.cells c 64 fr)) (hs : ∀ k, k ≠ r → w'.heap[k]? = w.heap[k]?) : OwnT w' F v t :=
  ⟨h.own.other fun k hk => hs k fun e => by
    obtain ⟨cc, hc⟩ := h.own.typed hk
    rw [e, hr] at hc
    simp at hc, h.small, h.inF⟩
theorem RowT.aside {w w' : World} {F : Nat → Prop} {v : Value} {ts : List (List Nat)} {r : Nat} {c : Array Value} {fr : Nat × Nat} (h : RowT w F v ts) (hr : w.heap[r]? = some (.cells c 64 fr)) (hs : ∀ k, k ≠ r → w'.heap[k]? = w.heap[k]?) : RowT w' F v ts := by
  obtain ⟨vs, h1, h2, h3⟩ := h.ex
  refine ⟨⟨vs, h1.other fun k hk => hs k fun e => ?_, h2, fun i u t a b => (h3 i u t a b).aside hr hs⟩, h.inF⟩
  obtain ⟨cc, hc⟩ := h1.typed hk
  rw [e, hr] at hc
  simp at hc
theorem RefLog.tight {w : World} {G : Nat → Prop} {r : Nat} {v : Value} {T : List (List Nat)} (h : RefLog w G r v T) : RefLog w (fun k => G k ∧ k < w.heap.size) r v T := ⟨h.row, h.list.tight, h.inG, lt_of_block h.row⟩

set_option maxHeartbeats 4000000 in
set_option maxRecDepth 100000 in
theorem r8sum_any {w0 w : World} {G : Nat → Prop} {r : Nat} {v : Value} {T : List (List Nat)} (h : RefLog w G r v T) (h0 : Below w0.heap.size w0 w) (hG : ∀ k, G k → w0.heap.size ≤ k ∧ k < w.heap.size) (vt : Value) (t : List Nat) (ht : TextAt w0 vt t) (hl : t.length ≤ 1000000) (hT : T.length < 1000000000) :
    Calls Try.prog 37 #[.pointer (some ⟨r, 0, none⟩), vt] w fun e w' => ∃ v' G' v2, e = .returned v' ∧ Own w' w0.heap.size 5 v' (u8l (sumOf t)) ∧ RefLog w' G' r v2 (addT T t) ∧ (∀ k, G' k → (G k ∨ w.heap.size ≤ k) ∧ k < w'.heap.size) ∧ Upd G w w' := by
  have hz := h0.size
  have lg : t.length ≤ 1000000000 := by omega
  have hcx := r8has_any h vt t (ht.below h0) hT
  by_cases hin : t ∈ T
  · have eT := addT_in hin
    rw [decide_eq_true hin] at hcx
    replace h := Lib.hid h
    replace h0 := Lib.hid h0
    replace hG := Lib.hid hG
    replace ht := Lib.hid ht
    replace eT := Lib.hid eT
    replace hz := Lib.hid hz
    replace lg := Lib.hid lg
    replace hin := Lib.hid hin
    replace hcx := Lib.hid hcx
    go_enter Try.func37, Try.ntmps37
    go_wp2_with fail
    refine hcx.out.mono ?_
    rintro e w2 ⟨rfl, B2⟩
    have low2 := h0.out.trans (B2.mono hz.out)
    have h2 := h.out.below B2
    replace B2 := Lib.hid B2
    replace low2 := Lib.hid low2
    replace h2 := Lib.hid h2
    go_wp2_with fail
    refine (ref_sum w2 vt t (ht.out.below low2.out) hl).mono ?_
    rintro e w3 ⟨v3, rfl, o3, B3⟩
    have h3 := h2.out.below B3
    have B23 := B2.out.trans (B3.mono B2.out.size)
    replace o3 := Lib.hid o3
    replace B3 := Lib.hid B3
    replace h3 := Lib.hid h3
    replace B23 := Lib.hid B23
    go_wp2_with fail
    go_ret
    exact ⟨_, _, _, rfl, o3.out.weaken (Nat.le_trans hz.out B2.out.size), by rw [eT.out]; exact h3.out, fun k hk => ⟨Or.inl hk, Nat.lt_of_lt_of_le (hG.out k hk).2 B23.out.size⟩, Upd.of_below B23.out⟩
  · have eT := addT_out hin
    rw [decide_eq_false hin] at hcx
    replace h := Lib.hid h
    replace h0 := Lib.hid h0
    replace hG := Lib.hid hG
    replace ht := Lib.hid ht
    replace eT := Lib.hid eT
    replace hz := Lib.hid hz
    replace lg := Lib.hid lg
    replace hin := Lib.hid hin
    replace hcx := Lib.hid hcx
    go_enter Try.func37, Try.ntmps37
    go_wp2_with fail
    refine hcx.out.mono ?_
    rintro e w2 ⟨rfl, B2⟩
    have low2 := h0.out.trans (B2.mono hz.out)
    have h2 := h.out.below B2
    have c2 : w2.drew.cell? ⟨r, 0, none⟩ = some v := (cell_of_row _ _ 0 _ _ _ h2.row).trans rfl
    have t2 := (ht.out.below low2).drew
    have cp := Lib.hid (ref_copy w2.drew vt t t2 lg.out)
    replace B2 := Lib.hid B2
    replace low2 := Lib.hid low2
    replace h2 := Lib.hid h2
    replace t2 := Lib.hid t2
    go_wp2_with fail
    refine wp_region_held_drew (S := (fun _ => True)) (by kernel_rfl) (trivial) (fun hHeld => ?_)
    refine held_take (i := 0) (v := ?_) rfl (by kernel_rfl) (by kernel_rfl) (by kernel_rfl) (fun _ _ _ h => h) (Or.inl ⟨by rfl, ?_⟩) (by assumption) ?_
    rotate_left
    · intro w hSw; (try dsimp only at hSw); go_simp; try with_reducible rfl
    try simp only [Act.put, List.setIfInBounds_toArray, List.set_cons_zero, List.set_cons_succ]
    refine held_take (i := 1) (v := ?_) rfl (by kernel_rfl) (by kernel_rfl) (by kernel_rfl) (fun _ _ _ h => h) (Or.inl ⟨by rfl, ?_⟩) (by assumption) ?_
    rotate_left
    · intro w hSw; (try dsimp only at hSw); go_simp; try with_reducible rfl
    try simp only [Act.put, List.setIfInBounds_toArray, List.set_cons_zero, List.set_cons_succ]
    refine held_take (i := 2) (v := ?_) rfl (by kernel_rfl) (by kernel_rfl) (by kernel_rfl) (fun _ _ _ h => h) (Or.inl ⟨by rfl, ?_⟩) (by assumption) ?_
    rotate_left
    · intro w hSw; (try dsimp only at hSw); go_simp; try with_reducible rfl
    try simp only [Act.put, List.setIfInBounds_toArray, List.set_cons_zero, List.set_cons_succ]
    refine held_take (i := 3) (v := ?_) rfl (by kernel_rfl) (by kernel_rfl) (by kernel_rfl) (fun _ _ _ h => h) (Or.inl ⟨by rfl, ?_⟩) (by assumption) ?_
    rotate_left
    · intro w hSw; (try dsimp only at hSw); go_simp; try with_reducible rfl
    try simp only [Act.put, List.setIfInBounds_toArray, List.set_cons_zero, List.set_cons_succ]
    refine held_take (i := 5) (v := ?_) rfl (by kernel_rfl) (by kernel_rfl) (by kernel_rfl) (fun _ _ _ h => h) (Or.inl ⟨by rfl, ?_⟩) (by assumption) ?_
    rotate_left
    · intro w hSw; (try dsimp only at hSw); go_simp; try with_reducible rfl
    try simp only [Act.put, List.setIfInBounds_toArray, List.set_cons_zero, List.set_cons_succ]
    refine held_ready2 (i := 4) (j := 6) rfl rfl (by kernel_rfl) (fun K hK => ?_) (fun K hK => ?_)
    · go_simp
      refine hK.out _ _ (trivial) (fun hHeldN => ?_)
      clear hHeld hK K
      have hHeld := hHeldN
      clear hHeldN
      try simp only [Act.put, List.setIfInBounds_toArray, List.set_cons_zero, List.set_cons_succ]
      refine held_ready (i := 6) rfl (by kernel_rfl) (fun K hK => ?_)
      go_simp
      refine cp.out.mono ?_
      rintro e w3 ⟨v3, rfl, o3, B3⟩
      have h3 := Lib.hid (h2.out.stay (w' := w3) (fun k _ hk => B3.block k hk))
      have B23 : Below w.heap.size w w3 := B2.out.trans (((Below.refl w2.heap.size w2).drew.trans B3).mono B2.out.size)
      have c3 := (B3.cell (block_lt_of_cell c2)).trans c2
      replace o3 := Lib.hid o3
      replace B3 := Lib.hid B3
      replace B23 := Lib.hid B23
      refine hK.out _ _ (trivial) (fun hHeldN => ?_)
      clear hHeld hK K
      have hHeld := hHeldN
      clear hHeldN
      try simp only [Act.put, List.setIfInBounds_toArray, List.set_cons_zero, List.set_cons_succ]
      obtain ⟨a3, cap3, e3, _⟩ := (o3.out.text ht.out.small).ex
      obtain ⟨m, em⟩ : ∃ m, m = t.length := ⟨_, rfl⟩
      rw [← em] at e3
      subst e3
      replace em := Lib.hid em
      refine held_ready (i := 7) rfl (by kernel_rfl) (fun K hK => ?_)
      go_simp
      obtain ⟨vs, hvs, hvl, hve⟩ := h3.out.list.ex
      have Ba : Below w3.heap.size w3 (w3.alloc (.cells #[.slice a3 m cap3] 22)) := (Below.refl _ _).alloc (Nat.le_refl _) _
      have news : ∀ (j : Nat) (u : Value), [Value.slice a3 m cap3][j]? = some u → (w3.alloc (.cells #[.slice a3 m cap3] 22)).cell? (Addr.add ⟨w3.heap.size, 0, none⟩ j) = some u := fun j u hj => cell_one_new w3 (.slice a3 m cap3) 22 j u hj
      have hvsA := hvs.below Ba
      have hveA := fun i x s a b => (hve i x s a b).stay (fun k _ hk => Ba.block k hk)
      have B2a := B23.out.trans (Ba.mono B23.out.size)
      have owA : OwnT (w3.alloc (.cells #[.slice a3 m cap3] 22)) (fun k => G k ∨ w.heap.size ≤ k) (.slice a3 m cap3) t := ⟨(o3.out.weaken (Nat.zero_le _)).below Ba, ht.out.small, fun k hk => Or.inr (by have q : w2.heap.size ≤ k := (o3.out.lt k hk).1; have := B2.out.size; omega)⟩
      have hr := (Ba.block r (lt_of_block h3.out.row)).trans h3.out.row
      have cA : (w3.alloc (.cells #[.slice a3 m cap3] 22)).cell? ⟨r, 0, none⟩ = some v := (cell_of_row _ _ 0 _ _ _ hr).trans rfl
      have sizA : vs.length + 1 ≤ 1000000000 := by omega
      have inG3 := h3.out.list.inF
      replace hvs := Lib.hid hvs
      replace hve := Lib.hid hve
      replace hveA := Lib.hid hveA
      replace Ba := Lib.hid Ba
      replace B2a := Lib.hid B2a
      replace owA := Lib.hid owA
      replace inG3 := Lib.hid inG3
      refine hK.out _ _ (trivial) (fun hHeldN => ?_)
      clear hHeld hK K
      have hHeld := hHeldN
      clear hHeldN
      try simp only [Act.put, List.setIfInBounds_toArray, List.set_cons_zero, List.set_cons_succ]
      generalize w3.alloc (.cells #[.slice a3 m cap3] 22) = wa at *
      refine held_ready (i := 8) rfl (by kernel_rfl) (fun K hK => ?_)
      refine step_append_y rfl (.tmp 13) (.tmp 16) 23 rfl 22 Try.underlying23 (.slice none 0 0) 24 infoRow rfl (by decide) 0 v vs rfl hvsA (Nat.zero_le _) ⟨w3.heap.size, 0, none⟩ 1 1 [.slice a3 m cap3] rfl rfl news (by intro u hu; simp at hu; subst hu; rfl) sizA ?_
      intro v8 w8 O8 G8 A8 R8
      have tyr : some r ≠ v.ownBlock := fun e => by
        obtain ⟨cc, hc⟩ := hvsA.typed e.symm
        rw [hr] at hc
        simp at hc
      have row8 := (G8.out.block r (lt_of_block hr) tyr).trans hr
      have F8 : ∀ k, v8.ownBlock = some k → G k ∨ w.heap.size ≤ k := fun k hk => by
        rcases A8.out with e | ⟨g8, e, hge⟩
        · rw [e] at hk
          exact Or.inl (inG3.out k hk)
        · rw [e] at hk
          injection hk with hk
          right; have := B2a.out.size; omega
      have U8 : Upd G w w8 := (Upd.of_below B2a.out).grown G8.out (fun k hk hkw => inG3.out k hk)
      have l8 := RowT.snoc hvsA hvl hveA.out owA.out (fun k hk => Or.inl hk) O8.out G8.out F8
      have hf : w8.frozen? ⟨r, 0, none⟩ = false := frozen_of_row _ _ _ _ _ row8
      have hcr : w8.cell? ⟨r, 0, none⟩ = some v := (cell_of_row _ _ 0 _ _ _ row8).trans rfl
      have hnr : G r := h.out.inG
      have rS : (w8.setCell ⟨r, 0, none⟩ v8).heap[r]? = some (.cells #[v8] 64 (0, 0)) := by rw [heap_setCell_same _ _ _ _ _ _ row8]; rfl
      have lS : RowT (w8.setCell ⟨r, 0, none⟩ v8) (fun k => G k ∨ w.heap.size ≤ k) v8 (T ++ [t]) := l8.aside row8 (fun k hk => heap_setCell_other _ _ _ _ hk)
      have uS : Upd G w (w8.setCell ⟨r, 0, none⟩ v8) := U8.setCell ⟨r, 0, none⟩ _ (fun _ => hnr)
      have refS : RefLog (w8.setCell ⟨r, 0, none⟩ v8) (fun k => G k ∨ w.heap.size ≤ k) r v8 (T ++ [t]) := ⟨rS, lS, Or.inl hnr⟩
      have lowS : Below w0.heap.size w0 (w8.setCell ⟨r, 0, none⟩ v8) := h0.out.trans (uS.below (fun k hk hF => by have := (hG.out k hF).1; omega) hz.out)
      clear l8 lS U8 rS
      obtain ⟨a8, c8, e8, _⟩ := O8.out.form
      obtain ⟨m8, em8⟩ : ∃ m8, m8 = (vs ++ [Value.slice a3 m cap3]).length := ⟨_, rfl⟩
      rw [← em8] at e8
      subst e8
      clear em8
      replace row8 := Lib.hid row8
      replace F8 := Lib.hid F8
      replace uS := Lib.hid uS
      replace refS := Lib.hid refS
      replace lowS := Lib.hid lowS
      refine hK.out _ _ (trivial) (fun hHeldN => ?_)
      clear hHeld hK K
      have hHeld := hHeldN
      clear hHeldN
      try simp only [Act.put, List.setIfInBounds_toArray, List.set_cons_zero, List.set_cons_succ]
      refine held_take (i := 9) (v := ?_) rfl (by kernel_rfl) (by kernel_rfl) (by kernel_rfl) (fun _ _ _ h => h) (Or.inl ⟨by rfl, ?_⟩) (by assumption) ?_
      rotate_left
      · intro w hSw; (try dsimp only at hSw); go_simp; try with_reducible rfl
      try simp only [Act.put, List.setIfInBounds_toArray, List.set_cons_zero, List.set_cons_succ]
      refine held_take (i := 10) (v := ?_) rfl (by kernel_rfl) (by kernel_rfl) (by kernel_rfl) (fun _ _ _ h => h) (Or.inl ⟨by rfl, ?_⟩) (by assumption) ?_
      rotate_left
      · intro w hSw; (try dsimp only at hSw); go_simp; try with_reducible rfl
      try simp only [Act.put, List.setIfInBounds_toArray, List.set_cons_zero, List.set_cons_succ]
      refine held_ready (i := 11) rfl (by kernel_rfl) (fun K hK => ?_)
      go_simp
      refine hK.out _ _ (trivial) (fun hHeldN => ?_)
      clear hHeld hK K
      have hHeld := hHeldN
      clear hHeldN
      try simp only [Act.put, List.setIfInBounds_toArray, List.set_cons_zero, List.set_cons_succ]
      refine wpAnyH_done (by kernel_rfl) ?_ _
      clear hHeld
      generalize w8.setCell ⟨r, 0, none⟩ (.slice a8 m8 c8) = wS at *
      go_wp2_with fail
      refine (ref_sum wS vt t (ht.out.below lowS.out) hl).mono ?_
      rintro e wT ⟨vT, rfl, oT, BT⟩
      have rT := refS.out.below BT
      have uT := uS.out.trans (Upd.of_below BT) (fun k _ h => h)
      replace oT := Lib.hid oT
      replace BT := Lib.hid BT
      replace rT := Lib.hid rT
      replace uT := Lib.hid uT
      go_wp2_with fail
      go_ret
      exact ⟨_, _, _, rfl, oT.out.weaken lowS.out.size, by rw [eT.out]; exact rT.out.tight, fun k (hk : _ ∧ _) => ⟨hk.1, hk.2⟩, uT.out⟩
    · go_simp
      refine cp.out.mono ?_
      rintro e w3 ⟨v3, rfl, o3, B3⟩
      have h3 := Lib.hid (h2.out.stay (w' := w3) (fun k _ hk => B3.block k hk))
      have B23 : Below w.heap.size w w3 := B2.out.trans (((Below.refl w2.heap.size w2).drew.trans B3).mono B2.out.size)
      have c3 := (B3.cell (block_lt_of_cell c2)).trans c2
      replace o3 := Lib.hid o3
      replace B3 := Lib.hid B3
      replace B23 := Lib.hid B23
      refine hK.out _ _ (trivial) (fun hHeldN => ?_)
      clear hHeld hK K
      have hHeld := hHeldN
      clear hHeldN
      try simp only [Act.put, List.setIfInBounds_toArray, List.set_cons_zero, List.set_cons_succ]
      obtain ⟨a3, cap3, e3, _⟩ := (o3.out.text ht.out.small).ex
      obtain ⟨m, em⟩ : ∃ m, m = t.length := ⟨_, rfl⟩
      rw [← em] at e3
      subst e3
      replace em := Lib.hid em
      refine held_ready2 (i := 4) (j := 7) rfl rfl (by kernel_rfl) (fun K hK => ?_) (fun K hK => ?_)
      · go_simp
        refine hK.out _ _ (trivial) (fun hHeldN => ?_)
        clear hHeld hK K
        have hHeld := hHeldN
        clear hHeldN
        try simp only [Act.put, List.setIfInBounds_toArray, List.set_cons_zero, List.set_cons_succ]
        refine held_ready (i := 7) rfl (by kernel_rfl) (fun K hK => ?_)
        go_simp
        obtain ⟨vs, hvs, hvl, hve⟩ := h3.out.list.ex
        have Ba : Below w3.heap.size w3 (w3.alloc (.cells #[.slice a3 m cap3] 22)) := (Below.refl _ _).alloc (Nat.le_refl _) _
        have news : ∀ (j : Nat) (u : Value), [Value.slice a3 m cap3][j]? = some u → (w3.alloc (.cells #[.slice a3 m cap3] 22)).cell? (Addr.add ⟨w3.heap.size, 0, none⟩ j) = some u := fun j u hj => cell_one_new w3 (.slice a3 m cap3) 22 j u hj
        have hvsA := hvs.below Ba
        have hveA := fun i x s a b => (hve i x s a b).stay (fun k _ hk => Ba.block k hk)
        have B2a := B23.out.trans (Ba.mono B23.out.size)
        have owA : OwnT (w3.alloc (.cells #[.slice a3 m cap3] 22)) (fun k => G k ∨ w.heap.size ≤ k) (.slice a3 m cap3) t := ⟨(o3.out.weaken (Nat.zero_le _)).below Ba, ht.out.small, fun k hk => Or.inr (by have q : w2.heap.size ≤ k := (o3.out.lt k hk).1; have := B2.out.size; omega)⟩
        have hr := (Ba.block r (lt_of_block h3.out.row)).trans h3.out.row
        have cA : (w3.alloc (.cells #[.slice a3 m cap3] 22)).cell? ⟨r, 0, none⟩ = some v := (cell_of_row _ _ 0 _ _ _ hr).trans rfl
        have sizA : vs.length + 1 ≤ 1000000000 := by omega
        have inG3 := h3.out.list.inF
        replace hvs := Lib.hid hvs
        replace hve := Lib.hid hve
        replace hveA := Lib.hid hveA
        replace Ba := Lib.hid Ba
        replace B2a := Lib.hid B2a
        replace owA := Lib.hid owA
        replace inG3 := Lib.hid inG3
        refine hK.out _ _ (trivial) (fun hHeldN => ?_)
        clear hHeld hK K
        have hHeld := hHeldN
        clear hHeldN
        try simp only [Act.put, List.setIfInBounds_toArray, List.set_cons_zero, List.set_cons_succ]
        generalize w3.alloc (.cells #[.slice a3 m cap3] 22) = wa at *
        refine held_ready (i := 8) rfl (by kernel_rfl) (fun K hK => ?_)
        refine step_append_y rfl (.tmp 13) (.tmp 16) 23 rfl 22 Try.underlying23 (.slice none 0 0) 24 infoRow rfl (by decide) 0 v vs rfl hvsA (Nat.zero_le _) ⟨w3.heap.size, 0, none⟩ 1 1 [.slice a3 m cap3] rfl rfl news (by intro u hu; simp at hu; subst hu; rfl) sizA ?_
        intro v8 w8 O8 G8 A8 R8
        have tyr : some r ≠ v.ownBlock := fun e => by
          obtain ⟨cc, hc⟩ := hvsA.typed e.symm
          rw [hr] at hc
          simp at hc
        have row8 := (G8.out.block r (lt_of_block hr) tyr).trans hr
        have F8 : ∀ k, v8.ownBlock = some k → G k ∨ w.heap.size ≤ k := fun k hk => by
          rcases A8.out with e | ⟨g8, e, hge⟩
          · rw [e] at hk
            exact Or.inl (inG3.out k hk)
          · rw [e] at hk
            injection hk with hk
            right; have := B2a.out.size; omega
        have U8 : Upd G w w8 := (Upd.of_below B2a.out).grown G8.out (fun k hk hkw => inG3.out k hk)
        have l8 := RowT.snoc hvsA hvl hveA.out owA.out (fun k hk => Or.inl hk) O8.out G8.out F8
        have hf : w8.frozen? ⟨r, 0, none⟩ = false := frozen_of_row _ _ _ _ _ row8
        have hcr : w8.cell? ⟨r, 0, none⟩ = some v := (cell_of_row _ _ 0 _ _ _ row8).trans rfl
        have hnr : G r := h.out.inG
        have rS : (w8.setCell ⟨r, 0, none⟩ v8).heap[r]? = some (.cells #[v8] 64 (0, 0)) := by rw [heap_setCell_same _ _ _ _ _ _ row8]; rfl
        have lS : RowT (w8.setCell ⟨r, 0, none⟩ v8) (fun k => G k ∨ w.heap.size ≤ k) v8 (T ++ [t]) := l8.aside row8 (fun k hk => heap_setCell_other _ _ _ _ hk)
        have uS : Upd G w (w8.setCell ⟨r, 0, none⟩ v8) := U8.setCell ⟨r, 0, none⟩ _ (fun _ => hnr)
        have refS : RefLog (w8.setCell ⟨r, 0, none⟩ v8) (fun k => G k ∨ w.heap.size ≤ k) r v8 (T ++ [t]) := ⟨rS, lS, Or.inl hnr⟩
        have lowS : Below w0.heap.size w0 (w8.setCell ⟨r, 0, none⟩ v8) := h0.out.trans (uS.below (fun k hk hF => by have := (hG.out k hF).1; omega) hz.out)
        clear l8 lS U8 rS
        obtain ⟨a8, c8, e8, _⟩ := O8.out.form
        obtain ⟨m8, em8⟩ : ∃ m8, m8 = (vs ++ [Value.slice a3 m cap3]).length := ⟨_, rfl⟩
        rw [← em8] at e8
        subst e8
        clear em8
        replace row8 := Lib.hid row8
        replace F8 := Lib.hid F8
        replace uS := Lib.hid uS
        replace refS := Lib.hid refS
        replace lowS := Lib.hid lowS
        refine hK.out _ _ (trivial) (fun hHeldN => ?_)
        clear hHeld hK K
        have hHeld := hHeldN
        clear hHeldN
        try simp only [Act.put, List.setIfInBounds_toArray, List.set_cons_zero, List.set_cons_succ]
        refine held_take (i := 9) (v := ?_) rfl (by kernel_rfl) (by kernel_rfl) (by kernel_rfl) (fun _ _ _ h => h) (Or.inl ⟨by rfl, ?_⟩) (by assumption) ?_
        rotate_left
        · intro w hSw; (try dsimp only at hSw); go_simp; try with_reducible rfl
        try simp only [Act.put, List.setIfInBounds_toArray, List.set_cons_zero, List.set_cons_succ]
        refine held_take (i := 10) (v := ?_) rfl (by kernel_rfl) (by kernel_rfl) (by kernel_rfl) (fun _ _ _ h => h) (Or.inl ⟨by rfl, ?_⟩) (by assumption) ?_
        rotate_left
        · intro w hSw; (try dsimp only at hSw); go_simp; try with_reducible rfl
        try simp only [Act.put, List.setIfInBounds_toArray, List.set_cons_zero, List.set_cons_succ]
        refine held_ready (i := 11) rfl (by kernel_rfl) (fun K hK => ?_)
        go_simp
        refine hK.out _ _ (trivial) (fun hHeldN => ?_)
        clear hHeld hK K
        have hHeld := hHeldN
        clear hHeldN
        try simp only [Act.put, List.setIfInBounds_toArray, List.set_cons_zero, List.set_cons_succ]
        refine wpAnyH_done (by kernel_rfl) ?_ _
        clear hHeld
        generalize w8.setCell ⟨r, 0, none⟩ (.slice a8 m8 c8) = wS at *
        go_wp2_with fail
        refine (ref_sum wS vt t (ht.out.below lowS.out) hl).mono ?_
        rintro e wT ⟨vT, rfl, oT, BT⟩
        have rT := refS.out.below BT
        have uT := uS.out.trans (Upd.of_below BT) (fun k _ h => h)
        replace oT := Lib.hid oT
        replace BT := Lib.hid BT
        replace rT := Lib.hid rT
        replace uT := Lib.hid uT
        go_wp2_with fail
        go_ret
        exact ⟨_, _, _, rfl, oT.out.weaken lowS.out.size, by rw [eT.out]; exact rT.out.tight, fun k (hk : _ ∧ _) => ⟨hk.1, hk.2⟩, uT.out⟩
      · go_simp
        obtain ⟨vs, hvs, hvl, hve⟩ := h3.out.list.ex
        have Ba : Below w3.heap.size w3 (w3.alloc (.cells #[.slice a3 m cap3] 22)) := (Below.refl _ _).alloc (Nat.le_refl _) _
        have news : ∀ (j : Nat) (u : Value), [Value.slice a3 m cap3][j]? = some u → (w3.alloc (.cells #[.slice a3 m cap3] 22)).cell? (Addr.add ⟨w3.heap.size, 0, none⟩ j) = some u := fun j u hj => cell_one_new w3 (.slice a3 m cap3) 22 j u hj
        have hvsA := hvs.below Ba
        have hveA := fun i x s a b => (hve i x s a b).stay (fun k _ hk => Ba.block k hk)
        have B2a := B23.out.trans (Ba.mono B23.out.size)
        have owA : OwnT (w3.alloc (.cells #[.slice a3 m cap3] 22)) (fun k => G k ∨ w.heap.size ≤ k) (.slice a3 m cap3) t := ⟨(o3.out.weaken (Nat.zero_le _)).below Ba, ht.out.small, fun k hk => Or.inr (by have q : w2.heap.size ≤ k := (o3.out.lt k hk).1; have := B2.out.size; omega)⟩
        have hr := (Ba.block r (lt_of_block h3.out.row)).trans h3.out.row
        have cA : (w3.alloc (.cells #[.slice a3 m cap3] 22)).cell? ⟨r, 0, none⟩ = some v := (cell_of_row _ _ 0 _ _ _ hr).trans rfl
        have sizA : vs.length + 1 ≤ 1000000000 := by omega
        have inG3 := h3.out.list.inF
        replace hvs := Lib.hid hvs
        replace hve := Lib.hid hve
        replace hveA := Lib.hid hveA
        replace Ba := Lib.hid Ba
        replace B2a := Lib.hid B2a
        replace owA := Lib.hid owA
        replace inG3 := Lib.hid inG3
        refine hK.out _ _ (trivial) (fun hHeldN => ?_)
        clear hHeld hK K
        have hHeld := hHeldN
        clear hHeldN
        try simp only [Act.put, List.setIfInBounds_toArray, List.set_cons_zero, List.set_cons_succ]
        generalize w3.alloc (.cells #[.slice a3 m cap3] 22) = wa at *
        refine held_ready (i := 4) rfl (by kernel_rfl) (fun K hK => ?_)
        go_simp
        refine hK.out _ _ (trivial) (fun hHeldN => ?_)
        clear hHeld hK K
        have hHeld := hHeldN
        clear hHeldN
        try simp only [Act.put, List.setIfInBounds_toArray, List.set_cons_zero, List.set_cons_succ]
        refine held_ready (i := 8) rfl (by kernel_rfl) (fun K hK => ?_)
        refine step_append_y rfl (.tmp 13) (.tmp 16) 23 rfl 22 Try.underlying23 (.slice none 0 0) 24 infoRow rfl (by decide) 0 v vs rfl hvsA (Nat.zero_le _) ⟨w3.heap.size, 0, none⟩ 1 1 [.slice a3 m cap3] rfl rfl news (by intro u hu; simp at hu; subst hu; rfl) sizA ?_
        intro v8 w8 O8 G8 A8 R8
        have tyr : some r ≠ v.ownBlock := fun e => by
          obtain ⟨cc, hc⟩ := hvsA.typed e.symm
          rw [hr] at hc
          simp at hc
        have row8 := (G8.out.block r (lt_of_block hr) tyr).trans hr
        have F8 : ∀ k, v8.ownBlock = some k → G k ∨ w.heap.size ≤ k := fun k hk => by
          rcases A8.out with e | ⟨g8, e, hge⟩
          · rw [e] at hk
            exact Or.inl (inG3.out k hk)
          · rw [e] at hk
            injection hk with hk
            right; have := B2a.out.size; omega
        have U8 : Upd G w w8 := (Upd.of_below B2a.out).grown G8.out (fun k hk hkw => inG3.out k hk)
        have l8 := RowT.snoc hvsA hvl hveA.out owA.out (fun k hk => Or.inl hk) O8.out G8.out F8
        have hf : w8.frozen? ⟨r, 0, none⟩ = false := frozen_of_row _ _ _ _ _ row8
        have hcr : w8.cell? ⟨r, 0, none⟩ = some v := (cell_of_row _ _ 0 _ _ _ row8).trans rfl
        have hnr : G r := h.out.inG
        have rS : (w8.setCell ⟨r, 0, none⟩ v8).heap[r]? = some (.cells #[v8] 64 (0, 0)) := by rw [heap_setCell_same _ _ _ _ _ _ row8]; rfl
        have lS : RowT (w8.setCell ⟨r, 0, none⟩ v8) (fun k => G k ∨ w.heap.size ≤ k) v8 (T ++ [t]) := l8.aside row8 (fun k hk => heap_setCell_other _ _ _ _ hk)
        have uS : Upd G w (w8.setCell ⟨r, 0, none⟩ v8) := U8.setCell ⟨r, 0, none⟩ _ (fun _ => hnr)
        have refS : RefLog (w8.setCell ⟨r, 0, none⟩ v8) (fun k => G k ∨ w.heap.size ≤ k) r v8 (T ++ [t]) := ⟨rS, lS, Or.inl hnr⟩
        have lowS : Below w0.heap.size w0 (w8.setCell ⟨r, 0, none⟩ v8) := h0.out.trans (uS.below (fun k hk hF => by have := (hG.out k hF).1; omega) hz.out)
        clear l8 lS U8 rS
        obtain ⟨a8, c8, e8, _⟩ := O8.out.form
        obtain ⟨m8, em8⟩ : ∃ m8, m8 = (vs ++ [Value.slice a3 m cap3]).length := ⟨_, rfl⟩
        rw [← em8] at e8
        subst e8
        clear em8
        replace row8 := Lib.hid row8
        replace F8 := Lib.hid F8
        replace uS := Lib.hid uS
        replace refS := Lib.hid refS
        replace lowS := Lib.hid lowS
        refine hK.out _ _ (trivial) (fun hHeldN => ?_)
        clear hHeld hK K
        have hHeld := hHeldN
        clear hHeldN
        try simp only [Act.put, List.setIfInBounds_toArray, List.set_cons_zero, List.set_cons_succ]
        refine held_take (i := 9) (v := ?_) rfl (by kernel_rfl) (by kernel_rfl) (by kernel_rfl) (fun _ _ _ h => h) (Or.inl ⟨by rfl, ?_⟩) (by assumption) ?_
        rotate_left
        · intro w hSw; (try dsimp only at hSw); go_simp; try with_reducible rfl
        try simp only [Act.put, List.setIfInBounds_toArray, List.set_cons_zero, List.set_cons_succ]
        refine held_take (i := 10) (v := ?_) rfl (by kernel_rfl) (by kernel_rfl) (by kernel_rfl) (fun _ _ _ h => h) (Or.inl ⟨by rfl, ?_⟩) (by assumption) ?_
        rotate_left
        · intro w hSw; (try dsimp only at hSw); go_simp; try with_reducible rfl
        try simp only [Act.put, List.setIfInBounds_toArray, List.set_cons_zero, List.set_cons_succ]
        refine held_ready (i := 11) rfl (by kernel_rfl) (fun K hK => ?_)
        go_simp
        refine hK.out _ _ (trivial) (fun hHeldN => ?_)
        clear hHeld hK K
        have hHeld := hHeldN
        clear hHeldN
        try simp only [Act.put, List.setIfInBounds_toArray, List.set_cons_zero, List.set_cons_succ]
        refine wpAnyH_done (by kernel_rfl) ?_ _
        clear hHeld
        generalize w8.setCell ⟨r, 0, none⟩ (.slice a8 m8 c8) = wS at *
        go_wp2_with fail
        refine (ref_sum wS vt t (ht.out.below lowS.out) hl).mono ?_
        rintro e wT ⟨vT, rfl, oT, BT⟩
        have rT := refS.out.below BT
        have uT := uS.out.trans (Upd.of_below BT) (fun k _ h => h)
        replace oT := Lib.hid oT
        replace BT := Lib.hid BT
        replace rT := Lib.hid rT
        replace uT := Lib.hid uT
        go_wp2_with fail
        go_ret
        exact ⟨_, _, _, rfl, oT.out.weaken lowS.out.size, by rw [eT.out]; exact rT.out.tight, fun k (hk : _ ∧ _) => ⟨hk.1, hk.2⟩, uT.out⟩
end Go.Proofs.Ytjbmdeppoobccaa
