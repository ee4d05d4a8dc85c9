/-
  pool: Get. Conditions: the pool lies in blocks of its own; not too many texts.
-/
import Derived.Test.YtjhfoddhpmmjoaaDoorQPoolPut
namespace Go.Proofs.YtjhfoddhpmmjoaaDoor
set_option maxRecDepth 100000
open Go.RowKit Go.Maps

theorem DiskAt.look {w : World} {F : Nat → Prop} {b : Nat} {D : Dk} (h : DiskAt w F b D) {s : Nat} (hs : s < 4294967296) : (D.look s).length = 512 ∧ ∀ x ∈ D.look s, x < 256 := by
  obtain ⟨ms, mh, wv, h⟩ := h
  obtain ⟨v, _, hc⟩ := h.shown.look hs
  unfold Dk.look
  rcases hc with ⟨e, _⟩ | ⟨t, g, cap, e, hl, _, ho⟩
  · rw [e]; exact ⟨noughts512_length, noughts512_small⟩
  · rw [e]; exact ⟨hl, ho.small⟩
theorem infoSum32 {s : List Nat} (h : s.length = 32) : (Tryd.prog.info? 74).map (·.size) = some (u8l s).length := by
  have e : (u8l s).length = 32 := by simp [u8l, h]
  have q : (Tryd.prog.info? 74).map (·.size) = some 32 := by kernel_rfl
  rw [e]; exact q
theorem ref_cells {w : World} {g x : Nat} {sum : List Nat} {fr : Nat × Nat} (h : w.heap[g]? = some (.cells (refV x sum) 76 fr)) : w.cell? ⟨g, 0, none⟩ = some (.int .u32 (x : Int)) ∧ w.rangeAt g 1 (u8l sum) := by
  refine ⟨(cell_of_row _ _ 0 _ _ _ h).trans rfl, fun j v hv => ?_⟩
  rw [cell_of_row _ _ _ _ _ _ h]
  simp only [refV, refL, List.getElem?_toArray, Nat.add_comm 1 j, List.getElem?_cons_succ]
  exact hv
def GetSays (w : World) (l : Pl) (R : Nat → Prop) (s : Ps) (x : Nat) (sum : List Nat) (e : Ending) (w' : World) : Prop :=
  ∃ (s' : Ps) (R' : Nat → Prop), PoolAt w' l R' s' ∧ (∀ k, R' k → (R k ∨ w.heap.size ≤ k) ∧ k < w'.heap.size) ∧ Upd R w w' ∧
    ((s.n ≤ x ∧ e = .returned (.tuple #[.slice none 0 0, .int .i64 1]) ∧ s' = s) ∨
     (x < s.n ∧ s.D.down = true ∧ e = .returned (.tuple #[.slice none 0 0, .int .i64 30]) ∧ s' = s) ∨
     (x < s.n ∧ s.D.down = false ∧ s' = { s with T := addT s.T (s.D.look (s.start + x)) } ∧
       ((sumOf (s.D.look (s.start + x)) ≠ sum ∧ e = .returned (.tuple #[.slice none 0 0, .int .i64 40])) ∨
        (sumOf (s.D.look (s.start + x)) = sum ∧ ∃ g cap, e = .returned (.tuple #[.slice (some ⟨g, 0, none⟩) 512 cap, .int .i64 0]) ∧ ∀ wx, Upd R' w' wx → TextAt wx (.slice (some ⟨g, 0, none⟩) 512 cap) (s.D.look (s.start + x))))))
theorem PoolP.kept {w w' : World} {l : Pl} {R FD FL FL' : Nat → Prop} {s' : Ps} (h : PoolP w' l FD FL' s') (hR : ∀ k, R k ↔ l.all FD FL k) (hL : ∀ k, FL' k → FL k ∨ w.heap.size ≤ k) : PoolAt w' l (l.all FD FL') s' ∧ ∀ k, l.all FD FL' k → (R k ∨ w.heap.size ≤ k) ∧ k < w'.heap.size := by
  refine ⟨⟨FD, FL', h, fun _ => Iff.rfl⟩, fun k hk => ⟨?_, h.alt hk⟩⟩
  rcases hk with hk | hk | hk | hk
  · exact .inl ((hR k).2 (.inl hk))
  · exact (hL k hk).imp (fun q => (hR k).2 (.inr (.inl q))) id
  · exact .inl ((hR k).2 (.inr (.inr (.inl hk))))
  · exact .inl ((hR k).2 (.inr (.inr (.inr hk))))
set_option maxHeartbeats 4000000 in
set_option maxRecDepth 100000 in
theorem pget_any {w : World} {l : Pl} {R : Nat → Prop} {s : Ps} (h0 : PoolAt w l R s) (hT : s.T.length < 1000000000) (x : Nat) (hx : x < 4294967296) (sum : List Nat) (hs : sum.length = 32) (hss : ∀ y ∈ sum, y < 256) :
    Calls Tryd.prog 34 #[.pointer (some ⟨l.p, 0, none⟩), .agg (refV x sum)] w (GetSays w l R s x sum) := by
  obtain ⟨FD, FL, h, hR⟩ := h0
  have BA : Below w.heap.size w (w.alloc (.cells (refV x sum) 76)) := (Below.refl _ _).alloc (Nat.le_refl _) _
  have cm := pmade_any (h.below BA)
  have nR : ∀ k, l.all FD FL k → ¬ k = w.heap.size := fun k hk e => by have := h.alt hk; omega
  have xw : IntKind.i64.wrap (x : Int) = (x : Int) := IntWalk.i64_in _ (by omega)
  have hsm := h.field.small
  replace h := Lib.hid h
  replace hR := Lib.hid hR
  replace cm := Lib.hid cm
  replace BA := Lib.hid BA
  replace nR := Lib.hid nR
  go_enter Tryd.func34, Tryd.ntmps34
  go_wp2_with fail
  refine cm.out.mono ?_
  rintro e w1 ⟨rfl, hw1⟩
  have P1 : PoolP w1 l FD FL s := hw1 ▸ h.out.below BA.out
  have r1 : w1.heap[w.heap.size]? = some (.cells (refV x sum) 76 (0, 0)) := hw1 ▸ heap_alloc_new _ _
  have B1 : Below w.heap.size w w1 := hw1 ▸ BA.out
  clear hw1 BA cm
  have P1d := P1.drew
  obtain ⟨k0, k1⟩ := ref_cells (w := w1.drew) r1
  have c2 := P1d.c2
  have ce := esize_any P1d.field
  have U1 : Upd R w w1 := Upd.of_below B1
  have sz1 : w.heap.size < w1.heap.size := lt_of_block r1
  replace P1 := Lib.hid P1
  replace r1 := Lib.hid r1
  replace B1 := Lib.hid B1
  replace P1d := Lib.hid P1d
  replace ce := Lib.hid ce
  replace k1 := Lib.hid k1
  replace U1 := Lib.hid U1
  go_wp2_with fail
  refine wp_region_held_drew (S := (fun w' => w'.cell? ⟨w.heap.size, 0, none⟩ = some (.int .u32 (x : Int)) ∧ w'.cell? ⟨l.p, 2, none⟩ = some (.pointer (some ⟨l.fb, 0, none⟩)))) (by kernel_rfl) (⟨k0, c2⟩) (fun hHeld => ?_)
  refine held_take (i := 0) (v := ?_) rfl (by kernel_rfl) (by kernel_rfl) (by kernel_rfl) (fun _ _ _ h => h) (Or.inl ⟨by rfl, ?_⟩) (by assumption) ?_
  rotate_left
  · intro w hSw; (try dsimp only at hSw); go_simp; try with_reducible rfl
  try simp only [Act.put, List.setIfInBounds_toArray, List.set_cons_zero, List.set_cons_succ]
  refine held_take (i := 1) (v := ?_) rfl (by kernel_rfl) (by kernel_rfl) (by kernel_rfl) (fun _ _ _ h => h) (Or.inl ⟨by rfl, ?_⟩) (by assumption) ?_
  rotate_left
  · intro w hSw; (try dsimp only at hSw); go_simp; try with_reducible rfl
  try simp only [Act.put, List.setIfInBounds_toArray, List.set_cons_zero, List.set_cons_succ]
  refine held_take (i := 2) (v := ?_) rfl (by kernel_rfl) (by kernel_rfl) (by kernel_rfl) (fun _ _ _ h => h) (Or.inl ⟨by rfl, ?_⟩) (by assumption) ?_
  rotate_left
  · intro w hSw; (try dsimp only at hSw); go_simp; try with_reducible rfl
  try simp only [Act.put, List.setIfInBounds_toArray, List.set_cons_zero, List.set_cons_succ]
  refine held_take (i := 3) (v := ?_) rfl (by kernel_rfl) (by kernel_rfl) (by kernel_rfl) (fun _ _ _ h => h) (Or.inl ⟨by rfl, ?_⟩) (by assumption) ?_
  rotate_left
  · intro w hSw; (try dsimp only at hSw); go_simp; try with_reducible rfl
  try simp only [Act.put, List.setIfInBounds_toArray, List.set_cons_zero, List.set_cons_succ]
  refine held_take (i := 4) (v := ?_) rfl (by kernel_rfl) (by kernel_rfl) (by kernel_rfl) (fun _ _ _ h => h) (Or.inl ⟨by rfl, ?_⟩) (by assumption) ?_
  rotate_left
  · intro w hSw; (try dsimp only at hSw); go_simp; try with_reducible rfl
  try simp only [Act.put, List.setIfInBounds_toArray, List.set_cons_zero, List.set_cons_succ]
  refine held_take (i := 5) (v := ?_) rfl (by kernel_rfl) (by kernel_rfl) (by kernel_rfl) (fun _ _ _ h => h) (Or.inl ⟨by rfl, ?_⟩) (by assumption) ?_
  rotate_left
  · intro w hSw; (try dsimp only at hSw); go_simp; try with_reducible rfl
  try simp only [Act.put, List.setIfInBounds_toArray, List.set_cons_zero, List.set_cons_succ]
  refine held_take (i := 6) (v := ?_) rfl (by kernel_rfl) (by kernel_rfl) (by kernel_rfl) (fun _ _ _ h => h) (Or.inl ⟨by rfl, ?_⟩) (by assumption) ?_
  rotate_left
  · intro w hSw; (try dsimp only at hSw); go_simp; try with_reducible rfl
  try simp only [Act.put, List.setIfInBounds_toArray, List.set_cons_zero, List.set_cons_succ]
  refine held_ready (i := 7) rfl (by kernel_rfl) (fun K hK => ?_)
  go_simp
  refine ce.out.mono ?_
  rintro e _ ⟨rfl, rfl⟩
  refine hK.out _ _ (⟨k0, c2⟩) (fun hHeldN => ?_)
  clear hHeld hK K
  have hHeld := hHeldN
  clear hHeldN
  try simp only [Act.put, List.setIfInBounds_toArray, List.set_cons_zero, List.set_cons_succ]
  refine held_take (i := 8) (v := ?_) rfl (by kernel_rfl) (by kernel_rfl) (by kernel_rfl) (fun _ _ _ h => h) (Or.inl ⟨by rfl, ?_⟩) (by assumption) ?_
  rotate_left
  · intro w hSw; (try dsimp only at hSw); go_simp; try with_reducible rfl
  try simp only [Act.put, List.setIfInBounds_toArray, List.set_cons_zero, List.set_cons_succ]
  refine held_take (i := 9) (v := ?_) rfl (by kernel_rfl) (by kernel_rfl) (by kernel_rfl) (fun _ _ _ h => h) (Or.inl ⟨by rfl, ?_⟩) (by assumption) ?_
  rotate_left
  · intro w hSw; (try dsimp only at hSw); go_simp; try with_reducible rfl
  try simp only [Act.put, List.setIfInBounds_toArray, List.set_cons_zero, List.set_cons_succ]
  refine wpAnyH_done (by kernel_rfl) ?_ _
  clear hHeld
  by_cases hn : s.n ≤ x
  · have d1 : decide ((x : Int) ≥ (s.n : Int)) = true := decide_eq_true (by omega)
    go_wp2_with fail
    go_ret2
    obtain ⟨K1, K2⟩ := P1d.out.kept (w := w) hR.out (fun _ hk => .inl hk)
    exact ⟨s, _, K1, K2, U1.out.drew, .inl ⟨hn, rfl, rfl⟩⟩
  · have d1 : decide ((x : Int) ≥ (s.n : Int)) = false := decide_eq_false (by omega)
    have hfit : s.start + s.n ≤ s.D.n := P1d.out.fit
    have hbig : s.D.n ≤ 65536 := P1d.out.big
    have P2 := P1d.out.drew
    obtain ⟨m0, m1⟩ := ref_cells (w := w1.drew.drew) r1.out
    have q0 := P2.c0
    have q3 := P2.c3
    have cs := psector_any (w := w1.drew.drew) x s.start l.xb P2.cx (by omega)
    have cr := dread_any (D := s.D) P2.disk (s.start + x) (by omega)
    obtain ⟨t512, tsm⟩ := P2.disk.look (s := s.start + x) (by omega)
    have U2 : Upd R w w1.drew.drew := U1.out.drew.drew
    unfold ReadSays Dk.readE at cr
    clear k0 c2 ce m1
    generalize htx : s.D.look (s.start + x) = text at *
    cases hd : s.D.down with
    | true =>
      have cr' : Calls Tryd.prog 65 #[.pointer (some ⟨l.db, 0, none⟩), .int .u32 ((s.start + x : Nat) : Int)] w1.drew.drew fun e w' => e = .returned (.tuple #[.slice none 0 0, .int .i64 30]) ∧ w1.drew.drew = w' := cr.mono fun e w' he => by
        rw [hd, if_pos rfl] at he
        rcases he with ⟨e1, _⟩ | ⟨_, e2, e3⟩
        · exact absurd e1 (by decide)
        · exact ⟨e2, e3⟩
      clear cr
      replace P2 := Lib.hid P2
      replace cs := Lib.hid cs
      replace cr' := Lib.hid cr'
      replace U2 := Lib.hid U2
      replace hd := Lib.hid hd
      replace htx := Lib.hid htx
      go_wp2_with fail
      refine wp_region_held_drew (S := (fun w' => w'.cell? ⟨w.heap.size, 0, none⟩ = some (.int .u32 (x : Int)) ∧ w'.cell? ⟨l.p, 0, none⟩ = some (.pointer (some ⟨l.db, 0, none⟩)) ∧ w'.cell? ⟨l.p, 3, none⟩ = some (.func (.func 67) #[] #[.pointer (some ⟨l.xb, 0, none⟩)]))) (by kernel_rfl) (⟨m0, q0, q3⟩) (fun hHeld => ?_)
      refine held_take (i := 0) (v := ?_) rfl (by kernel_rfl) (by kernel_rfl) (by kernel_rfl) (fun _ _ _ h => h) (Or.inl ⟨by rfl, ?_⟩) (by assumption) ?_
      rotate_left
      · intro w hSw; (try dsimp only at hSw); go_simp; try with_reducible rfl
      try simp only [Act.put, List.setIfInBounds_toArray, List.set_cons_zero, List.set_cons_succ]
      refine held_take (i := 1) (v := ?_) rfl (by kernel_rfl) (by kernel_rfl) (by kernel_rfl) (fun _ _ _ h => h) (Or.inl ⟨by rfl, ?_⟩) (by assumption) ?_
      rotate_left
      · intro w hSw; (try dsimp only at hSw); go_simp; try with_reducible rfl
      try simp only [Act.put, List.setIfInBounds_toArray, List.set_cons_zero, List.set_cons_succ]
      refine held_take (i := 2) (v := ?_) rfl (by kernel_rfl) (by kernel_rfl) (by kernel_rfl) (fun _ _ _ h => h) (Or.inl ⟨by rfl, ?_⟩) (by assumption) ?_
      rotate_left
      · intro w hSw; (try dsimp only at hSw); go_simp; try with_reducible rfl
      try simp only [Act.put, List.setIfInBounds_toArray, List.set_cons_zero, List.set_cons_succ]
      refine held_take (i := 3) (v := ?_) rfl (by kernel_rfl) (by kernel_rfl) (by kernel_rfl) (fun _ _ _ h => h) (Or.inl ⟨by rfl, ?_⟩) (by assumption) ?_
      rotate_left
      · intro w hSw; (try dsimp only at hSw); go_simp; try with_reducible rfl
      try simp only [Act.put, List.setIfInBounds_toArray, List.set_cons_zero, List.set_cons_succ]
      refine held_take (i := 4) (v := ?_) rfl (by kernel_rfl) (by kernel_rfl) (by kernel_rfl) (fun _ _ _ h => h) (Or.inl ⟨by rfl, ?_⟩) (by assumption) ?_
      rotate_left
      · intro w hSw; (try dsimp only at hSw); go_simp; try with_reducible rfl
      try simp only [Act.put, List.setIfInBounds_toArray, List.set_cons_zero, List.set_cons_succ]
      refine held_take (i := 5) (v := ?_) rfl (by kernel_rfl) (by kernel_rfl) (by kernel_rfl) (fun _ _ _ h => h) (Or.inl ⟨by rfl, ?_⟩) (by assumption) ?_
      rotate_left
      · intro w hSw; (try dsimp only at hSw); go_simp; try with_reducible rfl
      try simp only [Act.put, List.setIfInBounds_toArray, List.set_cons_zero, List.set_cons_succ]
      refine held_take (i := 6) (v := ?_) rfl (by kernel_rfl) (by kernel_rfl) (by kernel_rfl) (fun _ _ _ h => h) (Or.inl ⟨by rfl, ?_⟩) (by assumption) ?_
      rotate_left
      · intro w hSw; (try dsimp only at hSw); go_simp; try with_reducible rfl
      try simp only [Act.put, List.setIfInBounds_toArray, List.set_cons_zero, List.set_cons_succ]
      refine held_take (i := 7) (v := ?_) rfl (by kernel_rfl) (by kernel_rfl) (by kernel_rfl) (fun _ _ _ h => h) (Or.inl ⟨by rfl, ?_⟩) (by assumption) ?_
      rotate_left
      · intro w hSw; (try dsimp only at hSw); go_simp; try with_reducible rfl
      try simp only [Act.put, List.setIfInBounds_toArray, List.set_cons_zero, List.set_cons_succ]
      refine held_take (i := 8) (v := ?_) rfl (by kernel_rfl) (by kernel_rfl) (by kernel_rfl) (fun _ _ _ h => h) (Or.inl ⟨by rfl, ?_⟩) (by assumption) ?_
      rotate_left
      · intro w hSw; (try dsimp only at hSw); go_simp; try with_reducible rfl
      try simp only [Act.put, List.setIfInBounds_toArray, List.set_cons_zero, List.set_cons_succ]
      refine held_take (i := 9) (v := ?_) rfl (by kernel_rfl) (by kernel_rfl) (by kernel_rfl) (fun _ _ _ h => h) (Or.inl ⟨by rfl, ?_⟩) (by assumption) ?_
      rotate_left
      · intro w hSw; (try dsimp only at hSw); go_simp; try with_reducible rfl
      try simp only [Act.put, List.setIfInBounds_toArray, List.set_cons_zero, List.set_cons_succ]
      refine held_ready (i := 10) rfl (by kernel_rfl) (fun K hK => ?_)
      go_simp
      refine cs.out.mono ?_
      rintro e _ ⟨rfl, rfl⟩
      refine hK.out _ _ (⟨m0, q0, q3⟩) (fun hHeldN => ?_)
      clear hHeld hK K
      have hHeld := hHeldN
      clear hHeldN
      try simp only [Act.put, List.setIfInBounds_toArray, List.set_cons_zero, List.set_cons_succ]
      refine held_ready (i := 11) rfl (by kernel_rfl) (fun K hK => ?_)
      go_simp
      refine cr'.out.mono ?_
      rintro e _ ⟨rfl, rfl⟩
      refine hK.out _ _ (⟨m0, q0, q3⟩) (fun hHeldN => ?_)
      clear hHeld hK K
      have hHeld := hHeldN
      clear hHeldN
      try simp only [Act.put, List.setIfInBounds_toArray, List.set_cons_zero, List.set_cons_succ]
      refine held_take (i := 12) (v := ?_) rfl (by kernel_rfl) (by kernel_rfl) (by kernel_rfl) (fun _ _ _ h => h) (Or.inl ⟨by rfl, ?_⟩) (by assumption) ?_
      rotate_left
      · intro w hSw; (try dsimp only at hSw); go_simp; try with_reducible rfl
      try simp only [Act.put, List.setIfInBounds_toArray, List.set_cons_zero, List.set_cons_succ]
      refine held_take (i := 13) (v := ?_) rfl (by kernel_rfl) (by kernel_rfl) (by kernel_rfl) (fun _ _ _ h => h) (Or.inl ⟨by rfl, ?_⟩) (by assumption) ?_
      rotate_left
      · intro w hSw; (try dsimp only at hSw); go_simp; try with_reducible rfl
      try simp only [Act.put, List.setIfInBounds_toArray, List.set_cons_zero, List.set_cons_succ]
      refine held_take (i := 14) (v := ?_) rfl (by kernel_rfl) (by kernel_rfl) (by kernel_rfl) (fun _ _ _ h => h) (Or.inl ⟨by rfl, ?_⟩) (by assumption) ?_
      rotate_left
      · intro w hSw; (try dsimp only at hSw); go_simp; try with_reducible rfl
      try simp only [Act.put, List.setIfInBounds_toArray, List.set_cons_zero, List.set_cons_succ]
      refine held_take (i := 15) (v := ?_) rfl (by kernel_rfl) (by kernel_rfl) (by kernel_rfl) (fun _ _ _ h => h) (Or.inl ⟨by rfl, ?_⟩) (by assumption) ?_
      rotate_left
      · intro w hSw; (try dsimp only at hSw); go_simp; try with_reducible rfl
      try simp only [Act.put, List.setIfInBounds_toArray, List.set_cons_zero, List.set_cons_succ]
      refine held_take (i := 16) (v := ?_) rfl (by kernel_rfl) (by kernel_rfl) (by kernel_rfl) (fun _ _ _ h => h) (Or.inl ⟨by rfl, ?_⟩) (by assumption) ?_
      rotate_left
      · intro w hSw; (try dsimp only at hSw); go_simp; try with_reducible rfl
      try simp only [Act.put, List.setIfInBounds_toArray, List.set_cons_zero, List.set_cons_succ]
      refine wpAnyH_done (by kernel_rfl) ?_ _
      clear hHeld
      go_wp2_with fail
      go_ret2
      obtain ⟨K1, K2⟩ := P2.out.kept (w := w) hR.out (fun _ hk => .inl hk)
      exact ⟨s, _, K1, K2, U2.out, .inr (.inl ⟨by omega, hd.out, rfl, rfl⟩)⟩
    | false =>
      have cr' : Calls Tryd.prog 65 #[.pointer (some ⟨l.db, 0, none⟩), .int .u32 ((s.start + x : Nat) : Int)] w1.drew.drew fun e w' => ∃ g cap, e = .returned (.tuple #[.slice (some ⟨g, 0, none⟩) 512 cap, .int .i64 0]) ∧ Own w' w1.drew.drew.heap.size 5 (.slice (some ⟨g, 0, none⟩) 512 cap) (u8l text) ∧ Below w1.drew.drew.heap.size w1.drew.drew w' := cr.mono fun e w' he => by
        rw [hd, if_neg (by decide), if_neg (by omega)] at he
        rcases he with ⟨_, g, cap, e1, e2, e3⟩ | ⟨e1, _⟩
        · exact ⟨g, cap, e1, e2, e3⟩
        · exact absurd rfl e1
      clear cr
      replace P2 := Lib.hid P2
      replace cs := Lib.hid cs
      replace cr' := Lib.hid cr'
      replace U2 := Lib.hid U2
      replace hd := Lib.hid hd
      replace htx := Lib.hid htx
      go_wp2_with fail
      refine wp_region_held_drew (S := (fun w' => w'.cell? ⟨w.heap.size, 0, none⟩ = some (.int .u32 (x : Int)) ∧ w'.cell? ⟨l.p, 0, none⟩ = some (.pointer (some ⟨l.db, 0, none⟩)) ∧ w'.cell? ⟨l.p, 3, none⟩ = some (.func (.func 67) #[] #[.pointer (some ⟨l.xb, 0, none⟩)]))) (by kernel_rfl) (⟨m0, q0, q3⟩) (fun hHeld => ?_)
      refine held_take (i := 0) (v := ?_) rfl (by kernel_rfl) (by kernel_rfl) (by kernel_rfl) (fun _ _ _ h => h) (Or.inl ⟨by rfl, ?_⟩) (by assumption) ?_
      rotate_left
      · intro w hSw; (try dsimp only at hSw); go_simp; try with_reducible rfl
      try simp only [Act.put, List.setIfInBounds_toArray, List.set_cons_zero, List.set_cons_succ]
      refine held_take (i := 1) (v := ?_) rfl (by kernel_rfl) (by kernel_rfl) (by kernel_rfl) (fun _ _ _ h => h) (Or.inl ⟨by rfl, ?_⟩) (by assumption) ?_
      rotate_left
      · intro w hSw; (try dsimp only at hSw); go_simp; try with_reducible rfl
      try simp only [Act.put, List.setIfInBounds_toArray, List.set_cons_zero, List.set_cons_succ]
      refine held_take (i := 2) (v := ?_) rfl (by kernel_rfl) (by kernel_rfl) (by kernel_rfl) (fun _ _ _ h => h) (Or.inl ⟨by rfl, ?_⟩) (by assumption) ?_
      rotate_left
      · intro w hSw; (try dsimp only at hSw); go_simp; try with_reducible rfl
      try simp only [Act.put, List.setIfInBounds_toArray, List.set_cons_zero, List.set_cons_succ]
      refine held_take (i := 3) (v := ?_) rfl (by kernel_rfl) (by kernel_rfl) (by kernel_rfl) (fun _ _ _ h => h) (Or.inl ⟨by rfl, ?_⟩) (by assumption) ?_
      rotate_left
      · intro w hSw; (try dsimp only at hSw); go_simp; try with_reducible rfl
      try simp only [Act.put, List.setIfInBounds_toArray, List.set_cons_zero, List.set_cons_succ]
      refine held_take (i := 4) (v := ?_) rfl (by kernel_rfl) (by kernel_rfl) (by kernel_rfl) (fun _ _ _ h => h) (Or.inl ⟨by rfl, ?_⟩) (by assumption) ?_
      rotate_left
      · intro w hSw; (try dsimp only at hSw); go_simp; try with_reducible rfl
      try simp only [Act.put, List.setIfInBounds_toArray, List.set_cons_zero, List.set_cons_succ]
      refine held_take (i := 5) (v := ?_) rfl (by kernel_rfl) (by kernel_rfl) (by kernel_rfl) (fun _ _ _ h => h) (Or.inl ⟨by rfl, ?_⟩) (by assumption) ?_
      rotate_left
      · intro w hSw; (try dsimp only at hSw); go_simp; try with_reducible rfl
      try simp only [Act.put, List.setIfInBounds_toArray, List.set_cons_zero, List.set_cons_succ]
      refine held_take (i := 6) (v := ?_) rfl (by kernel_rfl) (by kernel_rfl) (by kernel_rfl) (fun _ _ _ h => h) (Or.inl ⟨by rfl, ?_⟩) (by assumption) ?_
      rotate_left
      · intro w hSw; (try dsimp only at hSw); go_simp; try with_reducible rfl
      try simp only [Act.put, List.setIfInBounds_toArray, List.set_cons_zero, List.set_cons_succ]
      refine held_take (i := 7) (v := ?_) rfl (by kernel_rfl) (by kernel_rfl) (by kernel_rfl) (fun _ _ _ h => h) (Or.inl ⟨by rfl, ?_⟩) (by assumption) ?_
      rotate_left
      · intro w hSw; (try dsimp only at hSw); go_simp; try with_reducible rfl
      try simp only [Act.put, List.setIfInBounds_toArray, List.set_cons_zero, List.set_cons_succ]
      refine held_take (i := 8) (v := ?_) rfl (by kernel_rfl) (by kernel_rfl) (by kernel_rfl) (fun _ _ _ h => h) (Or.inl ⟨by rfl, ?_⟩) (by assumption) ?_
      rotate_left
      · intro w hSw; (try dsimp only at hSw); go_simp; try with_reducible rfl
      try simp only [Act.put, List.setIfInBounds_toArray, List.set_cons_zero, List.set_cons_succ]
      refine held_take (i := 9) (v := ?_) rfl (by kernel_rfl) (by kernel_rfl) (by kernel_rfl) (fun _ _ _ h => h) (Or.inl ⟨by rfl, ?_⟩) (by assumption) ?_
      rotate_left
      · intro w hSw; (try dsimp only at hSw); go_simp; try with_reducible rfl
      try simp only [Act.put, List.setIfInBounds_toArray, List.set_cons_zero, List.set_cons_succ]
      refine held_ready (i := 10) rfl (by kernel_rfl) (fun K hK => ?_)
      go_simp
      refine cs.out.mono ?_
      rintro e _ ⟨rfl, rfl⟩
      refine hK.out _ _ (⟨m0, q0, q3⟩) (fun hHeldN => ?_)
      clear hHeld hK K
      have hHeld := hHeldN
      clear hHeldN
      try simp only [Act.put, List.setIfInBounds_toArray, List.set_cons_zero, List.set_cons_succ]
      refine held_ready (i := 11) rfl (by kernel_rfl) (fun K hK => ?_)
      go_simp
      refine cr'.out.mono ?_
      rintro e w3 ⟨g, cap, rfl, o3, B3⟩
      have P3 := P2.out.below B3
      have r3 := (B3.block _ (lt_of_block (w := w1.drew.drew) r1.out)).trans r1.out
      have n0 := (ref_cells r3).1
      have n1 := P3.c0
      have n3 := P3.c3
      have U3 : Upd R w w3 := U2.out.trans (Upd.of_below (S := R) B3) (fun _ _ e => e)
      have tx3 := o3.text tsm
      clear cr' cs m0 q0 q3 P2 U2 r1 P1 P1d
      replace P3 := Lib.hid P3
      replace r3 := Lib.hid r3
      replace U3 := Lib.hid U3
      replace o3 := Lib.hid o3
      replace tx3 := Lib.hid tx3
      refine hK.out _ _ (⟨n0, n1, n3⟩) (fun hHeldN => ?_)
      clear hHeld hK K
      have hHeld := hHeldN
      clear hHeldN
      try simp only [Act.put, List.setIfInBounds_toArray, List.set_cons_zero, List.set_cons_succ]
      refine held_take (i := 12) (v := ?_) rfl (by kernel_rfl) (by kernel_rfl) (by kernel_rfl) (fun _ _ _ h => h) (Or.inl ⟨by rfl, ?_⟩) (by assumption) ?_
      rotate_left
      · intro w hSw; (try dsimp only at hSw); go_simp; try with_reducible rfl
      try simp only [Act.put, List.setIfInBounds_toArray, List.set_cons_zero, List.set_cons_succ]
      refine held_take (i := 13) (v := ?_) rfl (by kernel_rfl) (by kernel_rfl) (by kernel_rfl) (fun _ _ _ h => h) (Or.inl ⟨by rfl, ?_⟩) (by assumption) ?_
      rotate_left
      · intro w hSw; (try dsimp only at hSw); go_simp; try with_reducible rfl
      try simp only [Act.put, List.setIfInBounds_toArray, List.set_cons_zero, List.set_cons_succ]
      refine held_take (i := 14) (v := ?_) rfl (by kernel_rfl) (by kernel_rfl) (by kernel_rfl) (fun _ _ _ h => h) (Or.inl ⟨by rfl, ?_⟩) (by assumption) ?_
      rotate_left
      · intro w hSw; (try dsimp only at hSw); go_simp; try with_reducible rfl
      try simp only [Act.put, List.setIfInBounds_toArray, List.set_cons_zero, List.set_cons_succ]
      refine held_take (i := 15) (v := ?_) rfl (by kernel_rfl) (by kernel_rfl) (by kernel_rfl) (fun _ _ _ h => h) (Or.inl ⟨by rfl, ?_⟩) (by assumption) ?_
      rotate_left
      · intro w hSw; (try dsimp only at hSw); go_simp; try with_reducible rfl
      try simp only [Act.put, List.setIfInBounds_toArray, List.set_cons_zero, List.set_cons_succ]
      refine held_take (i := 16) (v := ?_) rfl (by kernel_rfl) (by kernel_rfl) (by kernel_rfl) (fun _ _ _ h => h) (Or.inl ⟨by rfl, ?_⟩) (by assumption) ?_
      rotate_left
      · intro w hSw; (try dsimp only at hSw); go_simp; try with_reducible rfl
      try simp only [Act.put, List.setIfInBounds_toArray, List.set_cons_zero, List.set_cons_succ]
      refine wpAnyH_done (by kernel_rfl) ?_ _
      clear hHeld
      go_wp2_with fail
      have P4 := P3.out.drew
      have k1 := (ref_cells (w := w3.drew) r3.out).2
      have q1 := P4.c1
      have tx4 := tx3.out.drew
      have cl := lsum_st (T := s.T) P4.log (.slice (some ⟨g, 0, none⟩) 512 cap) text tx4 (by omega) hT
      have ls := length_sumOf text
      have lt := sumOf_lt text
      generalize hsm : sumOf text = S at *
      replace P4 := Lib.hid P4
      replace cl := Lib.hid cl
      replace k1 := Lib.hid k1
      replace ls := Lib.hid ls
      replace lt := Lib.hid lt
      replace hsm := Lib.hid hsm
      replace tx4 := Lib.hid tx4
      refine wp_region_held_drew (S := (fun w' => w'.cell? ⟨l.p, 1, none⟩ = some (.pointer (some ⟨l.lb, 0, none⟩)) ∧ w'.rangeAt w.heap.size 1 (u8l sum))) (by kernel_rfl) (⟨q1, k1.out⟩) (fun hHeld => ?_)
      refine held_take (i := 0) (v := ?_) rfl (by kernel_rfl) (by kernel_rfl) (by kernel_rfl) (fun _ _ _ h => h) (Or.inl ⟨by rfl, ?_⟩) (by assumption) ?_
      rotate_left
      · intro w hSw; (try dsimp only at hSw); go_simp; try with_reducible rfl
      try simp only [Act.put, List.setIfInBounds_toArray, List.set_cons_zero, List.set_cons_succ]
      refine held_take (i := 1) (v := ?_) rfl (by kernel_rfl) (by kernel_rfl) (by kernel_rfl) (fun _ _ _ h => h) (Or.inl ⟨by rfl, ?_⟩) (by assumption) ?_
      rotate_left
      · intro w hSw; (try dsimp only at hSw); go_simp; try with_reducible rfl
      try simp only [Act.put, List.setIfInBounds_toArray, List.set_cons_zero, List.set_cons_succ]
      refine held_take (i := 2) (v := ?_) rfl (by kernel_rfl) (by kernel_rfl) (by kernel_rfl) (fun _ _ _ h => h) (Or.inl ⟨by rfl, ?_⟩) (by assumption) ?_
      rotate_left
      · intro w hSw; (try dsimp only at hSw); go_simp; try with_reducible rfl
      try simp only [Act.put, List.setIfInBounds_toArray, List.set_cons_zero, List.set_cons_succ]
      refine held_take (i := 3) (v := ?_) rfl (by kernel_rfl) (by kernel_rfl) (by kernel_rfl) (fun _ _ _ h => h) (Or.inl ⟨by rfl, ?_⟩) (by assumption) ?_
      rotate_left
      · intro w hSw; (try dsimp only at hSw); go_simp; try with_reducible rfl
      try simp only [Act.put, List.setIfInBounds_toArray, List.set_cons_zero, List.set_cons_succ]
      refine held_take (i := 4) (v := ?_) rfl (by kernel_rfl) (by kernel_rfl) (by kernel_rfl) (fun _ _ _ h => h) (Or.inl ⟨by rfl, ?_⟩) (by assumption) ?_
      rotate_left
      · intro w hSw; (try dsimp only at hSw); go_simp; try with_reducible rfl
      try simp only [Act.put, List.setIfInBounds_toArray, List.set_cons_zero, List.set_cons_succ]
      refine held_take (i := 6) (v := ?_) rfl (by kernel_rfl) (by kernel_rfl) (by kernel_rfl) (fun _ _ _ h => h) (Or.inl ⟨by rfl, ?_⟩) (by assumption) ?_
      rotate_left
      · intro w hSw; (try dsimp only at hSw); go_simp; try with_reducible rfl
      try simp only [Act.put, List.setIfInBounds_toArray, List.set_cons_zero, List.set_cons_succ]
      refine held_take (i := 7) (v := .agg (u8s sum)) rfl (by kernel_rfl) (by kernel_rfl) (by kernel_rfl) (fun _ _ _ h => h) (yieldsIf_load_mid (by rfl) 74 (.tmp 46) rfl w.heap.size 1 rfl (u8l sum) _ (fun w' h => h.2) Tryd.underlying74 rfl (infoSum32 hs)) (by assumption) ?_
      try simp only [Act.put, List.setIfInBounds_toArray, List.set_cons_zero, List.set_cons_succ]
      refine held_ready (i := 5) rfl (by kernel_rfl) (fun K hK => ?_)
      go_simp
      refine cl.out.mono ?_
      rintro e w5 ⟨rfl, FL', L5, hF5, U5⟩
      have P5 := P4.out.turnL L5 U5 hF5
      have U05 : Upd R w w5 := U3.out.drew.trans U5 (fun k _ e => (hR.out k).2 (.inr (.inl e)))
      have r5 := U5.at (w := w3.drew) r3.out (fun e => nR.out w.heap.size (.inr (.inl e)) rfl)
      have c1 := P5.c1
      have p1 := (ref_cells r5).2
      have tx5 : ∀ wx, Upd (l.all FD FL') w5 wx → TextAt wx (.slice (some ⟨g, 0, none⟩) 512 cap) text := fun wx ux => by
        have o5 := o3.out.other (w' := wx) (fun k hk => by
          obtain ⟨a, c⟩ := o3.out.lt k hk
          have a : w1.heap.size ≤ k := a
          have nF : ¬ FL k := fun e => by have := (h.out.d2 k e).1; omega
          have e1 := U5.block k c nF
          have e2 := ux.block k (Nat.lt_of_lt_of_le c U5.size) (fun e => by
            rcases e with e | e | e | e
            · have := (h.out.d1 k e).1; omega
            · rcases (hF5 k e).1 with q | q
              · exact nF q
              · have q : w3.heap.size ≤ k := q
                omega
            · have := h.out.flt e; omega
            · have := h.out.olt e; omega)
          exact e2.trans e1)
        exact o5.text tsm
      clear cl P4 L5 U5
      replace P5 := Lib.hid P5
      replace U05 := Lib.hid U05
      replace r5 := Lib.hid r5
      replace p1 := Lib.hid p1
      replace tx5 := Lib.hid tx5
      replace hF5 := Lib.hid hF5
      refine hK.out _ _ (⟨c1, p1.out⟩) (fun hHeldN => ?_)
      clear hHeld hK K
      have hHeld := hHeldN
      clear hHeldN
      try simp only [Act.put, List.setIfInBounds_toArray, List.set_cons_zero, List.set_cons_succ]
      obtain ⟨qb, hqb⟩ : ∃ q : Bool, q = !(S == sum) := ⟨_, rfl⟩
      have rn : ∀ wx : World, (binOp .neq 74 (.agg (u8s S)) (.agg (u8s sum))).run Tryd.prog wx = .ok (.bool qb) wx := fun wx => by rw [hqb]; exact run_ne_arr Tryd.underlying74 Tryd.underlying5 (by kernel_rfl) lt.out hss ls.out hs wx
      replace rn := Lib.hid rn
      replace hqb := Lib.hid hqb
      refine held_ready (i := 8) rfl (by kernel_rfl) (fun K hK => ?_)
      rw [if_pos (by rfl)]
      refine wp_cmp .neq 74 74 (.tmp 45) (.tmp 47) rfl (u8s S) (u8s sum) rfl rfl (by kernel_rfl) (.bool qb) (rn.out _) ?_
      refine hK.out _ _ (⟨c1, p1.out⟩) (fun hHeldN => ?_)
      clear hHeld hK K
      have hHeld := hHeldN
      clear hHeldN
      try simp only [Act.put, List.setIfInBounds_toArray, List.set_cons_zero, List.set_cons_succ]
      refine wpAnyH_done (by kernel_rfl) ?_ _
      clear hHeld
      have hFL : ∀ k, FL' k → FL k ∨ w.heap.size ≤ k := fun k hk => (hF5.out k hk).1.imp id (fun q => by have q : w3.heap.size ≤ k := q; have := lt_of_block r3.out; omega)
      obtain ⟨K1, K2⟩ := P5.out.kept (w := w) hR.out hFL
      clear c1
      cases qb with
      | false =>
        have hq : S = sum := by simpa using hqb.out.symm
        replace K1 := Lib.hid K1
        replace K2 := Lib.hid K2
        replace hq := Lib.hid hq
        replace hFL := Lib.hid hFL
        go_wp2_with fail
        go_ret2
        exact ⟨_, _, K1.out, K2.out, U05.out, .inr (.inr ⟨by omega, hd.out, by rw [htx.out], .inr ⟨by rw [htx.out, hsm.out]; exact hq.out, g, cap, rfl, by rw [htx.out]; exact tx5.out⟩⟩)⟩
      | true =>
        have hq : ¬ S = sum := by simpa using hqb.out.symm
        replace K1 := Lib.hid K1
        replace K2 := Lib.hid K2
        replace hq := Lib.hid hq
        replace hFL := Lib.hid hFL
        go_wp2_with fail
        go_ret2
        exact ⟨_, _, K1.out, K2.out, U05.out, .inr (.inr ⟨by omega, hd.out, by rw [htx.out], .inl ⟨by rw [htx.out, hsm.out]; exact hq.out, rfl⟩⟩)⟩
end Go.Proofs.YtjhfoddhpmmjoaaDoor
