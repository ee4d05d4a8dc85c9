/-
  hashlog's Sum. Conditions: the log lies in blocks of its own; the text is not too long, nor are the texts too many.
-/
import Derived.Test.YtjhfoddhpmmjoaaDoorQHashLog
namespace Go.Proofs.YtjhfoddhpmmjoaaDoor
set_option maxRecDepth 100000
open Go.RowKit Go.Maps

theorem infoRow : (Tryd.prog.info? 85).map (fun i => (i.zero, i.size, i.bytes)) = some (some (.slice none 0 0), 1, 24) := by kernel_rfl
theorem zeroRow (w : World) : (zeroValue 100).run Tryd.prog w = .ok (.slice none 0 0) w := by kernel_rfl
theorem infoSum (t : List Nat) : (Tryd.prog.info? 74).map (·.size) = some (u8s (sumOf t)).size := by rw [show (u8s (sumOf t)).size = 32 from size_sumOf t]; kernel_rfl
theorem zeroSum (t : List Nat) : (u8s (List.replicate 32 0)).size = (u8s (sumOf t)).size := by rw [show (u8s (sumOf t)).size = 32 from size_sumOf t]; rfl

/-- A look-up at the operation. -/
theorem wp_look {w : World} {o : Oper} {a : Act} {K : Act → World → Prop} {Q : Exit → Act → World → Prop} {F : Nat → Prop} {mb n : Nat} {C : Value → Option Value} {T : List (List Nat)} (h : LogMapC w F mb T n C) (m x : Operand)
    (ho : o.op = .lookup 137 m x false) (hm : a.eval m = .map (some mb)) {s : List Nat} {v : Value} (hv : (C (.agg (u8s s))).getD (.slice none 0 0) = v) (hl : s.length = 32) (hs : ∀ x ∈ s, x < 256) (hx : a.eval x = .agg (u8s s)) (hK : K (a.put o.dst v) w) : o.wp Tryd.prog a w K Q := by
  obtain ⟨l, hk⟩ := sum_key hl hs
  have hr := h.map.lookup sumLaw Tryd.underlying137 hk (zeroRow w)
  unfold Oper.wp execOp
  simp only [ho, hm, hx, Sem.run_bind, Sem.run_pure, hr, Result.andThen_ok, hv]
  exact hK
/-- A store in the map at the operation. -/
theorem wp_put {w : World} {o : Oper} {a : Act} {K : Act → World → Prop} {Q : Exit → Act → World → Prop} {mb n : Nat} {C : Value → Option Value} (h : MapF Tryd.prog 74 w mb n C) (m x y : Operand)
    (ho : o.op = .mapUpdate 137 m x y) (hm : a.eval m = .map (some mb)) {s : List Nat} (hl : s.length = 32) (hs : ∀ x ∈ s, x < 256) (hx : a.eval x = .agg (u8s s)) (v : Value) (hy : a.eval y = v)
    (hK : ∀ w', Hid (MapF Tryd.prog 74 w' mb (if (C (.agg (u8s s))).isSome then n else n + 1) (updF C (.agg (u8s s)) (some v))) → Hid (Upd (fun i => i = mb) w w') → K (a.put o.dst undef) w') : o.wp Tryd.prog a w K Q := by
  obtain ⟨l, hk⟩ := sum_key hl hs
  obtain ⟨w', hr, h1, h2⟩ := h.update sumLaw Tryd.underlying137 (x := .agg (u8s s)) (v := v) hk
  unfold Oper.wp execOp
  simp only [ho, hm, hx, hy, Sem.run_bind, Sem.run_pure, hr, Result.andThen_ok]
  exact hK w' (Lib.hid h1) (Lib.hid h2)

/-- What a log keeps, its parts by name. -/
structure LogP (w : World) (F : Nat → Prop) (b mb n : Nat) (C : Value → Option Value) (c : Nat) (one two : Value) (cl : Bool) (T : List (List Nat)) : Prop where
  st : w.heap[b]? = some (.cells #[.map (some mb), .int .i64 (c : Int), one, two, .bool cl] 139 (0, 0))
  lm : LogMapC w F mb T n C
  fb : F b
def Clashes (w : World) (F : Nat → Prop) (one two : Value) (cl : Bool) (T : List (List Nat)) : Prop := match clashOf T with | none => cl = false | some (p, q) => cl = true ∧ OwnT w F one p ∧ OwnT w F two q
theorem Clashes.stay {w w' : World} {F : Nat → Prop} {one two : Value} {cl : Bool} {T : List (List Nat)} (h : Clashes w F one two cl T) (hs : ∀ k, F k → k < w.heap.size → w'.heap[k]? = w.heap[k]?) : Clashes w' F one two cl T := by
  unfold Clashes at h ⊢
  cases hq : clashOf T with
  | none => rw [hq] at h; exact h
  | some c => rw [hq] at h; exact ⟨h.1, h.2.1.stay hs, h.2.2.stay hs⟩
theorem Clashes.mono {w : World} {F G : Nat → Prop} {one two : Value} {cl : Bool} {T : List (List Nat)} (h : Clashes w F one two cl T) (hG : ∀ k, F k → G k) : Clashes w G one two cl T := by
  unfold Clashes at h ⊢
  cases hq : clashOf T with
  | none => rw [hq] at h; exact h
  | some c => rw [hq] at h; exact ⟨h.1, h.2.1.mono hG, h.2.2.mono hG⟩
theorem Clashes.away {w : World} {F : Nat → Prop} {one two : Value} {cl : Bool} {T : List (List Nat)} {b : Nat} {c : Array Value} {fr : Nat × Nat} (h : Clashes w F one two cl T) (hb : w.heap[b]? = some (.cells c 139 fr)) : Clashes w (fun k => F k ∧ k ≠ b) one two cl T := by
  unfold Clashes at h ⊢
  cases hq : clashOf T with
  | none => rw [hq] at h; exact h
  | some q => rw [hq] at h; exact ⟨h.1, h.2.1.away hb, h.2.2.away hb⟩
theorem LogP.stay {w w' : World} {F : Nat → Prop} {b mb n c : Nat} {C : Value → Option Value} {one two : Value} {cl : Bool} {T : List (List Nat)} (h : LogP w F b mb n C c one two cl T) (hs : ∀ k, F k → k < w.heap.size → w'.heap[k]? = w.heap[k]?) : LogP w' F b mb n C c one two cl T :=
  ⟨(hs b h.fb (lt_of_block h.st)).trans h.st, h.lm.stay hs, h.fb⟩
theorem LogP.at {w : World} {F : Nat → Prop} {b mb n : Nat} {C : Value → Option Value} {one two : Value} {cl : Bool} {T : List (List Nat)} (h : LogP w F b mb n C T.length one two cl T) (hc : Clashes w F one two cl T) (hn : T.Nodup) : LogAt w F b T :=
  ⟨⟨mb, one, two, cl, h.st, ⟨n, C, h.lm⟩, hc⟩, h.fb, hn⟩

set_option maxHeartbeats 4000000 in
set_option maxRecDepth 100000 in
theorem lsum_any {w : World} {F0 : Nat → Prop} {b : Nat} {T : List (List Nat)} (h0 : LogAt w F0 b T) (ao : Option Addr) (t : List Nat) (m cap : Nat) (em : t.length = m) (ht : TextAt w (.slice ao m cap) t) (hl : m < 1000000000) (hT : T.length < 1000000000) :
    Calls Tryd.prog 64 #[.pointer (some ⟨b, 0, none⟩), .slice ao m cap] w fun e w' => e = .returned (.agg (u8s (sumOf t))) ∧ LogAt w' (fun k => F0 k ∨ w.heap.size ≤ k) b (addT T t) ∧ Upd F0 w w' := by
  have h := h0.tight
  obtain ⟨F, hF⟩ : ∃ F : Nat → Prop, F = fun k => F0 k ∧ k < w.heap.size := ⟨_, rfl⟩
  rw [← hF] at h
  have hF0 : ∀ k, F k → F0 k ∧ k < w.heap.size := fun k hk => by rw [hF] at hk; exact hk
  have hnd := h.nodup
  obtain ⟨mb, one, two, cl, h1, ⟨n, C, h2⟩, h3⟩ := h.ex
  have lp : LogP w F b mb n C T.length one two cl T := ⟨h1, h2, h.inF⟩
  have ck : Clashes w F one two cl T := h3
  clear h1 h2 h3 hF h h0
  have B0 : Below w.heap.size w (w.alloc (.cells (u8s (List.replicate 32 0)) 74)) := (Below.refl _ _).alloc (Nat.le_refl _) _
  have z0 : RowB (w.alloc (.cells (u8s (List.replicate 32 0)) 74)) w.heap.size 74 (List.replicate 32 0) := heap_alloc_new _ _
  have h32 := length_sumOf t
  have hs32 := sumOf_lt t
  have is := infoSum t
  have zs := zeroSum t
  have cs : ∀ wx, TextAt wx (.slice ao m cap) t → Calls Tryd.prog 80 #[.slice ao m cap] wx fun e w' => e = .returned (.agg (u8s (sumOf t))) ∧ Below wx.heap.size wx w' := fun wx hx => by
    obtain ⟨ao', cap', e, c1, c2, c3⟩ := hx.ex
    rw [em] at e
    obtain ⟨rfl, rfl⟩ : ao = ao' ∧ cap = cap' := by injection e with e1 _ e3; exact ⟨e1, e3⟩
    have := sumf_any wx ao cap t c1 c3 c2 (by omega)
    rwa [em] at this
  have t0 := ht.below B0
  have w0s : w.heap.size < (w.alloc (.cells (u8s (List.replicate 32 0)) 74)).heap.size := by simp
  have hmx : t.length ≤ 1000000000 := by omega
  replace lp := Lib.hid lp
  replace ck := Lib.hid ck
  replace B0 := Lib.hid B0
  replace z0 := Lib.hid z0
  replace h32 := Lib.hid h32
  replace hs32 := Lib.hid hs32
  replace cs := Lib.hid cs
  replace t0 := Lib.hid t0
  replace hnd := Lib.hid hnd
  replace hF0 := Lib.hid hF0
  replace ht := Lib.hid ht
  replace em := Lib.hid em
  replace w0s := Lib.hid w0s
  replace hmx := Lib.hid hmx
  go_enter Tryd.func64, Tryd.ntmps64
  go_wp2_with fail
  refine (cs.out _ t0.out).mono ?_
  rintro e w1 ⟨rfl, B1⟩
  have low1 := B0.out.trans (B1.mono B0.out.size)
  have z1 := z0.out.below B1 z0.out.lt
  have t1 := t0.out.below B1
  have w1s : w.heap.size < w1.heap.size := Nat.lt_of_lt_of_le w0s.out B1.size
  replace B1 := Lib.hid B1
  replace low1 := Lib.hid low1
  replace z1 := Lib.hid z1
  replace t1 := Lib.hid t1
  replace w1s := Lib.hid w1s
  go_wp2_with (refine wpList_store_n (by rfl) 74 (.tmp 5) (.tmp 9) rfl (sumOf t) rfl rfl is zs ?_; intro w2 R2 B2)
  have low2 := low1.out.trans (B2.out.mono low1.out.size)
  have z2 := z1.out.below B2.out z1.out.lt
  have t2 := t1.out.below B2.out
  have s2 := R2.out
  have lp2 := lp.out.stay (fun k _ hk => low2.block k hk)
  have ck2 := ck.out.stay (fun k _ hk => low2.block k hk)
  have cm := Lib.hid (lmade_any (lp2.at ck2 hnd.out))
  have w1s2 := w1s.out
  clear R2 B2 B1 cs
  generalize w1.heap.size = g at *
  replace low2 := Lib.hid low2
  replace z2 := Lib.hid z2
  replace t2 := Lib.hid t2
  replace lp2 := Lib.hid lp2
  replace ck2 := Lib.hid ck2
  replace w1s2 := Lib.hid w1s2
  refine cm.out.mono ?_
  rintro e w2' ⟨rfl, rfl⟩
  clear cm
  go_wp2_with fail
  have c0 : w2.drew.cell? ⟨b, 0, none⟩ = some (.map (some mb)) := (cell_of_row _ _ 0 _ _ _ lp2.out.st).trans rfl
  have sd : RowB w2.drew g 74 (sumOf t) := s2
  have lmd : LogMapC w2.drew F mb T n C := lp2.out.lm.stay (fun _ _ _ => rfl)
  obtain ⟨a2, c2, ev, ec2, _, tx⟩ := (lp2.out.lm.row (sumOf t)).texts
  replace lmd := Lib.hid lmd
  replace ec2 := Lib.hid ec2
  replace tx := Lib.hid tx
  refine wp_region_held_drew (S := (fun w' => w'.cell? ⟨b, 0, none⟩ = some (.map (some mb)) ∧ RowB w' g 74 (sumOf t))) (by kernel_rfl) (⟨c0, sd⟩) (fun hHeld => ?_)
  refine held_take (i := 0) (v := ?_) rfl (by kernel_rfl) (by kernel_rfl) (by kernel_rfl) (fun _ _ _ h => h) (Or.inl ⟨by rfl, ?_⟩) (by assumption) ?_
  rotate_left
  · intro w hSw; (try dsimp only at hSw); go_simp; try with_reducible rfl
  try simp only [Act.put, List.setIfInBounds_toArray, List.set_cons_zero, List.set_cons_succ]
  refine held_take (i := 1) (v := ?_) rfl (by kernel_rfl) (by kernel_rfl) (by kernel_rfl) (fun _ _ _ h => h) (Or.inl ⟨by rfl, ?_⟩) (by assumption) ?_
  rotate_left
  · intro w hSw; (try dsimp only at hSw); go_simp; try with_reducible rfl
  try simp only [Act.put, List.setIfInBounds_toArray, List.set_cons_zero, List.set_cons_succ]
  refine held_take (i := 2) (v := ?_) rfl (by kernel_rfl) (by kernel_rfl) (by kernel_rfl) (fun _ _ _ h => h) (Or.inl ⟨by rfl, ?_⟩) (by assumption) ?_
  rotate_left
  · intro w hSw; (try dsimp only at hSw); go_simp; try with_reducible rfl
  try simp only [Act.put, List.setIfInBounds_toArray, List.set_cons_zero, List.set_cons_succ]
  refine held_take (i := 3) (v := ?_) rfl (by kernel_rfl) (by kernel_rfl) (by kernel_rfl) (fun _ _ _ h => h) (Or.inl ⟨by rfl, ?_⟩) (by assumption) ?_
  rotate_left
  · intro w hSw; (try dsimp only at hSw); go_simp; try with_reducible rfl
  try simp only [Act.put, List.setIfInBounds_toArray, List.set_cons_zero, List.set_cons_succ]
  refine held_take (i := 4) (v := _) rfl (by kernel_rfl) (by kernel_rfl) (by kernel_rfl) (fun _ _ _ h => h) (yieldsIf_row (by rfl) rfl rfl Tryd.underlying74 is (fun w' h => h.2)) (by assumption) ?_
  try simp only [Act.put, List.setIfInBounds_toArray, List.set_cons_zero, List.set_cons_succ]
  refine held_ready (i := 5) rfl (by kernel_rfl) (fun K hK => ?_)
  rw [if_pos (by rfl)]
  refine wp_look lmd.out (.tmp 17) (.tmp 18) rfl rfl ev h32.out hs32.out rfl ?_
  refine hK.out _ _ (⟨c0, sd⟩) (fun hHeldN => ?_)
  clear hHeld hK K
  have hHeld := hHeldN
  clear hHeldN
  try simp only [Act.put, List.setIfInBounds_toArray, List.set_cons_zero, List.set_cons_succ]
  refine held_take (i := 6) (v := ?_) rfl (by kernel_rfl) (by kernel_rfl) (by kernel_rfl) (fun _ _ _ h => h) (Or.inl ⟨by rfl, ?_⟩) (by assumption) ?_
  rotate_left
  · intro w hSw; (try dsimp only at hSw); go_simp; try with_reducible rfl
  try simp only [Act.put, List.setIfInBounds_toArray, List.set_cons_zero, List.set_cons_succ]
  refine wpAnyH_done (by kernel_rfl) ?_ _
  clear hHeld
  go_wp2_with fail
  have tx2 : TextsAt w2.drew a2 (bucket T (sumOf t)) := tx.out
  have lenB : (bucket T (sumOf t)).length ≤ T.length := List.length_filter_le _ _
  have ca := Lib.hid (among_any w2.drew (.slice ao m cap) t t2.out.drew a2 (bucket T (sumOf t)) (bucket T (sumOf t)).length c2 rfl tx2 (by omega))
  replace tx2 := Lib.hid tx2
  refine ca.out.mono ?_
  rintro e w3 ⟨rfl, B3⟩
  have low3 := low2.out.drew.trans (B3.mono low2.out.size)
  have B23 : Below w2.heap.size w2 w3 := (Below.refl _ _).drew.trans B3
  have z3 := z2.out.below B23 z2.out.lt
  have t3 := t2.out.below B23
  have s3 := s2.below B23 s2.lt
  have lp3 := lp2.out.stay (fun k _ hk => B23.block k hk)
  have ck3 := ck2.out.stay (fun k _ hk => B23.block k hk)
  clear ca
  replace low3 := Lib.hid low3
  replace z3 := Lib.hid z3
  replace t3 := Lib.hid t3
  replace s3 := Lib.hid s3
  replace lp3 := Lib.hid lp3
  replace ck3 := Lib.hid ck3
  replace B23 := Lib.hid B23
  replace B3 := Lib.hid B3
  by_cases hin : t ∈ T
  · have d : (decide (t ∈ bucket T (sumOf t))) = true := decide_eq_true (mem_bucket.2 ⟨hin, rfl⟩)
    have eT := addT_in hin
    rw [d]
    replace eT := Lib.hid eT
    go_wp2_with (first
      | (refine wpList_load_b (by rfl) 74 (.tmp 5) rfl g rfl 74 (sumOf t) s3.out _ Tryd.underlying74 rfl is ?_)
      | (refine wpList_store_s (by rfl) 74 (.tmp 4) (.tmp 23) rfl w.heap.size (sumOf t) rfl rfl 74 _ z3.out is zs ?_; intro w4 R4 U4))
    refine ret_row rfl rfl w.heap.size 74 _ (0, 0) _ rfl R4.out Tryd.underlying74 rfl is ⟨rfl, ?_, ?_⟩
    · rw [eT.out]
      refine ((lp3.out.stay (fun k hk hk3 => U4.out.block k hk3 (fun e => by have := (hF0.out k hk).2; omega))).at (ck3.out.stay (fun k hk hk3 => U4.out.block k hk3 (fun e => by have := (hF0.out k hk).2; omega))) hnd.out).mono fun k hk => Or.inl (hF0.out k hk).1
    · exact Upd.of_below (low3.out.trans (U4.out.below (fun k hk e => by omega) low3.out.size))
  · have d : (decide (t ∈ bucket T (sumOf t))) = false := decide_eq_false (fun hx => hin (mem_bucket.1 hx).1)
    have eT := addT_out hin
    have ct := Lib.hid (clone_any w3 _ t t3.out hmx.out)
    rw [d]
    replace eT := Lib.hid eT
    go_wp2_with fail
    refine ct.out.mono ?_
    rintro e w4 ⟨v7, rfl, o7, B4⟩
    have low4 := low3.out.trans (B4.mono low3.out.size)
    have z4 := z3.out.below B4 z3.out.lt
    have s4 := s3.out.below B4 s3.out.lt
    have g3 : g < w3.heap.size := s3.out.lt
    have lp4 := (lp3.out.stay (fun k _ hk => B4.block k hk))
    have ck4 := (ck3.out.stay (fun k _ hk => B4.block k hk))
    have ow7 : OwnT w4 (fun k => F k ∨ g < k) v7 t := ⟨o7.weaken (Nat.zero_le _), ht.out.small, fun k hk => Or.inr (by have := (o7.lt k hk).1; omega)⟩
    obtain ⟨a7, c7, e7, _⟩ := ow7.text.ex
    rw [em.out] at e7
    subst e7
    clear ct
    replace low4 := Lib.hid low4
    replace z4 := Lib.hid z4
    replace s4 := Lib.hid s4
    replace lp4 := Lib.hid lp4
    replace ck4 := Lib.hid ck4
    replace B4 := Lib.hid B4
    replace o7 := Lib.hid o7
    replace ow7 := Lib.hid ow7
    replace g3 := Lib.hid g3
    go_wp2_with fail
    have c4 : w4.drew.cell? ⟨b, 0, none⟩ = some (.map (some mb)) := (cell_of_row _ _ 0 _ _ _ lp4.out.st).trans rfl
    have sd4 : RowB w4.drew g 74 (sumOf t) := s4.out
    refine wp_region_held_drew (S := (fun w' => w'.cell? ⟨b, 0, none⟩ = some (.map (some mb)) ∧ RowB w' g 74 (sumOf t))) (by kernel_rfl) (⟨c4, sd4⟩) (fun hHeld => ?_)
    refine held_take (i := 0) (v := ?_) rfl (by kernel_rfl) (by kernel_rfl) (by kernel_rfl) (fun _ _ _ h => h) (Or.inl ⟨by rfl, ?_⟩) (by assumption) ?_
    rotate_left
    · intro w hSw; (try dsimp only at hSw); go_simp; try with_reducible rfl
    try simp only [Act.put, List.setIfInBounds_toArray, List.set_cons_zero, List.set_cons_succ]
    refine held_take (i := 1) (v := ?_) rfl (by kernel_rfl) (by kernel_rfl) (by kernel_rfl) (fun _ _ _ h => h) (Or.inl ⟨by rfl, ?_⟩) (by assumption) ?_
    rotate_left
    · intro w hSw; (try dsimp only at hSw); go_simp; try with_reducible rfl
    try simp only [Act.put, List.setIfInBounds_toArray, List.set_cons_zero, List.set_cons_succ]
    refine held_take (i := 2) (v := ?_) rfl (by kernel_rfl) (by kernel_rfl) (by kernel_rfl) (fun _ _ _ h => h) (Or.inl ⟨by rfl, ?_⟩) (by assumption) ?_
    rotate_left
    · intro w hSw; (try dsimp only at hSw); go_simp; try with_reducible rfl
    try simp only [Act.put, List.setIfInBounds_toArray, List.set_cons_zero, List.set_cons_succ]
    refine held_take (i := 3) (v := ?_) rfl (by kernel_rfl) (by kernel_rfl) (by kernel_rfl) (fun _ _ _ h => h) (Or.inl ⟨by rfl, ?_⟩) (by assumption) ?_
    rotate_left
    · intro w hSw; (try dsimp only at hSw); go_simp; try with_reducible rfl
    try simp only [Act.put, List.setIfInBounds_toArray, List.set_cons_zero, List.set_cons_succ]
    refine held_take (i := 4) (v := _) rfl (by kernel_rfl) (by kernel_rfl) (by kernel_rfl) (fun _ _ _ h => h) (yieldsIf_row (by rfl) rfl rfl Tryd.underlying74 is (fun w' h => h.2)) (by assumption) ?_
    try simp only [Act.put, List.setIfInBounds_toArray, List.set_cons_zero, List.set_cons_succ]
    refine held_take (i := 5) (v := ?_) rfl (by kernel_rfl) (by kernel_rfl) (by kernel_rfl) (fun _ _ _ h => h) (Or.inl ⟨by rfl, ?_⟩) (by assumption) ?_
    rotate_left
    · intro w hSw; (try dsimp only at hSw); go_simp; try with_reducible rfl
    try simp only [Act.put, List.setIfInBounds_toArray, List.set_cons_zero, List.set_cons_succ]
    refine held_take (i := 6) (v := ?_) rfl (by kernel_rfl) (by kernel_rfl) (by kernel_rfl) (fun _ _ _ h => h) (Or.inl ⟨by rfl, ?_⟩) (by assumption) ?_
    rotate_left
    · intro w hSw; (try dsimp only at hSw); go_simp; try with_reducible rfl
    try simp only [Act.put, List.setIfInBounds_toArray, List.set_cons_zero, List.set_cons_succ]
    refine held_ready (i := 7) rfl (by kernel_rfl) (fun K hK => ?_)
    go_simp
    obtain ⟨vs, hvs, hvl, hve⟩ := (lp4.out.lm.row (sumOf t)).ex
    rw [ev] at hvs
    have Ba : Below w4.heap.size w4 ((w4.alloc (.cells #[.slice a7 m c7] 85)).drew) := ((Below.refl _ _).alloc (Nat.le_refl _) _).drew
    have Bd : Below w4.drew.heap.size w4.drew ((w4.alloc (.cells #[.slice a7 m c7] 85)).drew) := (Below.refl w4.drew.heap.size w4.drew).alloc (Nat.le_refl _) (.cells #[.slice a7 m c7] 85)
    have ca4 := (Bd.cell (block_lt_of_cell c4)).trans c4
    have sa4 := sd4.below Bd sd4.lt
    have news : ∀ (j : Nat) (u : Value), [Value.slice a7 m c7][j]? = some u → ((w4.alloc (.cells #[.slice a7 m c7] 85)).drew).cell? (Addr.add ⟨w4.heap.size, 0, none⟩ j) = some u := fun j u hj => cell_one_new w4 (.slice a7 m c7) 85 j u hj
    have hvsA := hvs.below Ba
    have lpA := lp4.out.stay (fun k _ hk => Ba.block k hk)
    have ckA := ck4.out.stay (fun k _ hk => Ba.block k hk)
    have owA : OwnT ((w4.alloc (.cells #[.slice a7 m c7] 85)).drew) (fun k => F k ∨ g < k) (.slice a7 m c7) t := ow7.out.stay (fun k _ hk => Ba.block k hk)
    have lowA := low4.out.trans (Ba.mono low4.out.size)
    have zA := z4.out.below Ba z4.out.lt
    have sizA : vs.length + 1 ≤ 1000000000 := by
      rw [hvl]
      have : (bucket T (sumOf t)).length ≤ T.length := List.length_filter_le _ _
      omega
    have gA : g < ((w4.alloc (.cells #[.slice a7 m c7] 85)).drew).heap.size := by have := s4.out.lt; simp; omega
    replace hvs := Lib.hid hvs
    replace hvl := Lib.hid hvl
    replace hve := Lib.hid hve
    replace Ba := Lib.hid Ba
    replace lpA := Lib.hid lpA
    replace ckA := Lib.hid ckA
    replace owA := Lib.hid owA
    replace lowA := Lib.hid lowA
    replace zA := Lib.hid zA
    replace gA := Lib.hid gA
    refine hK.out _ _ (⟨ca4, sa4⟩) (fun hHeldN => ?_)
    clear hHeld hK K
    have hHeld := hHeldN
    clear hHeldN
    try simp only [Act.put, List.setIfInBounds_toArray, List.set_cons_zero, List.set_cons_succ]
    generalize (w4.alloc (.cells #[.slice a7 m c7] 85)).drew = wa at *
    refine held_ready (i := 8) rfl (by kernel_rfl) (fun K hK => ?_)
    refine step_append_y rfl (.tmp 31) (.tmp 33) 100 rfl 85 Tryd.underlying100 (.slice none 0 0) 24 infoRow rfl (by decide) 0 (.slice a2 (bucket T (sumOf t)).length c2) vs rfl hvsA (Nat.zero_le _) ⟨w4.heap.size, 0, none⟩ 1 1 [.slice a7 m c7] rfl rfl news (by intro u hu; simp at hu; subst hu; rfl) sizA ?_
    intro v8 w8 O8 G8 A8 R8
    have tyb : some b ≠ (Value.slice a2 (bucket T (sumOf t)).length c2).ownBlock := fun e => by
      obtain ⟨cc, hc⟩ := hvs.out.typed e.symm
      rw [lp4.out.st] at hc
      simp at hc
    have tys : some g ≠ (Value.slice a2 (bucket T (sumOf t)).length c2).ownBlock := fun e => by
      obtain ⟨cc, hc⟩ := hvs.out.typed e.symm
      have hs4 : w4.heap[g]? = some (.cells (u8s (sumOf t)) 74 (0, 0)) := s4.out
      rw [hs4] at hc
      simp at hc
    have tyz : some w.heap.size ≠ (Value.slice a2 (bucket T (sumOf t)).length c2).ownBlock := fun e => by
      obtain ⟨cc, hc⟩ := hvs.out.typed e.symm
      have hs4 : w4.heap[w.heap.size]? = some (.cells (u8s (List.replicate 32 0)) 74 (0, 0)) := z4.out
      rw [hs4] at hc
      simp at hc
    have st8 := (G8.out.block b (lt_of_block lpA.out.st) tyb).trans lpA.out.st
    have s8 : RowB w8 g 74 (sumOf t) := sa4.other (G8.out.block g sa4.lt tys)
    have z8 : RowB w8 w.heap.size 74 (List.replicate 32 0) := zA.out.other (G8.out.block _ zA.out.lt tyz)
    have c8 : w8.cell? ⟨b, 0, none⟩ = some (.map (some mb)) := (cell_of_row _ _ 0 _ _ _ st8).trans rfl
    have map8 : MapF Tryd.prog 74 w8 mb n C := lpA.out.lm.map.other (G8.out.block mb lpA.out.lm.map.lt (fun e => lpA.out.lm.map.ne_own hvsA mb e.symm rfl))
    have F8 : ∀ k, v8.ownBlock = some k → F k ∨ g < k := fun k hk => by
      rcases A8.out with e | ⟨g8, e, hge⟩
      · rw [e] at hk
        have := ((lp4.out.lm.row (sumOf t)).inF k)
        rw [ev] at this
        exact Or.inl (this hk)
      · rw [e] at hk
        injection hk with hk
        right; have := gA.out; omega
    have low8 : Upd F0 w w8 := (Upd.of_below lowA.out).grown G8.out (fun k hk hkw => by
      have := ((lp4.out.lm.row (sumOf t)).inF k)
      rw [ev] at this
      exact (hF0.out k (this hk)).1)
    replace st8 := Lib.hid st8
    replace z8 := Lib.hid z8
    replace map8 := Lib.hid map8
    replace F8 := Lib.hid F8
    replace low8 := Lib.hid low8
    refine hK.out _ _ (⟨c8, s8⟩) (fun hHeldN => ?_)
    clear hHeld hK K
    have hHeld := hHeldN
    clear hHeldN
    try simp only [Act.put, List.setIfInBounds_toArray, List.set_cons_zero, List.set_cons_succ]
    refine held_ready (i := 9) rfl (by kernel_rfl) (fun K hK => ?_)
    rw [if_pos (by rfl)]
    refine wp_put map8.out (.tmp 29) (.tmp 30) (.tmp 34) rfl rfl h32.out hs32.out rfl v8 rfl ?_
    intro w9 M9 U9
    have lm9 := (lpA.out.lm.mono (fun k hk => (Or.inl hk : F k ∨ g < k))).add ev.symm hvsA hvl.out (fun i u x hu hx => ((hve.out i u x hu hx).stay (fun k _ hk => Ba.out.block k hk)).mono (fun k hk => Or.inl hk)) owA.out h32.out hs32.out O8.out G8.out A8.out F8.out M9.out U9.out
    have hbm : b ≠ mb := fun e => by
      obtain ⟨es, clock, q1, _⟩ := map8.out.ex
      rw [← e, st8.out] at q1
      simp at q1
    have st9 := (U9.out.block b (lt_of_block st8.out) hbm).trans st8.out
    have hgm : g ≠ mb := fun e => by have := (hF0.out mb lpA.out.lm.inF).2; have := w1s2.out; omega
    have s9 : RowB w9 g 74 (sumOf t) := s8.other (U9.out.block g s8.lt hgm)
    have z9 : RowB w9 w.heap.size 74 (List.replicate 32 0) := z8.out.other (U9.out.block _ z8.out.lt (fun e => by have := (hF0.out mb lpA.out.lm.inF).2; omega))
    have c9 : w9.cell? ⟨b, 0, none⟩ = some (.map (some mb)) := (cell_of_row _ _ 0 _ _ _ st9).trans rfl
    have low9 : Upd F0 w w9 := low8.out.trans U9.out (fun k _ e => by rw [e]; exact (hF0.out mb lpA.out.lm.inF).1)
    replace lm9 := Lib.hid lm9
    replace st9 := Lib.hid st9
    replace z9 := Lib.hid z9
    replace low9 := Lib.hid low9
    replace U9 := Lib.hid U9
    replace M9 := Lib.hid M9
    refine hK.out _ _ (⟨c9, s9⟩) (fun hHeldN => ?_)
    clear hHeld hK K
    have hHeld := hHeldN
    clear hHeldN
    try simp only [Act.put]
    refine wpAnyH_done (by kernel_rfl) ?_ _
    clear hHeld
    have ck9 : Clashes w9 (fun k => F k ∨ g < k) one two cl T := by
      have h0 := ckA.out
      unfold Clashes at h0 ⊢
      cases hq : clashOf T with
      | none => rw [hq] at h0; exact h0
      | some c =>
        rw [hq] at h0
        exact ⟨h0.1, (h0.2.1.through hvsA lpA.out.lm.map G8.out U9.out).mono (fun k hk => Or.inl hk), (h0.2.2.through hvsA lpA.out.lm.map G8.out U9.out).mono (fun k hk => Or.inl hk)⟩
    have own9 : OwnT w9 (fun k => F k ∨ g < k) (.slice a7 m c7) t := owA.out.through hvsA lpA.out.lm.map G8.out U9.out
    have hc1 : w9.cell? ⟨b, 1, none⟩ = some (.int .i64 (T.length : Int)) := (cell_of_row _ _ 1 _ _ _ st9).trans rfl
    have hf1 : w9.frozen? ⟨b, 1, none⟩ = false := frozen_of_row _ _ _ _ _ st9
    have hc4 : w9.cell? ⟨b, 4, none⟩ = some (.bool cl) := (cell_of_row _ _ 4 _ _ _ st9).trans rfl
    have wr1 : IntKind.i64.wrap ((T.length : Int) + 1) = ((T.length + 1 : Nat) : Int) := by rw [IntWalk.i64_in _ (by omega)]; omega
    have hnT := nodup_addT hnd.out t
    rw [eT.out] at hnT
    have lenT : (T ++ [t]).length = T.length + 1 := by simp
    -- what the row is, whatever its last three cells come to
    have fin : ∀ (wx : World) (o' t' : Value) (cl' : Bool), wx.heap[b]? = some (.cells #[.map (some mb), .int .i64 ((T.length + 1 : Nat) : Int), o', t', .bool cl'] 139 (0, 0)) → Upd (fun k => k = b ∨ k = w.heap.size) w9 wx → Clashes w9 (fun k => F k ∨ g < k) o' t' cl' (T ++ [t]) →
        LogAt wx (fun k => F0 k ∨ w.heap.size ≤ k) b (addT T t) ∧ Upd F0 w wx := fun wx o' t' cl' hrow hU hck => by
      rw [eT.out]
      have hbb := (hF0.out b lpA.out.fb)
      have keep : ∀ k, ((F k ∨ g < k) ∧ k ≠ b) → k < w9.heap.size → wx.heap[k]? = w9.heap[k]? := fun k hk hk9 => hU.block k hk9 (fun e => by
        rcases e with e | e
        · exact hk.2 e
        · rcases hk.1 with hk | hk
          · have := (hF0.out k hk).2; omega
          · have := w1s2.out; omega)
      have hin : ∀ k, (F k ∨ g < k) → (F0 k ∨ w.heap.size ≤ k) := fun k hk => by
        rcases hk with hk | hk
        · exact Or.inl (hF0.out k hk).1
        · right; have := w1s2.out; omega
      refine ⟨⟨⟨mb, o', t', cl', ?_, ⟨_, _, ((lm9.out.away st9.out).stay keep).mono (fun k hk => hin k hk.1)⟩, ?_⟩, Or.inl hbb.1, hnT⟩, ?_⟩
      · rw [lenT]; exact hrow
      · exact ((hck.away st9.out).stay keep).mono (fun k hk => hin k hk.1)
      · exact low9.out.trans hU (fun k hk e => by
          rcases e with e | e
          · rw [e]; exact hbb.1
          · omega)
    have sl9 := s9.lt
    have zl9 := z9.lt
    have hzb : w.heap.size ≠ b := fun e => by have := (hF0.out b lpA.out.fb).2; omega
    have hgb : g ≠ b := fun e => by have := (hF0.out b lpA.out.fb).2; have := w1s2.out; omega
    have hb9 := lt_of_block st9.out
    obtain ⟨wS, hwS⟩ : ∃ wS, wS = w9.setCell ⟨b, 1, none⟩ (.int .i64 ((T.length : Int) + 1)) := ⟨_, rfl⟩
    have stS : wS.heap[b]? = some (.cells #[.map (some mb), .int .i64 ((T.length : Int) + 1), one, two, .bool cl] 139 (0, 0)) := by rw [hwS, heap_setCell_same _ _ _ _ _ _ st9.out]; rfl
    have sS : RowB wS g 74 (sumOf t) := by rw [hwS]; exact s9.other (heap_setCell_other _ _ _ _ hgb)
    have zS : RowB wS w.heap.size 74 (List.replicate 32 0) := by rw [hwS]; exact z9.out.other (heap_setCell_other _ _ _ _ hzb)
    have uS : Upd (fun k => k = b ∨ k = w.heap.size) w9 wS := by rw [hwS]; exact (Upd.refl _ _).setCell ⟨b, 1, none⟩ _ (fun _ => Or.inl rfl)
    subst hwS
    by_cases hnew : (bucket T (sumOf t) ≠ [] ∧ cl = false)
    · obtain ⟨hbk, rfl⟩ := hnew
      obtain ⟨k0, l0, ek⟩ : ∃ k0 l0, bucket T (sumOf t) = k0 :: l0 := by
        cases hq : bucket T (sumOf t) with
        | nil => exact absurd hq hbk
        | cons k l => exact ⟨k, l, rfl⟩
      have hlb : 0 < (bucket T (sumOf t)).length := by rw [ek]; simp
      have hcn : clashOf T = none := by
        have h0 := ck9
        unfold Clashes at h0
        cases hq : clashOf T with
        | none => rfl
        | some c => rw [hq] at h0; exact absurd h0.1 (by decide)
      have hlv : 0 < vs.length := by rw [hvl.out]; exact hlb
      have ev0 : vs[0]? = some vs[0] := List.getElem?_eq_getElem hlv
      have hu0 := (hve.out 0 _ k0 ev0 (by rw [ek]; rfl)).stay (fun k _ hk => Ba.out.block k hk)
      have hu9 := (hu0.through hvsA lpA.out.lm.map G8.out U9.out).mono (fun k hk => (Or.inl hk : F k ∨ g < k))
      obtain ⟨ao0, cap0, e0, _⟩ := hu9.text.ex
      obtain ⟨aoR, capR, eR, _, _, _, _, hcells⟩ := hvs.out.form
      obtain ⟨gr, er, hcr, _⟩ := hcells 0 _ ev0
      obtain ⟨rfl, _⟩ : a2 = aoR ∧ c2 = capR := by injection eR with e1 _ e3; exact ⟨e1, e3⟩
      subst er
      have h8 := R8.out gr 0 _ rfl ev0
      have hgrm : gr ≠ mb := fun e => lpA.out.lm.map.ne_own hvsA gr rfl e
      have h9 : w9.cell? ⟨gr, 0, none⟩ = some vs[0] := (U9.out.cell (block_lt_of_cell h8) hgrm).trans h8
      have hgrb : gr ≠ b := fun e => by
        obtain ⟨cc, hc⟩ := hvs.out.typed (k := gr) rfl
        rw [e, lp4.out.st] at hc
        simp at hc
      rw [e0] at h9 hu9
      generalize k0.length = m0 at *
      obtain ⟨wT, hwT⟩ : ∃ wT, wT = (((w9.setCell ⟨b, 1, none⟩ (.int .i64 ((T.length : Int) + 1))).setCell ⟨b, 2, none⟩ (.slice ao0 m0 cap0)).setCell ⟨b, 3, none⟩ (.slice a7 m c7)).setCell ⟨b, 4, none⟩ (.bool true) := ⟨_, rfl⟩
      have st2 := heap_setCell_same _ b 2 _ _ (.slice ao0 m0 cap0) stS
      have st3 := heap_setCell_same _ b 3 _ _ (.slice a7 m c7) st2
      have st4 := heap_setCell_same _ b 4 _ _ (.bool true) st3
      rw [← hwT] at st4
      have sT : RowB wT g 74 (sumOf t) := by rw [hwT]; exact ((sS.other (heap_setCell_other _ _ _ _ hgb)).other (heap_setCell_other _ _ _ _ hgb)).other (heap_setCell_other _ _ _ _ hgb)
      have zT : RowB wT w.heap.size 74 (List.replicate 32 0) := by rw [hwT]; exact ((zS.other (heap_setCell_other _ _ _ _ hzb)).other (heap_setCell_other _ _ _ _ hzb)).other (heap_setCell_other _ _ _ _ hzb)
      have uT : Upd (fun k => k = b ∨ k = w.heap.size) w9 wT := by rw [hwT]; exact ((uS.setCell ⟨b, 2, none⟩ _ (fun _ => Or.inl rfl)).setCell ⟨b, 3, none⟩ _ (fun _ => Or.inl rfl)).setCell ⟨b, 4, none⟩ _ (fun _ => Or.inl rfl)
      have ckN : Clashes w9 (fun k => F k ∨ g < k) (.slice ao0 m0 cap0) (.slice a7 m c7) true (T ++ [t]) := by
        unfold Clashes
        rw [clashOf_snoc, hcn, ek]
        exact ⟨rfl, hu9, own9⟩
      have hf2 : w9.frozen? ⟨b, 2, none⟩ = false := frozen_of_row _ _ _ _ _ st9.out
      have hf3 : w9.frozen? ⟨b, 3, none⟩ = false := frozen_of_row _ _ _ _ _ st9.out
      have hf4 : w9.frozen? ⟨b, 4, none⟩ = false := frozen_of_row _ _ _ _ _ st9.out
      have hc2 : w9.cell? ⟨b, 2, none⟩ = some one := (cell_of_row _ _ 2 _ _ _ st9.out).trans rfl
      have hc3 : w9.cell? ⟨b, 3, none⟩ = some two := (cell_of_row _ _ 3 _ _ _ st9.out).trans rfl
      subst hwT
      have i0 : decide ((0 : Int) < ((bucket T (sumOf t)).length : Int)) = true := decide_eq_true (by omega)
      generalize (bucket T (sumOf t)).length = lb at *
      have d : decide ((lb : Int) > 0) = true := decide_eq_true (by omega)
      clear ca4 sa4 s9 stS sS zS uS st2 st3 h8 hcells hcr eR hgrm i0
      replace e0 := Lib.hid e0
      replace ck9 := Lib.hid ck9
      replace own9 := Lib.hid own9
      replace hnT := Lib.hid hnT
      replace lenT := Lib.hid lenT
      replace fin := Lib.hid fin
      replace z9 := Lib.hid z9
      replace ckN := Lib.hid ckN
      replace st9 := Lib.hid st9
      replace low9 := Lib.hid low9
      replace st4 := Lib.hid st4
      replace sT := Lib.hid sT
      replace zT := Lib.hid zT
      replace uT := Lib.hid uT
      replace hu0 := Lib.hid hu0
      replace hu9 := Lib.hid hu9
      replace ev0 := Lib.hid ev0
      replace ek := Lib.hid ek
      replace hbk := Lib.hid hbk
      replace hcn := Lib.hid hcn
      replace hlv := Lib.hid hlv
      go_wp2_with (first
        | (refine wpList_load_b (by rfl) 74 (.tmp 5) rfl g rfl 74 (sumOf t) ?hh _ Tryd.underlying74 rfl is ?_; case hh => exact sT.out)
        | (refine wpList_store_s (by rfl) 74 (.tmp 4) (.tmp 65) rfl w.heap.size (sumOf t) rfl rfl 74 _ ?hh is zs ?_; case hh => exact zT.out
           intro wx Rx Ux))
      refine ret_row rfl rfl w.heap.size 74 _ (0, 0) _ rfl Rx.out Tryd.underlying74 rfl is ⟨rfl, fin.out wx (.slice ao0 m0 cap0) (.slice a7 m c7) true ?_ ?_ ckN.out⟩
      · rw [Ux.out.block b (lt_of_block st4.out) (fun e => hzb e.symm)]
        have := st4.out
        rw [show ((T.length : Int) + 1) = ((T.length + 1 : Nat) : Int) by omega] at this
        exact this
      · exact uT.out.trans Ux.out (fun k _ e => Or.inr e)
    · have ckN : Clashes w9 (fun k => F k ∨ g < k) one two cl (T ++ [t]) := by
        have h0 := ck9
        unfold Clashes at h0 ⊢
        rw [clashOf_snoc]
        cases hq : clashOf T with
        | some c => rw [hq] at h0; exact h0
        | none =>
          rw [hq] at h0
          cases hbk : bucket T (sumOf t) with
          | nil => exact h0
          | cons k l => exact absurd ⟨by rw [hbk]; simp, h0⟩ hnew
      have dn : 0 < (bucket T (sumOf t)).length → cl = true := fun h => by
        cases hcl : cl with
        | true => rfl
        | false => exact absurd ⟨fun e => by rw [e] at h; simp at h, hcl⟩ hnew
      clear hnew
      generalize (bucket T (sumOf t)).length = lb at *
      clear ca4 sa4 s9
      replace ck9 := Lib.hid ck9
      replace own9 := Lib.hid own9
      replace hnT := Lib.hid hnT
      replace lenT := Lib.hid lenT
      replace fin := Lib.hid fin
      replace z9 := Lib.hid z9
      replace ckN := Lib.hid ckN
      replace st9 := Lib.hid st9
      replace low9 := Lib.hid low9
      replace stS := Lib.hid stS
      replace sS := Lib.hid sS
      replace zS := Lib.hid zS
      replace uS := Lib.hid uS
      by_cases hlb : 0 < lb
      · obtain rfl := dn hlb
        have d : decide ((lb : Int) > 0) = true := decide_eq_true (by omega)
        go_wp2_with (first
          | (refine wpList_load_b (by rfl) 74 (.tmp 5) rfl g rfl 74 (sumOf t) sS.out _ Tryd.underlying74 rfl is ?_)
          | (refine wpList_store_s (by rfl) 74 (.tmp 4) (.tmp 65) rfl w.heap.size (sumOf t) rfl rfl 74 _ zS.out is zs ?_; intro wx Rx Ux))
        refine ret_row rfl rfl w.heap.size 74 _ (0, 0) _ rfl Rx.out Tryd.underlying74 rfl is ⟨rfl, fin.out wx one two true ?_ ?_ ckN.out⟩
        · rw [Ux.out.block b (lt_of_block stS.out) (fun e => hzb e.symm)]
          have := stS.out
          rwa [show ((T.length : Int) + 1) = ((T.length + 1 : Nat) : Int) by omega] at this
        · exact uS.out.trans Ux.out (fun k _ e => Or.inr e)
      · have d : decide ((lb : Int) > 0) = false := decide_eq_false (by omega)
        go_wp2_with (first
          | (refine wpList_load_b (by rfl) 74 (.tmp 5) rfl g rfl 74 (sumOf t) sS.out _ Tryd.underlying74 rfl is ?_)
          | (refine wpList_store_s (by rfl) 74 (.tmp 4) (.tmp 65) rfl w.heap.size (sumOf t) rfl rfl 74 _ zS.out is zs ?_; intro wx Rx Ux))
        refine ret_row rfl rfl w.heap.size 74 _ (0, 0) _ rfl Rx.out Tryd.underlying74 rfl is ⟨rfl, fin.out wx one two cl ?_ ?_ ckN.out⟩
        · rw [Ux.out.block b (lt_of_block stS.out) (fun e => hzb e.symm)]
          have := stS.out
          rwa [show ((T.length : Int) + 1) = ((T.length + 1 : Nat) : Int) by omega] at this
        · exact uS.out.trans Ux.out (fun k _ e => Or.inr e)
end Go.Proofs.YtjhfoddhpmmjoaaDoor
