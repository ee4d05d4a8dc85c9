/-
  A pool under way: what its calls leave, and its numbers. Condition: its blocks are its own.
  What a pool's disk shows behind writes and turns; a text just made; what two unlike sums tell. No condition.
-/
import Derived.Test.YtjhfoddhpmmjoaaDoorQPoolNew
namespace Go.Proofs.YtjhfoddhpmmjoaaDoor
set_option maxRecDepth 100000
open Go.RowKit Go.Maps

section
variable {w w' w0 : World} {l : Pl} {R R' : Nat → Prop} {s s' : Ps}
theorem PoolAt.field (h : PoolAt w l R s) : FieldAt w l.fb l.rb l.rr l.rm s.n s.m s.L s.E ∧ ∀ w' m' L' E', FieldAt w' l.fb l.rb l.rr l.rm s.n m' L' E' → Upd (Four l.fb l.rb l.rr l.rm) w w' → PoolAt w' l R { s with m := m', L := L', E := E' } ∧ (∀ k, R k → (R k ∨ w.heap.size ≤ k) ∧ k < w'.heap.size) ∧ Upd R w w' := by
  obtain ⟨FD, FL, h1, h2⟩ := h
  refine ⟨h1.field, fun w' m' L' E' hf hU => ⟨⟨FD, FL, h1.turnE hf hU, h2⟩, fun k hk => ⟨.inl hk, Nat.lt_of_lt_of_le (h1.alt ((h2 k).1 hk)) hU.size⟩, hU.mono fun k _ hk => (h2 k).2 (.inr (.inr (.inl hk)))⟩⟩
theorem PoolAt.disk (h : PoolAt w l R s) : ∃ FD : Nat → Prop, DiskAt w FD l.db s.D ∧ (∀ k, FD k → R k) ∧ ∀ w' D', DiskAt w' (fun k => FD k ∨ w.heap.size ≤ k) l.db D' → Upd FD w w' → D'.n = s.D.n → ∃ R', PoolAt w' l R' { s with D := D' } ∧ (∀ k, R' k → (R k ∨ w.heap.size ≤ k) ∧ k < w'.heap.size) ∧ Upd R w w' := by
  obtain ⟨FD, FL, h1, h2⟩ := h
  refine ⟨FD, h1.disk, fun k hk => (h2 k).2 (.inl hk), fun w' D' hd hU hn => ?_⟩
  have P := h1.turnD hd.tight hU (fun k hk => hk) hn
  refine ⟨_, ⟨_, FL, P, fun _ => Iff.rfl⟩, fun k hk => ⟨?_, P.alt hk⟩, hU.mono fun k _ hk => (h2 k).2 (.inl hk)⟩
  rcases hk with hk | hk | hk | hk
  · exact hk.1.imp (fun q => (h2 k).2 (.inl q)) id
  · exact .inl ((h2 k).2 (.inr (.inl hk)))
  · exact .inl ((h2 k).2 (.inr (.inr (.inl hk))))
  · exact .inl ((h2 k).2 (.inr (.inr (.inr hk))))
theorem pfield_at (h : PoolAt w l R s) : Calls Tryd.prog 37 #[.pointer (some ⟨l.p, 0, none⟩)] w fun e w' => e = .returned (.pointer (some ⟨l.fb, 0, none⟩)) ∧ w = w' := by
  obtain ⟨FD, FL, h1, h2⟩ := h; exact pfield_any h1
theorem pclash_at (h : PoolAt w l R s) (hl : ∀ t ∈ s.T, t.length ≤ 1000000000) : Calls Tryd.prog 38 #[.pointer (some ⟨l.p, 0, none⟩)] w fun e w' => e = .returned (.bool (clashOf s.T).isSome) ∧ Below w.heap.size w w' := by
  obtain ⟨FD, FL, h1, h2⟩ := h; exact pclash_any h1 hl
/-- A pool of a law's own. -/
structure PlSt (w0 w : World) (l : Pl) (R : Nat → Prop) (s : Ps) : Prop where
  p : PoolAt w l R s
  lo : ∀ k, R k → w0.heap.size ≤ k
  low : Below w0.heap.size w0 w
theorem PlSt.below (h : PlSt w0 w l R s) (hB : Below w.heap.size w w') : PlSt w0 w' l R s := ⟨h.p.below hB, h.lo, h.low.trans (hB.mono h.low.size)⟩
theorem PlSt.drew (h : PlSt w0 w l R s) : PlSt w0 w.drew l R s := h.below (Below.refl _ _).drew
theorem PlSt.turn (h : PlSt w0 w l R s) (p' : PoolAt w' l R' s') (hk : ∀ k, R' k → (R k ∨ w.heap.size ≤ k) ∧ k < w'.heap.size) (hU : Upd R w w') : PlSt w0 w' l R' s' := by
  have hz := h.low.size
  exact ⟨p', fun k hr => (hk k hr).1.elim (h.lo k) (fun q => by omega), h.low.trans (hU.below (fun k hk hr => by have := h.lo k hr; omega) hz)⟩
theorem PlSt.stay {S : Nat → Prop} (h : PlSt w0 w l R s) (hU : Upd S w w') (hs : ∀ k, R k → ¬ S k) (h0 : ∀ k, S k → w0.heap.size ≤ k) : PlSt w0 w' l R s := by
  obtain ⟨FD, FL, h1, h2⟩ := h.p
  exact ⟨⟨FD, FL, h1.stay hU (fun k hk => hs k ((h2 k).2 hk)), h2⟩, h.lo, h.low.trans (hU.below (fun k hk hr => by have := h0 k hr; omega) h.low.size)⟩
/-- A disk and a log, just made. -/
theorem pool_parts {w w1 w2 : World} {db lb : Nat} {D : Dk} (hd : DiskAt w1 (fun k => w.heap.size ≤ k) db D) (hl : LogAt w2 (fun k => w1.heap.size ≤ k) lb []) (B1 : Below w.heap.size w w1) (B2 : Below w1.heap.size w1 w2) :
    ∃ FD FL : Nat → Prop, DiskAt w2 FD db D ∧ LogAt w2 FL lb [] ∧ (∀ k, FD k → k < w2.heap.size ∧ ¬ FL k) ∧ (∀ k, FL k → k < w2.heap.size) ∧ ∀ k, (FD k ∨ FL k) → w.heap.size ≤ k := by
  have s1 := B1.size
  have s2 := B2.size
  refine ⟨_, _, hd.tight.below B2, hl.tight, fun k hk => ⟨by have := hk.2; omega, fun e => by have := hk.2; have := e.1; omega⟩, fun k hk => hk.2, fun k hk => ?_⟩
  rcases hk with hk | hk
  · exact hk.1
  · have := hk.1; omega
theorem PoolP.made {w w2 w' : World} {l : Pl} {FD FL : Nat → Prop} {s : Ps} (h : PoolP w' l FD FL s) (h0 : ∀ k, (FD k ∨ FL k) → w.heap.size ≤ k) (h1 : ∀ k, l.field k ∨ l.own k → w2.heap.size ≤ k ∧ k < w'.heap.size) (B2 : Below w.heap.size w w2) (B3 : Below w2.heap.size w2 w') : PlSt w w' l (l.all FD FL) s := by
  have s2 := B2.size
  refine ⟨⟨FD, FL, h, fun _ => Iff.rfl⟩, fun k hk => ?_, B2.trans (B3.mono s2)⟩
  rcases hk with hk | hk | hk | hk
  · exact h0 k (.inl hk)
  · exact h0 k (.inr hk)
  · have := (h1 k (.inl hk)).1; omega
  · have := (h1 k (.inr hk)).1; omega
end
/-! ### The numbers -/
structure Ps.Le (s : Ps) (k : Nat) : Prop where
  m : s.m ≤ 2 * k
  calls : s.D.calls ≤ k
  waits : s.D.waits.length ≤ k
  texts : s.T.length ≤ k
  left : s.D.left ≤ 9223372036854775807
theorem Ps.Le.ok {s : Ps} {k : Nat} (h : s.Le k) (hk : k < 10000000) : s.Ok := ⟨by have := h.calls; omega, h.left, by have := h.waits; omega, by have := h.texts; omega, by have := h.m; omega⟩
theorem Ps.Le.mono {s : Ps} {k j : Nat} (h : s.Le k) (hk : k ≤ j) : s.Le j := ⟨by have := h.m; omega, by have := h.calls; omega, by have := h.waits; omega, by have := h.texts; omega, h.left⟩
theorem addT_len (T : List (List Nat)) (t : List Nat) : (addT T t).length ≤ T.length + 1 := by
  by_cases h : t ∈ T
  · rw [addT_in h]; omega
  · rw [addT_out h]; simp
theorem changeD_le (D : Dk) : D.changeD.calls ≤ D.calls + 1 ∧ D.changeD.left ≤ D.left ∧ D.changeD.waits = D.waits ∧ D.changeD.shown = D.shown := by
  unfold Dk.changeD
  split
  · exact ⟨Nat.le_succ _, Nat.le_refl _, rfl, rfl⟩
  · refine ⟨Nat.le_refl _, ?_, rfl, rfl⟩
    show (if D.plan = true then D.left - 1 else D.left) ≤ D.left
    split <;> omega
theorem writeD_le (D : Dk) (s : Nat) (t : List Nat) : (D.writeD s t).calls ≤ D.calls + 1 ∧ (D.writeD s t).left ≤ D.left ∧ (D.writeD s t).waits.length ≤ D.waits.length + 1 := by
  obtain ⟨h1, h2, h3, _⟩ := changeD_le D
  unfold Dk.writeD
  split
  · exact ⟨Nat.le_succ _, Nat.le_refl _, Nat.le_succ _⟩
  · split
    · exact ⟨h1, h2, by simp⟩
    · exact ⟨h1, h2, by rw [h3]; omega⟩
theorem PutRel.le {s s' : Ps} {t E : Int} {b sum : List Nat} {x k : Nat} (h : PutRel s t b x sum E s') (hk : s.Le k) : s'.Le (k + 1) := by
  by_cases h1 : b.length = 512
  · by_cases h2 : takeE s.n s.E t = 0
    · obtain ⟨y, _, _, _, h3⟩ := h.done h1 h2
      obtain ⟨w1, w2, w3⟩ := writeD_le s.D (s.start + y) b
      have a1 := hk.m
      have a2 := hk.calls
      have a3 := hk.waits
      have a4 := hk.texts
      have a5 := hk.left
      have a6 := addT_len s.T b
      rcases h3 with ⟨_, _, _, _, rfl⟩ | ⟨_, _, _, _, rfl⟩
      · exact ⟨by show s.m + 2 ≤ _; omega, by show (s.D.writeD _ _).calls ≤ _; omega, by show (s.D.writeD _ _).waits.length ≤ _; omega, by show s.T.length ≤ _; omega, by show (s.D.writeD _ _).left ≤ _; omega⟩
      · exact ⟨by show s.m + 1 ≤ _; omega, by show (s.D.writeD _ _).calls ≤ _; omega, by show (s.D.writeD _ _).waits.length ≤ _; omega, by show (addT s.T b).length ≤ _; omega, by show (s.D.writeD _ _).left ≤ _; omega⟩
    · obtain ⟨_, rfl, _⟩ := h.full h1 h2
      exact hk.mono (Nat.le_succ k)
  · obtain ⟨_, rfl, _⟩ := h.long h1
    exact hk.mono (Nat.le_succ k)
theorem Ps.Le.add {s : Ps} {k : Nat} (h : s.Le k) (t : List Nat) : ({ s with T := addT s.T t } : Ps).Le (k + 1) :=
  ⟨by have := h.m; show s.m ≤ _; omega, by have := h.calls; show s.D.calls ≤ _; omega, by have := h.waits; show s.D.waits.length ≤ _; omega, by have := h.texts; have := addT_len s.T t; show (addT s.T t).length ≤ _; omega, h.left⟩
theorem Ps.Le.set {s : Ps} {k m' : Nat} {L' : Nat → Nat} {E' : Nat → Ten} (h : s.Le k) (hm : m' ≤ s.m + 2) : ({ s with m := m', L := L', E := E' } : Ps).Le (k + 1) :=
  ⟨by have := h.m; show m' ≤ _; omega, by have := h.calls; show s.D.calls ≤ _; omega, by have := h.waits; show s.D.waits.length ≤ _; omega, by have := h.texts; show s.T.length ≤ _; omega, h.left⟩
/-- All texts are short. -/
def Short (T : List (List Nat)) : Prop := ∀ t ∈ T, t.length ≤ 1000000000
theorem Short.add {T : List (List Nat)} (h : Short T) {t : List Nat} (ht : t.length ≤ 1000000000) : Short (addT T t) := by
  by_cases hin : t ∈ T
  · rw [addT_in hin]; exact h
  · rw [addT_out hin]
    intro x hx
    rcases List.mem_append.1 hx with hx | hx
    · exact h x hx
    · rw [List.mem_singleton.1 hx]; exact ht
end Go.Proofs.YtjhfoddhpmmjoaaDoor
namespace Go.Proofs.YtjhfoddhpmmjoaaDoor
set_option maxRecDepth 100000
open Go.RowKit Go.Maps

theorem changeD_ok {D : Dk} (h : D.changeE = 0) : D.changeD.down = D.down ∧ D.changeD.n = D.n ∧ D.changeD.plan = D.plan := by
  unfold Dk.changeE at h
  unfold Dk.changeD
  split
  · rename_i q; rw [if_pos q] at h; exact absurd h (by decide)
  · exact ⟨rfl, rfl, rfl⟩
theorem write_ok {D : Dk} {s : Nat} {t : List Nat} (h : D.writeE s t.length = 0) : D.writeD s t = { D.changeD with shown := updM D.shown s t, waits := D.waits ++ [(s, t)] } ∧ D.down = false ∧ s < D.n ∧ t.length = 512 ∧ D.changeE = 0 := by
  unfold Dk.writeE at h
  split at h
  · exact absurd h (by decide)
  · rename_i h1
    split at h
    · exact absurd h (by decide)
    · rename_i h2
      split at h
      · exact absurd h (by decide)
      · rename_i h3
        have h3' : t.length = 512 := by simpa using h3
        refine ⟨?_, by simpa using h1, by omega, h3', h⟩
        unfold Dk.writeD
        rw [if_neg (by rintro (e | e | e); exact h1 e; exact h2 e; exact h3 e), if_pos h]
theorem write_look {D : Dk} {s : Nat} {t : List Nat} (h : D.writeE s t.length = 0) : (D.writeD s t).look s = t ∧ (∀ k, k ≠ s → (D.writeD s t).look k = D.look k) ∧ (D.writeD s t).down = false := by
  obtain ⟨e, hd, _, _, hc⟩ := write_ok h
  rw [e]
  refine ⟨?_, fun k hk => ?_, ?_⟩
  · unfold Dk.look; show (updM D.shown s t s).getD _ = t; rw [updM_same]; rfl
  · unfold Dk.look; show (updM D.shown s t k).getD _ = _; rw [updM_other _ _ hk]
  · show D.changeD.down = false; rw [(changeD_ok hc).1, hd]
theorem write_no {D : Dk} {s : Nat} {t : List Nat} (h : D.writeE s t.length ≠ 0) (k : Nat) : (D.writeD s t).look k = D.look k := by
  obtain ⟨_, _, _, hs⟩ := changeD_le D
  have e2 : D.changeD.look k = D.look k := by unfold Dk.look; rw [hs]
  unfold Dk.writeD
  split
  · rfl
  · split
    · rename_i h1 h2
      exfalso
      apply h
      unfold Dk.writeE
      rw [if_neg (fun e => h1 (.inl e)), if_neg (fun e => h1 (.inr (.inl e))), if_neg (fun e => h1 (.inr (.inr e)))]
      exact h2
    · exact e2
theorem tamper_look {D : Dk} {s : Nat} {t : List Nat} (h1 : s < D.n) (h2 : t.length = 512) : D.tamperE s t.length = 0 ∧ (D.tamperD s t).look s = t ∧ (∀ k, k ≠ s → (D.tamperD s t).look k = D.look k) := by
  have e : D.tamperD s t = { D with sure := updM D.sure s t, shown := updM D.shown s t, waits := D.waits.filter fun p => p.1 != s } := by
    unfold Dk.tamperD; rw [if_neg (by rintro (e | e); omega; exact e h2)]
  refine ⟨?_, ?_, fun k hk => ?_⟩
  · unfold Dk.tamperE; rw [if_neg (by omega), if_neg (fun e => e h2)]
  · rw [e]; unfold Dk.look; show (updM D.shown s t s).getD _ = t; rw [updM_same]; rfl
  · rw [e]; unfold Dk.look; show (updM D.shown s t k).getD _ = _; rw [updM_other _ _ hk]
theorem tamperD_same (D : Dk) (s : Nat) (t : List Nat) : (D.tamperD s t).n = D.n ∧ (D.tamperD s t).down = D.down ∧ (D.tamperD s t).calls = D.calls ∧ (D.tamperD s t).left = D.left ∧ (D.tamperD s t).plan = D.plan ∧ (D.tamperD s t).waits.length ≤ D.waits.length := by
  unfold Dk.tamperD
  split
  · exact ⟨rfl, rfl, rfl, rfl, rfl, Nat.le_refl _⟩
  · exact ⟨rfl, rfl, rfl, rfl, rfl, List.length_filter_le _ _⟩
theorem Ps.Le.tamper {s : Ps} {k : Nat} (h : s.Le k) (a : Nat) (t : List Nat) : ({ s with D := s.D.tamperD a t } : Ps).Le k := by
  obtain ⟨_, _, e3, e4, _, e6⟩ := tamperD_same s.D a t
  exact ⟨h.m, by show (s.D.tamperD a t).calls ≤ _; rw [e3]; exact h.calls, by show (s.D.tamperD a t).waits.length ≤ _; exact Nat.le_trans e6 h.waits, h.texts, by show (s.D.tamperD a t).left ≤ _; rw [e4]; exact h.left⟩
/-- A text just made stays, whatever the pool's blocks do. -/
theorem fresh_text {w w' : World} {R : Nat → Prop} {v : Value} {t : List Nat} (o : Own w' w.heap.size 5 v (u8l t)) (hs : ∀ x ∈ t, x < 256) (hR : ∀ k, R k → k < w.heap.size) : ∀ wx, Upd R w' wx → TextAt wx v t := fun wx u =>
  (o.other (fun k hk => u.block k (o.lt k hk).2 (fun hr => by have := hR k hr; have := (o.lt k hk).1; omega))).text hs
theorem clash_pair {a b : List Nat} (h : ¬ sumOf a = sumOf b) : clashOf [a, b] = none := by
  have e0 : clashOf [a] = none := by
    rw [show [a] = [] ++ [a] from rfl, clashOf_snoc]
    rfl
  have e : bucket [a] (sumOf b) = [] := List.eq_nil_iff_forall_not_mem.2 fun t ht => by
    obtain ⟨h1, h2⟩ := mem_bucket.1 ht
    rw [List.mem_singleton.1 h1] at h2
    exact h h2
  rw [show [a, b] = [a] ++ [b] from rfl, clashOf_snoc, e0, e]
end Go.Proofs.YtjhfoddhpmmjoaaDoor
