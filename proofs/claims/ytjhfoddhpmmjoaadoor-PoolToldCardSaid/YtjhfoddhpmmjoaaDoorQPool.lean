/-
  A pool in memory: its disk, its log, its field, each in blocks of its own. Condition: just that.
-/
import Derived.Test.YtjhfoddhpmmjoaaDoorQDiskTamper
import Derived.Test.YtjhfoddhpmmjoaaDoorQFullSum
import Derived.Test.YtjhfoddhpmmjoaaDoorQLaw17
import Derived.Test.YtjhfoddhpmmjoaaDoorQCmp
namespace Go.Proofs.YtjhfoddhpmmjoaaDoor
set_option maxRecDepth 100000
open Go.RowKit Go.Maps

/-- Where a pool lies. -/
structure Pl where
  p : Nat
  db : Nat
  lb : Nat
  fb : Nat
  rb : Nat
  rr : Nat
  rm : Nat
  xb : Nat
/-- What a pool keeps. -/
structure Ps where
  start : Nat
  n : Nat
  m : Nat
  D : Dk
  T : List (List Nat)
  L : Nat → Nat
  E : Nat → Ten
def Pl.field (l : Pl) : Nat → Prop := Four l.fb l.rb l.rr l.rm
def Pl.own (l : Pl) : Nat → Prop := fun k => k = l.p ∨ k = l.xb
structure PoolP (w : World) (l : Pl) (FD FL : Nat → Prop) (s : Ps) : Prop where
  cell : w.heap[l.p]? = some (.cells #[.pointer (some ⟨l.db, 0, none⟩), .pointer (some ⟨l.lb, 0, none⟩), .pointer (some ⟨l.fb, 0, none⟩), .func (.func 67) #[] #[.pointer (some ⟨l.xb, 0, none⟩)]] 82 (0, 0))
  start : w.heap[l.xb]? = some (.cells #[.int .i64 (s.start : Int)] 3 (0, 0))
  disk : DiskAt w FD l.db s.D
  log : LogAt w FL l.lb s.T
  field : FieldAt w l.fb l.rb l.rr l.rm s.n s.m s.L s.E
  d1 : ∀ k, FD k → k < w.heap.size ∧ ¬ FL k ∧ ¬ l.field k ∧ ¬ l.own k
  d2 : ∀ k, FL k → k < w.heap.size ∧ ¬ l.field k ∧ ¬ l.own k
  d3 : ∀ k, l.own k → ¬ l.field k
  fit : s.start + s.n ≤ s.D.n
  lo : 1 ≤ s.n
  big : s.D.n ≤ 65536
def Pl.all (l : Pl) (FD FL : Nat → Prop) : Nat → Prop := fun k => FD k ∨ FL k ∨ l.field k ∨ l.own k
section
variable {w w' : World} {l : Pl} {FD FL FD' FL' : Nat → Prop} {s : Ps}
theorem PoolP.flt (h : PoolP w l FD FL s) {k : Nat} (hk : l.field k) : k < w.heap.size := by
  have hk : Four l.fb l.rb l.rr l.rm k := hk
  rcases hk with rfl | rfl | rfl | rfl
  · exact h.field.f.lt
  · exact lt_of_block h.field.r.row
  · exact lt_of_block h.field.r.words
  · obtain ⟨D, hD, _⟩ := h.field.r.map; exact hD.lt
theorem PoolP.olt (h : PoolP w l FD FL s) {k : Nat} (hk : l.own k) : k < w.heap.size := by
  rcases hk with rfl | rfl
  · exact lt_of_block h.cell
  · exact lt_of_block h.start
theorem PoolP.alt (h : PoolP w l FD FL s) {k : Nat} (hk : l.all FD FL k) : k < w.heap.size := by
  rcases hk with hk | hk | hk | hk
  · exact (h.d1 k hk).1
  · exact (h.d2 k hk).1
  · exact h.flt hk
  · exact h.olt hk
/-- A field's blocks stay. -/
theorem FieldAt.stay {b rb rr rm n m : Nat} {L : Nat → Nat} {E : Nat → Ten} (h : FieldAt w b rb rr rm n m L E) {S : Nat → Prop} (u : Upd S w w') (hs : ∀ k, Four b rb rr rm k → ¬ S k) : FieldAt w' b rb rr rm n m L E :=
  ⟨h.f.other (u.block _ h.f.lt (hs _ (by unfold Four; exact .inl rfl))), h.r.stay u (hs _ (by unfold Four Three; simp)) (hs _ (by unfold Four Three; simp)) (hs _ (by unfold Four Three; simp)), h.ne, h.good, h.small⟩
theorem PoolP.below (h : PoolP w l FD FL s) (hB : Below w.heap.size w w') : PoolP w' l FD FL s :=
  ⟨(hB.block _ (lt_of_block h.cell)).trans h.cell, (hB.block _ (lt_of_block h.start)).trans h.start, h.disk.below hB, h.log.below hB, h.field.below hB, fun k hk => ⟨Nat.lt_of_lt_of_le (h.d1 k hk).1 hB.size, (h.d1 k hk).2⟩, fun k hk => ⟨Nat.lt_of_lt_of_le (h.d2 k hk).1 hB.size, (h.d2 k hk).2⟩, h.d3, h.fit, h.lo, h.big⟩
theorem PoolP.drew (h : PoolP w l FD FL s) : PoolP w.drew l FD FL s := h.below (Below.refl _ _).drew
/-- Other blocks turned. -/
theorem PoolP.stay {S : Nat → Prop} (h : PoolP w l FD FL s) (hU : Upd S w w') (hs : ∀ k, l.all FD FL k → ¬ S k) : PoolP w' l FD FL s :=
  ⟨hU.at h.cell (hs _ (.inr (.inr (.inr (.inl rfl))))), hU.at h.start (hs _ (.inr (.inr (.inr (.inr rfl))))), h.disk.upd hU (fun k hk => hs k (.inl hk)), h.log.upd hU (fun k hk => hs k (.inr (.inl hk))), h.field.stay hU (fun k hk => hs k (.inr (.inr (.inl hk)))), fun k hk => ⟨Nat.lt_of_lt_of_le (h.d1 k hk).1 hU.size, (h.d1 k hk).2⟩, fun k hk => ⟨Nat.lt_of_lt_of_le (h.d2 k hk).1 hU.size, (h.d2 k hk).2⟩, h.d3, h.fit, h.lo, h.big⟩
/-- The disk turned. -/
theorem PoolP.turnD (h : PoolP w l FD FL s) {D' : Dk} (hd : DiskAt w' FD' l.db D') (hU : Upd FD w w') (hF : ∀ k, FD' k → (FD k ∨ w.heap.size ≤ k) ∧ k < w'.heap.size) (hn : D'.n = s.D.n) : PoolP w' l FD' FL { s with D := D' } := by
  have keep : ∀ k, l.own k → ¬ FD k := fun k hk hf => (h.d1 k hf).2.2.2 hk
  refine ⟨hU.at h.cell (keep _ (.inl rfl)), hU.at h.start (keep _ (.inr rfl)), hd, h.log.upd hU (fun k hk hf => (h.d1 k hf).2.1 hk), h.field.stay hU (fun k hk hf => (h.d1 k hf).2.2.1 hk), fun k hk => ?_, fun k hk => ⟨Nat.lt_of_lt_of_le (h.d2 k hk).1 hU.size, (h.d2 k hk).2⟩, h.d3, by show s.start + s.n ≤ D'.n; rw [hn]; exact h.fit, h.lo, by show D'.n ≤ _; rw [hn]; exact h.big⟩
  obtain ⟨h1, h2⟩ := hF k hk
  refine ⟨h2, ?_⟩
  rcases h1 with h1 | h1
  · exact (h.d1 k h1).2
  · exact ⟨fun e => by have := (h.d2 k e).1; omega, fun e => by have := h.flt e; omega, fun e => by have := h.olt e; omega⟩
/-- The log turned. -/
theorem PoolP.turnL (h : PoolP w l FD FL s) {T' : List (List Nat)} (hl : LogAt w' FL' l.lb T') (hU : Upd FL w w') (hF : ∀ k, FL' k → (FL k ∨ w.heap.size ≤ k) ∧ k < w'.heap.size) : PoolP w' l FD FL' { s with T := T' } := by
  have keep : ∀ k, l.own k → ¬ FL k := fun k hk hf => (h.d2 k hf).2.2 hk
  refine ⟨hU.at h.cell (keep _ (.inl rfl)), hU.at h.start (keep _ (.inr rfl)), h.disk.upd hU (fun k hk hf => (h.d1 k hk).2.1 hf), hl, h.field.stay hU (fun k hk hf => (h.d2 k hf).2.1 hk), fun k hk => ?_, fun k hk => ?_, h.d3, h.fit, h.lo, h.big⟩
  · obtain ⟨h1, h2, h3⟩ := h.d1 k hk
    refine ⟨Nat.lt_of_lt_of_le h1 hU.size, fun e => ?_, h3⟩
    rcases (hF k e).1 with q | q
    · exact h2 q
    · omega
  · obtain ⟨h1, h2⟩ := hF k hk
    refine ⟨h2, ?_⟩
    rcases h1 with h1 | h1
    · exact (h.d2 k h1).2
    · exact ⟨fun e => by have := h.flt e; omega, fun e => by have := h.olt e; omega⟩
/-- The field turned. -/
theorem PoolP.turnE (h : PoolP w l FD FL s) {m' : Nat} {L' : Nat → Nat} {E' : Nat → Ten} (hf : FieldAt w' l.fb l.rb l.rr l.rm s.n m' L' E') (hU : Upd l.field w w') : PoolP w' l FD FL { s with m := m', L := L', E := E' } := by
  have keep : ∀ k, l.own k → ¬ l.field k := h.d3
  exact ⟨hU.at h.cell (keep _ (.inl rfl)), hU.at h.start (keep _ (.inr rfl)), h.disk.upd hU (fun k hk => (h.d1 k hk).2.2.1), h.log.upd hU (fun k hk => (h.d2 k hk).2.1), hf, fun k hk => ⟨Nat.lt_of_lt_of_le (h.d1 k hk).1 hU.size, (h.d1 k hk).2⟩, fun k hk => ⟨Nat.lt_of_lt_of_le (h.d2 k hk).1 hU.size, (h.d2 k hk).2⟩, h.d3, h.fit, h.lo, h.big⟩
theorem PoolP.c0 (h : PoolP w l FD FL s) : w.cell? ⟨l.p, 0, none⟩ = some (.pointer (some ⟨l.db, 0, none⟩)) := (cell_of_row _ _ 0 _ _ _ h.cell).trans rfl
theorem PoolP.c1 (h : PoolP w l FD FL s) : w.cell? ⟨l.p, 1, none⟩ = some (.pointer (some ⟨l.lb, 0, none⟩)) := (cell_of_row _ _ 1 _ _ _ h.cell).trans rfl
theorem PoolP.c2 (h : PoolP w l FD FL s) : w.cell? ⟨l.p, 2, none⟩ = some (.pointer (some ⟨l.fb, 0, none⟩)) := (cell_of_row _ _ 2 _ _ _ h.cell).trans rfl
theorem PoolP.c3 (h : PoolP w l FD FL s) : w.cell? ⟨l.p, 3, none⟩ = some (.func (.func 67) #[] #[.pointer (some ⟨l.xb, 0, none⟩)]) := (cell_of_row _ _ 3 _ _ _ h.cell).trans rfl
theorem PoolP.cx (h : PoolP w l FD FL s) : w.cell? ⟨l.xb, 0, none⟩ = some (.int .i64 (s.start : Int)) := (cell_of_row _ _ 0 _ _ _ h.start).trans rfl
end
/-- A pool whose blocks are among R. -/
def PoolAt (w : World) (l : Pl) (R : Nat → Prop) (s : Ps) : Prop := ∃ FD FL, PoolP w l FD FL s ∧ ∀ k, R k ↔ l.all FD FL k
/-- A pool that no call made. -/
def NoPool (w : World) (v : Value) : Prop := v = .pointer none ∨ ∃ b o, v = .pointer (some ⟨b, o, none⟩) ∧ w.cell? ⟨b, o + 2, none⟩ = some (.pointer none)
section
variable {w w' : World} {l : Pl} {FD FL R : Nat → Prop} {s : Ps}
theorem PoolAt.below (h : PoolAt w l R s) (hB : Below w.heap.size w w') : PoolAt w' l R s := by
  obtain ⟨FD, FL, h1, h2⟩ := h; exact ⟨FD, FL, h1.below hB, h2⟩
theorem PoolAt.lt (h : PoolAt w l R s) {k : Nat} (hk : R k) : k < w.heap.size := by
  obtain ⟨FD, FL, h1, h2⟩ := h; exact h1.alt ((h2 k).1 hk)
set_option maxRecDepth 100000 in
theorem pmade_any (h : PoolP w l FD FL s) : Calls Tryd.prog 62 #[.pointer (some ⟨l.p, 0, none⟩)] w fun e w' => e = .returned (.bool true) ∧ w = w' := by
  have c2 := h.c2
  replace h := Lib.hid h
  go_enter Tryd.func62, Tryd.ntmps62
  go_wp2_with fail
  go_ret
  exact ⟨rfl, rfl⟩
set_option maxRecDepth 100000 in
theorem pmade_no (w : World) (v : Value) (h : NoPool w v) : Calls Tryd.prog 62 #[v] w fun e w' => e = .returned (.bool false) ∧ w = w' := by
  rcases h with rfl | ⟨b, o, rfl, hc⟩
  · go_enter Tryd.func62, Tryd.ntmps62
    go_wp2_with fail
    go_ret
    exact ⟨rfl, rfl⟩
  · go_enter Tryd.func62, Tryd.ntmps62
    go_wp2_with fail
    go_ret
    exact ⟨rfl, rfl⟩
set_option maxRecDepth 100000 in
theorem pfield_any (h : PoolP w l FD FL s) : Calls Tryd.prog 37 #[.pointer (some ⟨l.p, 0, none⟩)] w fun e w' => e = .returned (.pointer (some ⟨l.fb, 0, none⟩)) ∧ w = w' := by
  have c2 := h.c2
  have cm := Lib.hid (pmade_any h)
  replace h := Lib.hid h
  go_enter Tryd.func37, Tryd.ntmps37
  go_wp2_with fail
  refine cm.out.mono ?_
  rintro e _ ⟨rfl, rfl⟩
  go_wp2_with fail
  go_ret
  exact ⟨rfl, rfl⟩
set_option maxRecDepth 100000 in
theorem pfield_no (w : World) (v : Value) (h : NoPool w v) : Calls Tryd.prog 37 #[v] w fun e w' => e = .returned (.pointer none) ∧ w = w' := by
  have cm := Lib.hid (pmade_no w v h)
  replace h := Lib.hid h
  go_enter Tryd.func37, Tryd.ntmps37
  go_wp2_with fail
  refine cm.out.mono ?_
  rintro e _ ⟨rfl, rfl⟩
  go_wp2_with fail
  go_ret
  exact ⟨rfl, rfl⟩
set_option maxRecDepth 100000 in
theorem pclash_no (w : World) (v : Value) (h : NoPool w v) : Calls Tryd.prog 38 #[v] w fun e w' => e = .returned (.bool false) ∧ w = w' := by
  have cm := Lib.hid (pmade_no w v h)
  replace h := Lib.hid h
  go_enter Tryd.func38, Tryd.ntmps38
  go_wp2_with fail
  refine cm.out.mono ?_
  rintro e _ ⟨rfl, rfl⟩
  go_wp2_with fail
  go_ret
  exact ⟨rfl, rfl⟩
set_option maxRecDepth 100000 in
theorem psector_any (x start xb : Nat) (hc : w.cell? ⟨xb, 0, none⟩ = some (.int .i64 (start : Int))) (hx : start + x < 65536) :
    Calls Tryd.prog 67 #[.int .u32 (x : Int), .pointer (some ⟨xb, 0, none⟩)] w fun e w' => e = .returned (.int .u32 ((start + x : Nat) : Int)) ∧ w = w' := by
  have w1 : IntKind.u32.wrap (start : Int) = (start : Int) := IntWalk.u32_in _ (by omega)
  have w2 : IntKind.u32.wrap ((start : Int) + (x : Int)) = ((start + x : Nat) : Int) := by rw [IntWalk.u32_in _ (by omega)]; omega
  go_enter Tryd.func67, Tryd.ntmps67
  go_wp2_with fail
  go_ret
  exact ⟨rfl, rfl⟩
end
end Go.Proofs.YtjhfoddhpmmjoaaDoor
