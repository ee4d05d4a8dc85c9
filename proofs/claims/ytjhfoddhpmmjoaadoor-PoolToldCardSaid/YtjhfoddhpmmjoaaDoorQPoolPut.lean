/-
  A reference's cells; how it is built. No condition.
  pool: Put. Conditions: the pool lies in blocks of its own; not too many writes, calls, texts.
-/
import Derived.Test.YtjhfoddhpmmjoaaDoorQPool
import Derived.Great.Ranges
import Derived.Laws.ResultCell
namespace Go.Proofs.YtjhfoddhpmmjoaaDoor
set_option maxRecDepth 100000
open Go.RowKit

def refL (x : Nat) (s : List Nat) : List Value := .int .u32 (x : Int) :: u8l s
def refV (x : Nat) (s : List Nat) : Array Value := (refL x s).toArray
def noughts32 : List Nat := List.replicate 32 0
theorem refV_size (x : Nat) {s : List Nat} (h : s.length = 32) : (refV x s).size = 33 := by simp [refV, refL, u8l, h]
theorem infoRef (x : Nat) {s : List Nat} (h : s.length = 32) : (Tryd.prog.info? 76).map (·.size) = some (refV x s).size := by
  rw [refV_size x h]; kernel_rfl
theorem refV_one (x : Nat) (s : List Nat) : (refV x s).all (·.oneCell') = true := by
  rw [Array.all_eq_true_iff_forall_mem]
  intro v hv
  simp only [refV, refL, List.mem_toArray, List.mem_cons] at hv
  rcases hv with rfl | hv
  · rfl
  · exact u8l_one s v hv
/-- A part put into a row of values. -/
theorem fill_putR (place : Nat → Option (Nat × Nat)) (i off : Nat) (L a : List Value) (v : Value) (rest : List (Nat × Value)) (hv : v.cells = a.toArray) (hp : place i = some (off, a.length)) (hle : off + a.length ≤ L.length) :
    Instr.fill place L.toArray ((i, v) :: rest) = Instr.fill place (L.take off ++ (a ++ L.drop (off + a.length))).toArray rest := by
  conv => lhs; unfold Instr.fill
  simp only [hp, hv, List.size_toArray]
  rw [if_neg (by simp; omega)]
  congr 1
  rw [← Array.foldl_toList, Array.toList_zipIdx]
  obtain ⟨h1, h2⟩ := Go.Great.foldl_set off a 0 L.toArray
  apply Array.ext_getElem?
  intro k
  refine (h2 k).trans ?_
  simp only [Nat.add_zero, List.size_toArray, List.getElem?_toArray]
  by_cases hk : off ≤ k ∧ k < off + a.length
  · rw [if_pos ⟨hk.1, hk.2, by omega⟩, List.getElem?_append_right (by simp; omega), List.getElem?_append_left (by simp; omega)]
    congr 1
    simp; omega
  · rw [if_neg (by omega)]
    by_cases h3 : k < off
    · rw [List.getElem?_append_left (by simp; omega), List.getElem?_take_of_lt h3]
    · rw [List.getElem?_append_right (by simp; omega), List.getElem?_append_right (by simp; omega), List.getElem?_drop]
      congr 1
      simp; omega
theorem built_ref {s : List Nat} (hs : s.length = 32) (x : Nat) : Tryd.prog.built 76 [(0, .int .u32 (x : Int)), (1, .agg (u8s s))] = some (refV x s) := by
  obtain ⟨it, hit, hz⟩ : ∃ it, Tryd.prog.info? 76 = some it ∧ it.zero = some (.agg (refL 0 noughts32).toArray) := by
    have h : (Tryd.prog.info? 76).bind (·.zero) = some (.agg (refL 0 noughts32).toArray) := by kernel_rfl
    cases hq : Tryd.prog.info? 76 with
    | none => rw [hq] at h; simp at h
    | some it => rw [hq] at h; exact ⟨it, rfl, h⟩
  obtain ⟨fields, hu, hf⟩ : ∃ fields, Tryd.prog.underlying 76 = some (.struct fields) ∧ fields.toList.mapM (fun f => (Tryd.prog.info? f.type).map fun i => (f.offset, i.size)) = some [(0, 1), (1, 32)] := by
    have h := Tryd.underlying76
    exact ⟨_, h, by kernel_rfl⟩
  have ls : (u8l s).length = 32 := by simp [u8l, hs]
  unfold Program.built
  simp only [hit, hu, hz, hf]
  show Instr.fill _ (refL 0 noughts32).toArray _ = _
  rw [fill_putR _ 0 0 _ [.int .u32 (x : Int)] _ _ rfl rfl (by simp [refL])]
  rw [fill_putR _ 1 1 _ (u8l s) _ _ rfl (by rw [ls]; rfl) (by rw [ls]; simp [refL, u8l, noughts32])]
  simp only [Instr.fill, refV, refL]
  congr 2
  have d : (u8l noughts32).length = 32 := by simp [u8l, noughts32]
  rw [ls]
  simp [d]
theorem built_ref0 : Tryd.prog.built 76 [] = some (refV 0 noughts32) := by kernel_rfl
theorem wpList_build0 {P : Program} {ops : Array Oper} {rest : List Oper} {o : Oper} {a : Act} {w : World} {Q : Exit → Act → World → Prop} (hg : o.guard = none) (t : TypeId) (ho : o.op = .build t #[])
    (cells : Array Value) (hb : P.built t [] = some cells) (h : wpList P ops Q rest (a.put o.dst (.agg cells)) w) : wpList P ops Q (o :: rest) a w :=
  wpList_build hg t _ ho (by simp [hb]) (by simpa [hb] using h)
theorem wpList_build_two {P : Program} {ops : Array Oper} {rest : List Oper} {o : Oper} {a : Act} {w : World} {Q : Exit → Act → World → Prop} (hg : o.guard = none) (t : TypeId) (x0 x1 : Operand) (ho : o.op = .build t #[(0, x0), (1, x1)])
    (v0 v1 : Value) (h0 : a.eval x0 = v0) (h1 : a.eval x1 = v1) (cells : Array Value) (hb : P.built t [(0, v0), (1, v1)] = some cells) (h : wpList P ops Q rest (a.put o.dst (.agg cells)) w) : wpList P ops Q (o :: rest) a w := by
  have e : (#[((0 : Nat), x0), (1, x1)].map fun ((i : Nat), x) => (i, a.eval x)).toList = [(0, v0), (1, v1)] := by simp [h0, h1]
  exact wpList_build hg t _ ho (by rw [e, hb]; rfl) (by rw [e, hb]; exact h)
theorem wpList_store_ref {w : World} {ops : Array Oper} {rest : List Oper} {o : Oper} {a : Act} {Q : Exit → Act → World → Prop} (hgd : o.guard = none) (x y : Operand) (ho : o.op = .store 76 x y)
    (g n m : Nat) {s t : List Nat} (hs : s.length = 32) (ht : t.length = 32) (hx : a.eval x = .pointer (some ⟨g, 0, none⟩)) (hy : a.eval y = .agg (refV n s)) (hg : w.heap[g]? = some (.cells (refV m t) 76 (0, 0)))
    (h : ∀ w', Hid (w'.heap[g]? = some (.cells (refV n s) 76 (0, 0))) → Hid (Upd (fun k => k = g) w w') → wpList Tryd.prog ops Q rest (a.put o.dst undef) w') : wpList Tryd.prog ops Q (o :: rest) a w := by
  refine wpList_store_row hgd 76 x y ho g (refV n s) hx hy 76 (refV m t) hg (infoRef n hs) (by rw [refV_size n hs, refV_size m ht]) (refV_one n s) ?_
  exact h _ (setRow_heap _ _ _ _ _ _ hg) (Upd.setRow (S := fun i => i = g) (Upd.refl _ _) g _ (fun _ => rfl))
theorem ret_ref {fn : Func} {R : Ending → World → Prop} {a : Act} {w : World} {p q : Tmp} (hr : fn.results = #[.cell p 76, .tmp q]) (hd : a.defers = []) (g n : Nat) {s : List Nat} (hs : s.length = 32)
    (hp : a.tmps.getD p undef = .pointer (some ⟨g, 0, none⟩)) (hg : w.heap[g]? = some (.cells (refV n s) 76 (0, 0))) (hR : R (.returned (.tuple #[.agg (refV n s), a.tmps.getD q undef])) w) : bodyPost Tryd.prog fn R .ret a w :=
  ret_row2 hr hd g 76 (refV n s) (0, 0) _ hp hg Tryd.underlying76 rfl (infoRef n hs) hR
theorem noughts32_length : noughts32.length = 32 := by simp [noughts32]
end Go.Proofs.YtjhfoddhpmmjoaaDoor
namespace Go.Proofs.YtjhfoddhpmmjoaaDoor
set_option maxRecDepth 100000
open Go.RowKit Go.Maps

/-- What bounds a pool's numbers. -/
structure Ps.Ok (s : Ps) : Prop where
  calls : s.D.calls < 1000000000
  left : s.D.left ≤ 9223372036854775807
  waits : s.D.waits.length < 100000000
  texts : s.T.length < 100000000
  m : s.m < 100000000
theorem Dk.writeD_n (D : Dk) (s : Nat) (t : List Nat) : (D.writeD s t).n = D.n := by
  unfold Dk.writeD Dk.changeD
  split
  · rfl
  · split <;> split <;> rfl
theorem up_back (L : Nat → Nat) {x v : Nat} (h : L x = 0) : up (up L x v) x 0 = L := by
  funext k
  by_cases e : k = x
  · subst e; rw [up_same, h]
  · rw [up_other _ _ e, up_other _ _ e]
theorem lessT_bumpT (T : Nat → Ten) (t : Nat) : lessT (bumpT T t) t = T := by
  funext k
  by_cases e : k = t
  · subst e
    unfold lessT
    rw [setT_same]
    unfold bumpT
    rw [setT_same]
    rfl
  · unfold lessT
    rw [setT_other _ _ e]
    unfold bumpT
    rw [setT_other _ _ e]
/-- What Put tells and leaves. -/
structure PutRel (s : Ps) (t : Int) (b : List Nat) (x : Nat) (sum : List Nat) (E : Int) (s' : Ps) : Prop where
  long : b.length ≠ 512 → E = 3 ∧ s' = s ∧ x = 0 ∧ sum = noughts32
  full : b.length = 512 → takeE s.n s.E t ≠ 0 → E = takeE s.n s.E t ∧ s' = s ∧ x = 0 ∧ sum = noughts32
  done : b.length = 512 → takeE s.n s.E t = 0 → ∃ y, y < s.n ∧ s.L y = 0 ∧ (∀ j, j < y → 0 < s.L j) ∧ ((s.D.writeE (s.start + y) b.length ≠ 0 ∧ E = s.D.writeE (s.start + y) b.length ∧ x = 0 ∧ sum = noughts32 ∧ s' = { s with m := s.m + 2, D := s.D.writeD (s.start + y) b }) ∨
    (s.D.writeE (s.start + y) b.length = 0 ∧ E = 0 ∧ x = y ∧ sum = sumOf b ∧ s' = { s with m := s.m + 1, D := s.D.writeD (s.start + y) b, T := addT s.T b, L := up s.L y 1, E := bumpT s.E t.toNat }))
theorem isIn_take {n : Nat} {T : Nat → Ten} {t : Int} (h : takeE n T t = 0) : isIn T t = true := by
  unfold takeE at h
  split at h
  · omega
  · rename_i hi; simpa using hi
theorem drop_taken {n : Nat} {L : Nat → Nat} {T : Nat → Ten} {t : Int} {i : Nat} (h : takeE n T t = 0) (hi : i < n) (h0 : L i = 0) : dropE n (up L i 1) (bumpT T t.toNat) t i = 0 ∧ dropL1 n (up L i 1) (bumpT T t.toNat) t i = L ∧ dropT n (up L i 1) (bumpT T t.toNat) t i = T := by
  have hin := isIn_take h
  obtain ⟨h1, h8, _, hon⟩ := isIn_pos hin
  have e0 : dropE n (up L i 1) (bumpT T t.toNat) t i = 0 := by
    have hin2 : isIn (bumpT T t.toNat) t = true := by
      unfold isIn at hin ⊢
      unfold bumpT
      rw [setT_same]
      exact hin
    unfold dropE
    rw [if_neg (by omega), if_neg (by rw [hin2]; decide), up_same, if_neg ?_]
    rintro (e | e)
    · exact absurd e (by decide)
    · unfold bumpT at e; rw [setT_same] at e; exact absurd e (Nat.succ_ne_zero _)
  refine ⟨e0, ?_, ?_⟩
  · unfold dropL1
    rw [if_pos e0, up_same, up_back L h0]
  · unfold dropT
    rw [if_pos ⟨e0, up_same _ _ _⟩, lessT_bumpT]
def PutSays (w : World) (l : Pl) (R : Nat → Prop) (s : Ps) (t : Int) (b : List Nat) (e : Ending) (w' : World) : Prop :=
  ∃ (x : Nat) (sum : List Nat) (E : Int) (s' : Ps) (R' : Nat → Prop), e = .returned (.tuple #[.agg (refV x sum), .int .i64 E]) ∧ PutRel s t b x sum E s' ∧ PoolAt w' l R' s' ∧ (∀ k, R' k → (R k ∨ w.heap.size ≤ k) ∧ k < w'.heap.size) ∧ Upd R w w'
theorem PoolP.says {w w' : World} {l : Pl} {R FD FL FD' FL' : Nat → Prop} {s s' : Ps} {t : Int} {b : List Nat} {x : Nat} {sum : List Nat} {E : Int} (h : PoolP w' l FD' FL' s') (hR : ∀ k, R k ↔ l.all FD FL k) (hr : PutRel s t b x sum E s') (hU : Upd R w w')
    (hD : ∀ k, FD' k → FD k ∨ w.heap.size ≤ k) (hL : ∀ k, FL' k → FL k ∨ w.heap.size ≤ k) : PutSays w l R s t b (.returned (.tuple #[.agg (refV x sum), .int .i64 E])) w' := by
  refine ⟨x, sum, E, s', l.all FD' FL', rfl, hr, ⟨FD', FL', h, fun _ => Iff.rfl⟩, fun k hk => ⟨?_, h.alt hk⟩, hU⟩
  rcases hk with hk | hk | hk | hk
  · exact (hD k hk).imp (fun q => (hR k).2 (.inl q)) id
  · exact (hL k hk).imp (fun q => (hR k).2 (.inr (.inl q))) id
  · exact .inl ((hR k).2 (.inr (.inr (.inl hk))))
  · exact .inl ((hR k).2 (.inr (.inr (.inr hk))))
set_option maxHeartbeats 4000000 in
set_option maxRecDepth 100000 in
theorem pput_any {w : World} {l : Pl} {R : Nat → Prop} {s : Ps} (h0 : PoolAt w l R s) (hT : TabAt w) (hok : s.Ok) (t : Int) (v : Value) (b : List Nat) (hb : ∀ w', Upd R w w' → TextAt w' v b) (hl : b.length < 1000000000) :
    Calls Tryd.prog 32 #[.pointer (some ⟨l.p, 0, none⟩), .int .i64 t, v] w (PutSays w l R s t b) := by
  obtain ⟨ao, cap, rfl, _⟩ := (hb w (Upd.refl _ _)).ex
  obtain ⟨FD, FL, h, hR⟩ := h0
  have BA : Below w.heap.size w (w.alloc (.cells (refV 0 noughts32) 76)) := (Below.refl _ _).alloc (Nat.le_refl _) _
  have cm := pmade_any (h.below BA)
  have nR : ∀ k, l.all FD FL k → ¬ k = w.heap.size := fun k hk e => by have := h.alt hk; omega
  by_cases hl2 : b.length = 512
  · have d5 : ((b.length : Int) != 512) = false := by simp; omega
    have d6 : ((b.length : Int) == 512) = true := by simp; omega
    by_cases hE : takeE s.n s.E t = 0
    ·
      replace h := Lib.hid h
      replace hR := Lib.hid hR
      replace cm := Lib.hid cm
      replace hb := Lib.hid hb
      replace hT := Lib.hid hT
      replace hok := Lib.hid hok
      replace BA := Lib.hid BA
      replace nR := Lib.hid nR
      replace hl2 := Lib.hid hl2
      go_enter Tryd.func32, Tryd.ntmps32
      go_wp2_with fail
      refine cm.out.mono ?_
      rintro e w1 ⟨rfl, hw1⟩
      have P1 : PoolP w1 l FD FL s := hw1 ▸ h.out.below BA.out
      have r1 : w1.heap[w.heap.size]? = some (.cells (refV 0 noughts32) 76 (0, 0)) := hw1 ▸ heap_alloc_new _ _
      have B1 : Below w.heap.size w w1 := hw1 ▸ BA.out
      clear hw1 BA cm
      have c2 := P1.c2
      have hT1 := hT.out.below B1
      have ct := etake_ok P1.field hT1 (by have := hok.out.m; omega) t hE
      replace P1 := Lib.hid P1
      replace r1 := Lib.hid r1
      replace B1 := Lib.hid B1
      replace ct := Lib.hid ct
      replace hE := Lib.hid hE
      go_wp2_with fail
      refine ct.out.mono ?_
      rintro e w2 ⟨i, hi, hL0, hLj, rfl, F2, U2⟩
      have P2 := P1.out.turnE F2 U2
      have r2 := U2.at r1.out (fun e => nR.out w.heap.size (.inr (.inr (.inl e))) rfl)
      have U02 : Upd R w w2 := (Upd.of_below (S := R) B1.out).trans U2 (fun k _ e => (hR.out k).2 (.inr (.inr (.inl e))))
      have P2d := P2.drew
      have q0 := P2d.c0
      have q3 := P2d.c3
      have qx := P2d.cx
      have hfit : s.start + s.n ≤ s.D.n := P2.fit
      have hbig : s.D.n ≤ 65536 := P2.big
      have sz2l : w.heap.size < w2.heap.size := lt_of_block r2
      have cs := psector_any (w := w2.drew) i s.start l.xb qx (by omega)
      have hiD : s.start + i < s.D.n := by omega
      have hbD : ∀ w', Upd FD w2.drew w' → TextAt w' (.slice ao b.length cap) b := fun w' u => hb.out w' (U02.drew.trans u (fun k _ e => (hR.out k).2 (.inl e)))
      have cw := dwrite_any (D := s.D) P2d.disk (s.start + i) (by omega) (.slice ao b.length cap) b hbD hl (by have := hok.out.calls; omega) hok.out.left (by have := hok.out.waits; omega)
      have hwn := Dk.writeD_n s.D (s.start + i) b
      clear ct F2 U2 P1 r1
      generalize hWE : s.D.writeE (s.start + i) b.length = wE at *
      generalize hWD : s.D.writeD (s.start + i) b = wD at *
      replace P2 := Lib.hid P2
      replace r2 := Lib.hid r2
      replace U02 := Lib.hid U02
      replace P2d := Lib.hid P2d
      replace cs := Lib.hid cs
      replace hbD := Lib.hid hbD
      replace cw := Lib.hid cw
      replace hWE := Lib.hid hWE
      replace hWD := Lib.hid hWD
      replace hwn := Lib.hid hwn
      replace hL0 := Lib.hid hL0
      replace hLj := Lib.hid hLj
      replace hi := Lib.hid hi
      go_wp2_with fail
      refine wp_region_held_drew (S := (fun w' => w'.cell? ⟨l.p, 0, none⟩ = some (.pointer (some ⟨l.db, 0, none⟩)) ∧ w'.cell? ⟨l.p, 3, none⟩ = some (.func (.func 67) #[] #[.pointer (some ⟨l.xb, 0, none⟩)]))) (by kernel_rfl) (⟨q0, q3⟩) (fun hHeld => ?_)
      refine held_take (i := 0) (v := ?_) rfl (by kernel_rfl) (by kernel_rfl) (by kernel_rfl) (fun _ _ _ h => h) (Or.inl ⟨by rfl, ?_⟩) (by assumption) ?_
      rotate_left
      · intro w hSw; (try dsimp only at hSw); go_simp; try with_reducible rfl
      try simp only [Act.put, List.setIfInBounds_toArray, List.set_cons_zero, List.set_cons_succ]
      refine held_take (i := 1) (v := ?_) rfl (by kernel_rfl) (by kernel_rfl) (by kernel_rfl) (fun _ _ _ h => h) (Or.inl ⟨by rfl, ?_⟩) (by assumption) ?_
      rotate_left
      · intro w hSw; (try dsimp only at hSw); go_simp; try with_reducible rfl
      try simp only [Act.put, List.setIfInBounds_toArray, List.set_cons_zero, List.set_cons_succ]
      refine held_take (i := 2) (v := ?_) rfl (by kernel_rfl) (by kernel_rfl) (by kernel_rfl) (fun _ _ _ h => h) (Or.inl ⟨by rfl, ?_⟩) (by assumption) ?_
      rotate_left
      · intro w hSw; (try dsimp only at hSw); go_simp; try with_reducible rfl
      try simp only [Act.put, List.setIfInBounds_toArray, List.set_cons_zero, List.set_cons_succ]
      refine held_take (i := 3) (v := ?_) rfl (by kernel_rfl) (by kernel_rfl) (by kernel_rfl) (fun _ _ _ h => h) (Or.inl ⟨by rfl, ?_⟩) (by assumption) ?_
      rotate_left
      · intro w hSw; (try dsimp only at hSw); go_simp; try with_reducible rfl
      try simp only [Act.put, List.setIfInBounds_toArray, List.set_cons_zero, List.set_cons_succ]
      refine held_take (i := 4) (v := ?_) rfl (by kernel_rfl) (by kernel_rfl) (by kernel_rfl) (fun _ _ _ h => h) (Or.inl ⟨by rfl, ?_⟩) (by assumption) ?_
      rotate_left
      · intro w hSw; (try dsimp only at hSw); go_simp; try with_reducible rfl
      try simp only [Act.put, List.setIfInBounds_toArray, List.set_cons_zero, List.set_cons_succ]
      refine held_take (i := 5) (v := ?_) rfl (by kernel_rfl) (by kernel_rfl) (by kernel_rfl) (fun _ _ _ h => h) (Or.inl ⟨by rfl, ?_⟩) (by assumption) ?_
      rotate_left
      · intro w hSw; (try dsimp only at hSw); go_simp; try with_reducible rfl
      try simp only [Act.put, List.setIfInBounds_toArray, List.set_cons_zero, List.set_cons_succ]
      refine held_take (i := 6) (v := ?_) rfl (by kernel_rfl) (by kernel_rfl) (by kernel_rfl) (fun _ _ _ h => h) (Or.inl ⟨by rfl, ?_⟩) (by assumption) ?_
      rotate_left
      · intro w hSw; (try dsimp only at hSw); go_simp; try with_reducible rfl
      try simp only [Act.put, List.setIfInBounds_toArray, List.set_cons_zero, List.set_cons_succ]
      refine held_take (i := 7) (v := ?_) rfl (by kernel_rfl) (by kernel_rfl) (by kernel_rfl) (fun _ _ _ h => h) (Or.inl ⟨by rfl, ?_⟩) (by assumption) ?_
      rotate_left
      · intro w hSw; (try dsimp only at hSw); go_simp; try with_reducible rfl
      try simp only [Act.put, List.setIfInBounds_toArray, List.set_cons_zero, List.set_cons_succ]
      refine held_take (i := 8) (v := ?_) rfl (by kernel_rfl) (by kernel_rfl) (by kernel_rfl) (fun _ _ _ h => h) (Or.inl ⟨by rfl, ?_⟩) (by assumption) ?_
      rotate_left
      · intro w hSw; (try dsimp only at hSw); go_simp; try with_reducible rfl
      try simp only [Act.put, List.setIfInBounds_toArray, List.set_cons_zero, List.set_cons_succ]
      refine held_take (i := 10) (v := ?_) rfl (by kernel_rfl) (by kernel_rfl) (by kernel_rfl) (fun _ _ _ h => h) (Or.inl ⟨by rfl, ?_⟩) (by assumption) ?_
      rotate_left
      · intro w hSw; (try dsimp only at hSw); go_simp; try with_reducible rfl
      try simp only [Act.put, List.setIfInBounds_toArray, List.set_cons_zero, List.set_cons_succ]
      refine held_ready (i := 9) rfl (by kernel_rfl) (fun K hK => ?_)
      go_simp
      refine cs.out.mono ?_
      rintro e _ ⟨rfl, rfl⟩
      refine hK.out _ _ (⟨q0, q3⟩) (fun hHeldN => ?_)
      clear hHeld hK K
      have hHeld := hHeldN
      clear hHeldN
      try simp only [Act.put, List.setIfInBounds_toArray, List.set_cons_zero, List.set_cons_succ]
      refine held_ready (i := 11) rfl (by kernel_rfl) (fun K hK => ?_)
      go_simp
      refine cw.out.mono ?_
      rintro e w3 ⟨rfl, D3, U3⟩
      have P3 := P2d.out.turnD D3.tight U3 (fun k hk => hk) hwn.out
      have c23 := P3.c2
      have c13 := P3.c1
      have c03 := P3.c0
      have c33 := P3.c3
      have r3 := U3.at (w := w2.drew) r2.out (fun e => nR.out w.heap.size (.inl e) rfl)
      have U03 : Upd R w w3 := U02.out.drew.trans U3 (fun k _ e => (hR.out k).2 (.inl e))
      have sz2 : w.heap.size ≤ w2.heap.size := U02.out.size
      clear q0 q3 qx cs cw D3 U3 P2d P2 r2
      replace P3 := Lib.hid P3
      replace r3 := Lib.hid r3
      replace U03 := Lib.hid U03
      refine hK.out _ _ (⟨c03, c33⟩) (fun hHeldN => ?_)
      clear hHeld hK K
      have hHeld := hHeldN
      clear hHeldN
      try simp only [Act.put, List.setIfInBounds_toArray, List.set_cons_zero, List.set_cons_succ]
      refine held_take (i := 12) (v := ?_) rfl (by kernel_rfl) (by kernel_rfl) (by kernel_rfl) (fun _ _ _ h => h) (Or.inl ⟨by rfl, ?_⟩) (by assumption) ?_
      rotate_left
      · intro w hSw; (try dsimp only at hSw); go_simp; try with_reducible rfl
      try simp only [Act.put, List.setIfInBounds_toArray, List.set_cons_zero, List.set_cons_succ]
      refine wpAnyH_done (by kernel_rfl) ?_ _
      clear hHeld
      clear c03 c33
      by_cases hw : wE = 0
      ·
        have d8 : (wE != 0) = false := by simp [hw]
        have d9 : (wE == 0) = true := by simp [hw]
        have tb := hb.out w3 U03.out
        have cl := lsum_st (T := s.T) P3.out.log (.slice ao b.length cap) b tb hl (by have := hok.out.texts; omega)
        have ls := length_sumOf b
        replace cl := Lib.hid cl
        replace hw := Lib.hid hw
        replace tb := Lib.hid tb
        replace ls := Lib.hid ls
        go_wp2_with fail
        refine cl.out.mono ?_
        rintro e w4 ⟨rfl, FL', L4, hF4, U4⟩
        have P4 := P3.out.turnL L4 U4 hF4
        have r4 := U4.at r3.out (fun e => nR.out w.heap.size (.inr (.inl e)) rfl)
        have U04 : Upd R w w4 := U03.out.trans U4 (fun k _ e => (hR.out k).2 (.inr (.inl e)))
        clear cl L4 U4
        replace P4 := Lib.hid P4
        replace r4 := Lib.hid r4
        replace U04 := Lib.hid U04
        replace hF4 := Lib.hid hF4
        go_wp2_with (first
          | refine wpList_build_two (by rfl) 76 (.tmp 57) (.tmp 63) rfl (.int .u32 (i : Int)) (.agg (u8s (sumOf b))) rfl rfl _ (built_ref ls.out i) ?_
          | (refine wpList_store_ref (by rfl) (.tmp 6) (.tmp 64) rfl w.heap.size i 0 ls.out noughts32_length rfl rfl r4.out ?_; intro w5 R5 U5))
        refine ret_ref rfl rfl w.heap.size i ls.out rfl R5.out ?_
        have U05 : Upd R w w5 := U04.out.trans U5.out (fun k hk e => by omega)
        have sz3 := U03.out.size
        refine (P4.out.stay U5.out (fun k hk e => ?_)).says hR.out ⟨fun e => absurd hl2.out e, fun _ e => absurd hE.out e, fun _ _ => ⟨i, hi.out, hL0.out, hLj.out, .inr ⟨hWE.out.trans hw.out, rfl, rfl, rfl, by rw [hWD.out]⟩⟩⟩ U05 (fun k hk => hk.1.imp id (fun q => Nat.le_trans sz2 q)) (fun k hk => (hF4.out k hk).1.imp id (fun q => Nat.le_trans sz3 q))
        subst e
        have sz3l := lt_of_block r3.out
        rcases hk with hk | hk | hk | hk
        · rcases hk.1 with q | q
          · exact nR.out _ (.inl q) rfl
          · have q : w2.heap.size ≤ w.heap.size := q
            omega
        · rcases (hF4.out _ hk).1 with q | q
          · exact nR.out _ (.inr (.inl q)) rfl
          · omega
        · exact nR.out _ (.inr (.inr (.inl hk))) rfl
        · exact nR.out _ (.inr (.inr (.inr hk))) rfl
      ·
        have d8 : (wE != 0) = true := by simp [hw]
        have d9 : (wE == 0) = false := by simp [hw]
        have dt := drop_taken hE.out hi.out hL0.out
        have cd := edrop_any (m := s.m + 1) P3.out.field (by have := hok.out.m; omega) t i (by omega)
        rw [dt.1, dt.2.1, dt.2.2] at cd
        replace cd := Lib.hid cd
        replace dt := Lib.hid dt
        go_wp2_with fail
        refine cd.out.mono ?_
        rintro e w4 ⟨rfl, F4, U4⟩
        have P4 := P3.out.turnE F4 U4
        have r4 := U4.at r3.out (fun e => nR.out w.heap.size (.inr (.inr (.inl e))) rfl)
        have U04 : Upd R w w4 := U03.out.trans U4 (fun k _ e => (hR.out k).2 (.inr (.inr (.inl e))))
        clear cd F4 U4
        replace P4 := Lib.hid P4
        replace r4 := Lib.hid r4
        replace U04 := Lib.hid U04
        go_wp2_with (first
          | refine wpList_build0 (by rfl) 76 rfl _ built_ref0 ?_
          | (refine wpList_store_ref (by rfl) (.tmp 6) (.tmp 55) rfl w.heap.size 0 0 noughts32_length noughts32_length rfl rfl r4.out ?_; intro w5 R5 U5))
        refine ret_ref rfl rfl w.heap.size 0 noughts32_length rfl R5.out ?_
        have U05 : Upd R w w5 := U04.out.trans U5.out (fun k hk e => by omega)
        refine (P4.out.stay U5.out (fun k hk e => ?_)).says hR.out ⟨fun e => absurd hl2.out e, fun _ e => absurd hE.out e, fun _ _ => ⟨i, hi.out, hL0.out, hLj.out, .inl ⟨by rw [hWE.out]; exact hw, hWE.out.symm, rfl, rfl, by rw [hWD.out]⟩⟩⟩ U05 (fun k hk => hk.1.imp id (fun q => Nat.le_trans sz2 q)) (fun k hk => .inl hk)
        subst e
        rcases hk with hk | hk | hk | hk
        · rcases hk.1 with q | q
          · exact nR.out _ (.inl q) rfl
          · have q : w2.heap.size ≤ w.heap.size := q
            omega
        · exact nR.out _ (.inr (.inl hk)) rfl
        · exact nR.out _ (.inr (.inr (.inl hk))) rfl
        · exact nR.out _ (.inr (.inr (.inr hk))) rfl
    ·
      replace h := Lib.hid h
      replace hR := Lib.hid hR
      replace cm := Lib.hid cm
      replace hb := Lib.hid hb
      replace hT := Lib.hid hT
      replace hok := Lib.hid hok
      replace BA := Lib.hid BA
      replace nR := Lib.hid nR
      replace hl2 := Lib.hid hl2
      go_enter Tryd.func32, Tryd.ntmps32
      go_wp2_with fail
      refine cm.out.mono ?_
      rintro e w1 ⟨rfl, hw1⟩
      have P1 : PoolP w1 l FD FL s := hw1 ▸ h.out.below BA.out
      have r1 : w1.heap[w.heap.size]? = some (.cells (refV 0 noughts32) 76 (0, 0)) := hw1 ▸ heap_alloc_new _ _
      have B1 : Below w.heap.size w w1 := hw1 ▸ BA.out
      clear hw1 BA cm
      have c2 := P1.c2
      have ct := etake_no P1.field t hE
      have rel : PutRel s t b 0 noughts32 (takeE s.n s.E t) s := ⟨fun e => absurd hl2.out e, fun _ _ => ⟨rfl, rfl, rfl, rfl⟩, fun _ e => absurd e hE⟩
      generalize takeE s.n s.E t = tE at *
      have d8 : (tE != 0) = true := by simp [hE]
      have d9 : (tE == 0) = false := by simp [hE]
      replace P1 := Lib.hid P1
      replace r1 := Lib.hid r1
      replace B1 := Lib.hid B1
      replace ct := Lib.hid ct
      replace rel := Lib.hid rel
      go_wp2_with fail
      refine ct.out.mono ?_
      rintro e w2 ⟨rfl, B2⟩
      have P2 := P1.out.below B2
      have r2 := (B2.block _ (lt_of_block r1.out)).trans r1.out
      have U02 : Upd R w w2 := (Upd.of_below (S := R) B1.out).trans (Upd.of_below (S := R) B2) (fun _ _ e => e)
      clear P1 r1 ct
      replace P2 := Lib.hid P2
      replace r2 := Lib.hid r2
      replace U02 := Lib.hid U02
      go_wp2_with (first
        | refine wpList_build0 (by rfl) 76 rfl _ built_ref0 ?_
        | (refine wpList_store_ref (by rfl) (.tmp 6) (.tmp 32) rfl w.heap.size 0 0 noughts32_length noughts32_length rfl rfl r2.out ?_; intro w3 R3 U3))
      refine ret_ref rfl rfl w.heap.size 0 noughts32_length rfl R3.out ?_
      have U : Upd R w w3 := U02.out.trans U3.out (fun k hk e => by omega)
      exact (P2.out.stay U3.out nR.out).says hR.out rel.out U (fun _ hk => .inl hk) (fun _ hk => .inl hk)
  · have d5 : ((b.length : Int) != 512) = true := by simp; omega
    have d6 : ((b.length : Int) == 512) = false := by simp; omega
    have d7 : ¬ b.length = 512 := hl2
    replace h := Lib.hid h
    replace hR := Lib.hid hR
    replace cm := Lib.hid cm
    replace hb := Lib.hid hb
    replace hT := Lib.hid hT
    replace hok := Lib.hid hok
    replace BA := Lib.hid BA
    replace nR := Lib.hid nR
    go_enter Tryd.func32, Tryd.ntmps32
    go_wp2_with fail
    refine cm.out.mono ?_
    rintro e w1 ⟨rfl, hw1⟩
    have P1 : PoolP w1 l FD FL s := hw1 ▸ h.out.below BA.out
    have r1 : w1.heap[w.heap.size]? = some (.cells (refV 0 noughts32) 76 (0, 0)) := hw1 ▸ heap_alloc_new _ _
    have B1 : Below w.heap.size w w1 := hw1 ▸ BA.out
    clear hw1 BA cm
    replace P1 := Lib.hid P1
    replace r1 := Lib.hid r1
    replace B1 := Lib.hid B1
    go_wp2_with (first
      | refine wpList_build0 (by rfl) 76 rfl _ built_ref0 ?_
      | (refine wpList_store_ref (by rfl) (.tmp 6) (.tmp 20) rfl w.heap.size 0 0 noughts32_length noughts32_length rfl rfl r1.out ?_; intro w2 R2 U2))
    refine ret_ref rfl rfl w.heap.size 0 noughts32_length rfl R2.out ?_
    have U : Upd R w w2 := (Upd.of_below (S := R) B1.out).trans U2.out (fun k hk e => by omega)
    exact (P1.out.stay U2.out nR.out).says hR.out ⟨fun _ => ⟨rfl, rfl, rfl, rfl⟩, fun e => absurd e hl2, fun e => absurd e hl2⟩ U (fun _ hk => .inl hk) (fun _ hk => .inl hk)
end Go.Proofs.YtjhfoddhpmmjoaaDoor
