/-
  A disk in memory: its cells, its maps, the writes that wait; what of it stays. Conditions: its blocks are its own; not too many writes wait.
-/
import Derived.Test.YtjhfoddhpmmjoaaDoorQHashSum
import Derived.Test.YtjhfoddhpmmjoaaDoorQRun
import Derived.Deep.OwnRows
namespace Go.Proofs.YtjhfoddhpmmjoaaDoor
set_option maxRecDepth 100000
open Go.RowKit Go.Maps

/-- What a disk keeps. -/
structure Dk where
  n : Nat
  sure : Nat → Option (List Nat)
  shown : Nat → Option (List Nat)
  waits : List (Nat × List Nat)
  reg : Nat → Nat
  calls : Nat
  plan : Bool
  left : Nat
  down : Bool
def Dk.new (n : Nat) : Dk := ⟨n, fun _ => none, fun _ => none, [], fun _ => 0, 0, false, 0, false⟩
def updM (M : Nat → Option (List Nat)) (s : Nat) (t : List Nat) : Nat → Option (List Nat) := fun k => if k = s then some t else M k
theorem updM_same (M : Nat → Option (List Nat)) (s : Nat) (t : List Nat) : updM M s t s = some t := if_pos rfl
theorem updM_other (M : Nat → Option (List Nat)) {s k : Nat} (t : List Nat) (h : k ≠ s) : updM M s t k = M k := if_neg h
def diskF (D : Dk) (ms mh : Nat) (wv : Value) : Nat → Value := fun i =>
  if i = 0 then .int .i64 (D.n : Int) else if i = 1 then .map (some ms) else if i = 2 then .map (some mh) else if i = 3 then wv else if i < 68 then .int .u8 (D.reg (i - 4) : Int)
  else if i = 68 then .int .i64 (D.calls : Int) else if i = 69 then .bool D.plan else if i = 70 then .int .i64 (D.left : Int) else .bool D.down

/-! ### The maps -/
theorem u32Law : Keyed Tryd.prog 34 := int_keyed Tryd.underlying34
theorem u32_key {s : Nat} (h : s < 4294967296) : keyOf Tryd.prog 34 (.int .u32 (s : Int)) = some (.int .u32 (s : Int)) :=
  keyOf_int_mk Tryd.underlying34 (by simp [Lit.wf, IntKind.min, IntKind.max, IntKind.signed, IntKind.bits]; omega)
theorem zeroBytes (w : World) : (zeroValue 85).run Tryd.prog w = .ok (.slice none 0 0) w := by kernel_rfl
structure SecC (w : World) (F : Nat → Prop) (mb : Nat) (M : Nat → Option (List Nat)) (k : Nat) (C : Value → Option Value) : Prop where
  map : MapF Tryd.prog 34 w mb k C
  all : ∀ key v, C key = some v → ∃ (s : Nat) (t : List Nat), key = .int .u32 (s : Int) ∧ s < 4294967296 ∧ M s = some t ∧ OwnT w F v t ∧ t.length = 512
  has : ∀ s t, M s = some t → (C (.int .u32 (s : Int))).isSome = true
  inF : F mb
def SecMap (w : World) (F : Nat → Prop) (mb : Nat) (M : Nat → Option (List Nat)) : Prop := ∃ k C, SecC w F mb M k C
section
variable {w w' : World} {F G : Nat → Prop} {mb k : Nat} {M : Nat → Option (List Nat)} {C : Value → Option Value}
theorem SecC.stay (h : SecC w F mb M k C) (hs : ∀ k, F k → k < w.heap.size → w'.heap[k]? = w.heap[k]?) : SecC w' F mb M k C :=
  ⟨h.map.other (hs mb h.inF h.map.lt), fun key v hc => by
    obtain ⟨s, t, e1, e2, e3, e4, e5⟩ := h.all key v hc
    exact ⟨s, t, e1, e2, e3, e4.stay hs, e5⟩, h.has, h.inF⟩
theorem SecC.mono (h : SecC w F mb M k C) (hG : ∀ k, F k → G k) : SecC w G mb M k C :=
  ⟨h.map, fun key v hc => by
    obtain ⟨s, t, e1, e2, e3, e4, e5⟩ := h.all key v hc
    exact ⟨s, t, e1, e2, e3, e4.mono hG, e5⟩, h.has, hG mb h.inF⟩
theorem SecC.tight (h : SecC w F mb M k C) : SecC w (fun k => F k ∧ k < w.heap.size) mb M k C :=
  ⟨h.map, fun key v hc => by
    obtain ⟨s, t, e1, e2, e3, e4, e5⟩ := h.all key v hc
    exact ⟨s, t, e1, e2, e3, e4.tight, e5⟩, h.has, h.inF, h.map.lt⟩
theorem SecMap.stay (h : SecMap w F mb M) (hs : ∀ k, F k → k < w.heap.size → w'.heap[k]? = w.heap[k]?) : SecMap w' F mb M := by
  obtain ⟨k, C, h⟩ := h; exact ⟨k, C, h.stay hs⟩
theorem SecMap.mono (h : SecMap w F mb M) (hG : ∀ k, F k → G k) : SecMap w G mb M := by
  obtain ⟨k, C, h⟩ := h; exact ⟨k, C, h.mono hG⟩
theorem SecMap.tight (h : SecMap w F mb M) : SecMap w (fun k => F k ∧ k < w.heap.size) mb M := by
  obtain ⟨k, C, h⟩ := h; exact ⟨k, C, h.tight⟩
theorem SecMap.inF (h : SecMap w F mb M) : F mb := by obtain ⟨k, C, h⟩ := h; exact h.inF
theorem SecMap.lt (h : SecMap w F mb M) : mb < w.heap.size := by obtain ⟨k, C, h⟩ := h; exact h.map.lt
theorem SecMap.isMap (h : SecMap w F mb M) : ∃ es clock, w.heap[mb]? = some (.map es clock) := by
  obtain ⟨k, C, h⟩ := h
  obtain ⟨es, clock, h1, _⟩ := h.map.ex
  exact ⟨es, clock, h1⟩
/-- A block of cells is no map. -/
theorem SecMap.ne_cells (h : SecMap w F mb M) {b : Nat} {cs : Array Value} {t : TypeId} {fr : Nat × Nat} (hb : w.heap[b]? = some (.cells cs t fr)) : b ≠ mb := fun e => by
  obtain ⟨es, clock, h1⟩ := h.isMap
  rw [e, h1] at hb
  simp at hb
/-- What a look-up yields. -/
theorem SecMap.look (h : SecMap w F mb M) {s : Nat} (hs : s < 4294967296) : ∃ v, (Instr.lookup 122 (.map (some mb)) (.int .u32 (s : Int)) false).run Tryd.prog w = .ok v w ∧
    ((M s = none ∧ v = .slice none 0 0) ∨ ∃ t g cap, M s = some t ∧ t.length = 512 ∧ v = .slice (some ⟨g, 0, none⟩) 512 cap ∧ OwnT w F v t) := by
  obtain ⟨k, C, h⟩ := h
  refine ⟨_, h.map.lookup u32Law Tryd.underlying122 (u32_key hs) (zeroBytes w), ?_⟩
  cases hc : C (.int .u32 (s : Int)) with
  | none =>
    refine .inl ⟨?_, rfl⟩
    cases hm : M s with
    | none => rfl
    | some t =>
      have := h.has s t hm
      rw [hc] at this
      simp at this
  | some v =>
    obtain ⟨s', t, e1, _, e3, e4, e5⟩ := h.all _ v hc
    have es : s = s' := by injection e1 with _ e; omega
    subst es
    obtain ⟨ao, cap, e6, _, _, _, e8, e9⟩ := e4.own.form
    have e7 : (u8l t).length = 512 := by simp [u8l, e5]
    rw [e7] at e6
    obtain ⟨g, e10, _⟩ := e9 0 _ (List.getElem?_eq_getElem (show 0 < (u8l t).length by omega))
    subst e10
    exact .inr ⟨t, g, cap, e3, e5, e6, by exact e4⟩
/-- A text's block is no map. -/
theorem OwnT.ne_sec (h : SecMap w F mb M) {v : Value} {t : List Nat} {G : Nat → Prop} (ho : OwnT w G v t) : ∀ k, v.ownBlock = some k → k ≠ mb := fun k hk => by
  obtain ⟨cur, hc⟩ := ho.own.typed hk
  exact h.ne_cells hc
theorem SecC.put (h : SecC w F mb M k C) {s : Nat} (hs : s < 4294967296) {v : Value} {t : List Nat} (ho : OwnT w F v t) (hl : t.length = 512) (hm : MapF Tryd.prog 34 w' mb (if (C (.int .u32 (s : Int))).isSome then k else k + 1) (updF C (.int .u32 (s : Int)) (some v))) (hU : Upd (fun i => i = mb) w w') : SecMap w' F mb (updM M s t) := by
  have hsm : SecMap w F mb M := ⟨_, _, h⟩
  have keep : ∀ u x, OwnT w F u x → OwnT w' F u x := fun u x hu => ⟨hu.own.other (fun j hj => hU.block j (hu.own.lt j hj).2 (hu.ne_sec hsm j hj)), hu.small, hu.inF⟩
  refine ⟨_, _, hm, fun key u hc => ?_, fun s' t' hM => ?_, h.inF⟩
  · by_cases ek : key = .int .u32 (s : Int)
    · subst ek
      rw [updF_same] at hc
      cases hc
      exact ⟨s, t, rfl, hs, updM_same _ _ _, keep _ _ ho, hl⟩
    · rw [updF_other ek] at hc
      obtain ⟨s', t', e1, e2, e3, e4, e5⟩ := h.all key u hc
      refine ⟨s', t', e1, e2, ?_, keep _ _ e4, e5⟩
      rw [updM_other _ _ (fun e => ek (by rw [e1, e]))]
      exact e3
  · by_cases es : s' = s
    · subst es; rw [updF_same]; rfl
    · rw [updM_other _ _ es] at hM
      rw [updF_other (fun e => es (by injection e with _ e; omega))]
      exact h.has s' t' hM
end

/-! ### The writes that wait -/
def flatW : List (Nat × List Nat) → List Value → List Value
  | p :: Q, v :: L => .int .u32 (p.1 : Int) :: v :: flatW Q L
  | _, _ => []
theorem flatW_length : ∀ (Q : List (Nat × List Nat)) (L : List Value), L.length = Q.length → (flatW Q L).length = Q.length * 2
  | [], [], _ => rfl
  | [], _ :: _, h => by simp at h
  | _ :: _, [], h => by simp at h
  | _ :: Q, _ :: L, h => by
    have := flatW_length Q L (by simpa using h)
    simp only [flatW, List.length_cons, this]
    omega
theorem flatW_snoc : ∀ (Q : List (Nat × List Nat)) (L : List Value) (p : Nat × List Nat) (v : Value), L.length = Q.length → flatW (Q ++ [p]) (L ++ [v]) = flatW Q L ++ [.int .u32 (p.1 : Int), v]
  | [], [], _, _, _ => rfl
  | [], _ :: _, _, _, h => by simp at h
  | _ :: _, [], _, _, h => by simp at h
  | _ :: Q, _ :: L, p, v, h => by
    have := flatW_snoc Q L p v (by simpa using h)
    simp only [flatW, List.cons_append, this]
theorem flatW_get : ∀ (Q : List (Nat × List Nat)) (L : List Value) (i : Nat) (p : Nat × List Nat) (v : Value), Q[i]? = some p → L[i]? = some v → (flatW Q L)[2 * i]? = some (.int .u32 (p.1 : Int)) ∧ (flatW Q L)[2 * i + 1]? = some v
  | [], _, i, p, v, h, _ => by simp at h
  | _ :: _, [], i, p, v, _, h => by simp at h
  | q :: Q, x :: L, 0, p, v, h1, h2 => by
    simp at h1 h2
    subst h1; subst h2
    exact ⟨rfl, rfl⟩
  | q :: Q, x :: L, i + 1, p, v, h1, h2 => by
    have := flatW_get Q L i p v (by simpa using h1) (by simpa using h2)
    rw [show 2 * (i + 1) = 2 * i + 1 + 1 by omega, show 2 * i + 1 + 1 + 1 = (2 * i + 1) + 1 + 1 by omega]
    simpa only [flatW, List.getElem?_cons_succ] using this
structure WaitC (w : World) (F : Nat → Prop) (wv : Value) (Q : List (Nat × List Nat)) (L : List Value) : Prop where
  len : L.length = Q.length
  all : ∀ (i : Nat) (v : Value) (p : Nat × List Nat), L[i]? = some v → Q[i]? = some p → p.1 < 4294967296 ∧ p.2.length = 512 ∧ OwnT w F v p.2
  row : w.ownsRow 0 128 2 wv Q.length (flatW Q L) ∨ (Q = [] ∧ ∃ g, wv = .slice (some ⟨g, 0, none⟩) 0 0 ∧ g < w.heap.size)
  inF : ∀ k, wv.ownBlock = some k → F k
def Waits (w : World) (F : Nat → Prop) (wv : Value) (Q : List (Nat × List Nat)) : Prop := ∃ L, WaitC w F wv Q L
section
variable {w w' : World} {F G : Nat → Prop} {wv : Value} {Q : List (Nat × List Nat)} {L : List Value}
theorem lt_of_same {w w' : World} {g : Nat} (h : w'.heap[g]? = w.heap[g]?) (hg : g < w.heap.size) : g < w'.heap.size := by
  have : w'.heap[g]? ≠ none := by rw [h, Array.getElem?_eq_getElem hg]; simp
  rcases Nat.lt_or_ge g w'.heap.size with q | q
  · exact q
  · exact absurd (Array.getElem?_eq_none q) this
theorem WaitC.lt (h : WaitC w F wv Q L) : ∀ k, wv.ownBlock = some k → k < w.heap.size := fun k hk => by
  rcases h.row with r | ⟨_, g, rfl, hg⟩
  · exact (World.ownsRow.lt r k hk).2
  · simp [Value.ownBlock] at hk
    subst hk
    exact hg
theorem WaitC.stay (h : WaitC w F wv Q L) (hs : ∀ k, F k → k < w.heap.size → w'.heap[k]? = w.heap[k]?) : WaitC w' F wv Q L := by
  refine ⟨h.len, fun i v p a b => by obtain ⟨e1, e2, e3⟩ := h.all i v p a b; exact ⟨e1, e2, e3.stay hs⟩, ?_, h.inF⟩
  rcases h.row with r | ⟨e, g, rfl, hg⟩
  · left
    refine ⟨r.1, ?_⟩
    rcases r.2 with hn | ⟨g, cap, cur, rfl, hb, hgg, rest⟩
    · exact .inl hn
    · exact .inr ⟨g, cap, cur, rfl, hb, (hs g (h.inF g rfl) (lt_of_block hgg)).trans hgg, rest⟩
  · exact .inr ⟨e, g, rfl, lt_of_same (hs g (h.inF g rfl) hg) hg⟩
theorem WaitC.mono (h : WaitC w F wv Q L) (hG : ∀ k, F k → G k) : WaitC w G wv Q L :=
  ⟨h.len, fun i v p a b => by obtain ⟨e1, e2, e3⟩ := h.all i v p a b; exact ⟨e1, e2, e3.mono hG⟩, h.row, fun k hk => hG k (h.inF k hk)⟩
theorem WaitC.tight (h : WaitC w F wv Q L) : WaitC w (fun k => F k ∧ k < w.heap.size) wv Q L :=
  ⟨h.len, fun i v p a b => by obtain ⟨e1, e2, e3⟩ := h.all i v p a b; exact ⟨e1, e2, e3.tight⟩, h.row, fun k hk => ⟨h.inF k hk, h.lt k hk⟩⟩
theorem WaitC.form (h : WaitC w F wv Q L) : ∃ ao cap, wv = .slice ao Q.length cap ∧ Q.length ≤ cap ∧ cap ≤ maxLen ∧ (ao = none → Q.length = 0 ∧ cap = 0) ∧
    ∀ i p v, Q[i]? = some p → L[i]? = some v → ∃ g, ao = some ⟨g, 0, none⟩ ∧ w.cell? ⟨g, i * 2, none⟩ = some (.int .u32 (p.1 : Int)) ∧ w.cell? ⟨g, i * 2 + 1, none⟩ = some v := by
  rcases h.row with r | ⟨rfl, g, rfl, hg⟩
  · have hc := fun g hg => World.ownsRow.cells r (g := g) hg
    rcases r.2 with ⟨rfl, h0⟩ | ⟨g, cap, cur, rfl, _, hgg, h1, h2, h3, h4⟩
    · refine ⟨none, 0, by rw [h0], by omega, by simp [maxLen], fun _ => ⟨h0, rfl⟩, fun i p v hq hl => ?_⟩
      have := (List.getElem?_eq_some_iff.1 hq).1
      omega
    · refine ⟨_, cap, rfl, h1, h2, fun e => by simp at e, fun i p v hq hl => ⟨g, rfl, ?_, ?_⟩⟩
      · have := hc g rfl (2 * i) _ (flatW_get Q L i p v hq hl).1
        rwa [Addr.add_lit, Nat.zero_add, Nat.mul_comm] at this
      · have := hc g rfl (2 * i + 1) _ (flatW_get Q L i p v hq hl).2
        rwa [Addr.add_lit, Nat.zero_add, Nat.mul_comm] at this
  · exact ⟨_, 0, rfl, Nat.le_refl _, by simp [maxLen], fun e => by simp at e, fun i p v hq _ => by simp at hq⟩
theorem waits_nil (w : World) (F : Nat → Prop) : Waits w F (.slice none 0 0) [] :=
  ⟨[], rfl, fun i v p a _ => by simp at a, .inl (World.ownsRow_nil _ _ _ _), fun k hk => by simp [Value.ownBlock] at hk⟩
/-- A text's block is none of the writes'. -/
theorem row_ne_text {n : Nat} {xs : List Value} (r : w.ownsRow 0 128 2 wv n xs) {v : Value} {t : List Nat} {G : Nat → Prop} (ho : OwnT w G v t) : ∀ k, v.ownBlock = some k → wv.ownBlock ≠ some k := fun k hk e => by
  obtain ⟨cur, hc⟩ := ho.own.typed hk
  rcases r.2 with ⟨rfl, h0⟩ | ⟨g, cap, cur, rfl, _, hgg, _⟩
  · simp [Value.ownBlock] at e
  · simp [Value.ownBlock] at e
    subst e
    rw [hc] at hgg
    simp at hgg
end
theorem infoWrite : (Tryd.prog.info? 128).map (fun i => (i.zero, i.size, i.bytes)) = some (some (.agg #[.int .u32 0, .slice none 0 0]), 2, 32) := by kernel_rfl
/-- Blocks of writes alone are turned. -/
structure Writes (w w' : World) (F : Nat → Prop) : Prop where
  ex : ∃ R : Nat → Prop, Upd R w w' ∧ ∀ k, R k → F k ∧ ∃ cur, w.heap[k]? = some (.cells cur 128 (0, 0))
section
variable {w w' : World} {F G : Nat → Prop} {wv : Value} {Q : List (Nat × List Nat)} {L : List Value}
theorem Writes.text (h : Writes w w' F) {v : Value} {t : List Nat} (ho : OwnT w G v t) : OwnT w' G v t := by
  obtain ⟨R, u, hR⟩ := h.ex
  refine ⟨ho.own.other fun k hk => u.block k (ho.own.lt k hk).2 fun hr => ?_, ho.small, ho.inF⟩
  obtain ⟨cur, hc⟩ := ho.own.typed hk
  obtain ⟨_, c2, h2⟩ := hR k hr
  rw [hc] at h2
  simp at h2
theorem Writes.map (h : Writes w w' F) {mb : Nat} {M : Nat → Option (List Nat)} (hm : SecMap w G mb M) : SecMap w' G mb M := by
  obtain ⟨R, u, hR⟩ := h.ex
  have hmb : w'.heap[mb]? = w.heap[mb]? := u.block mb hm.lt fun hr => by
    obtain ⟨_, c2, h2⟩ := hR mb hr
    exact hm.ne_cells h2 rfl
  obtain ⟨k, C, hc⟩ := hm
  exact ⟨k, C, hc.map.other hmb, fun key v hv => by
    obtain ⟨s, t, e1, e2, e3, e4, e5⟩ := hc.all key v hv
    exact ⟨s, t, e1, e2, e3, h.text e4, e5⟩, hc.has, hc.inF⟩
theorem Writes.cells (h : Writes w w' F) {b : Nat} {cs : Array Value} {t : TypeId} {fr : Nat × Nat} (hb : w.heap[b]? = some (.cells cs t fr)) (ht : t ≠ 128) : w'.heap[b]? = some (.cells cs t fr) := by
  obtain ⟨R, u, hR⟩ := h.ex
  refine u.at hb fun hr => ?_
  obtain ⟨_, c2, h2⟩ := hR b hr
  rw [hb] at h2
  simp at h2
  exact ht h2.2.1
theorem Writes.upd (h : Writes w w' F) : Upd F w w' := by
  obtain ⟨R, u, hR⟩ := h.ex
  exact u.mono fun k _ hr => (hR k hr).1
/-- One more waits. -/
theorem Waits.push (h : Waits w F wv Q) {s : Nat} {t : List Nat} {v : Value} (hs : s < 4294967296) (ho : OwnT w F v t) (hl : t.length = 512) {hb : Nat} (hc : w.heap[hb]? = some (.cells #[.int .u32 (s : Int), v] 128 (0, 0))) (hq : Q.length < 1000000000) (ty : TypeId) :
    ∃ wv' w', (Builtin.append_ #[123, 123] ty #[wv, .slice (some ⟨hb, 0, none⟩) 1 1]).run Tryd.prog w = .ok wv' w' ∧ Waits w' (fun k => F k ∨ w.heap.size ≤ k) wv' (Q ++ [(s, t)]) ∧ Writes w w' F ∧ (wv'.ownBlock = wv.ownBlock ∨ ∃ g, wv'.ownBlock = some g ∧ w.heap.size ≤ g) ∧ (∃ ao n c, wv' = .slice ao n c) ∧
      Upd (fun k => wv.ownBlock = some k) w w' ∧ ∀ ao n cap, wv = .slice ao n cap → cap < Q.length + 1 → Below w.heap.size w w' ∧ ∃ g, wv'.ownBlock = some g ∧ w.heap.size ≤ g := by
  obtain ⟨L, h⟩ := h
  obtain ⟨i, hi, hz, hsz, hby⟩ : ∃ i, Tryd.prog.info? 128 = some i ∧ i.zero = some (.agg #[.int .u32 0, .slice none 0 0]) ∧ i.size = 2 ∧ i.bytes = 32 := by
    have hinfo := infoWrite
    cases hq : Tryd.prog.info? 128 with
    | none => simp [hq] at hinfo
    | some i => simp [hq] at hinfo; exact ⟨i, rfl, hinfo.1, hinfo.2.1, hinfo.2.2⟩
  have news : ∀ j u, [Value.int .u32 (s : Int), v][j]? = some u → w.cell? ((⟨hb, 0, none⟩ : Addr).add j) = some u := fun j u hj => by
    rw [Addr.add_lit, Nat.zero_add, cell_of_row _ _ _ _ _ _ hc]
    simpa using hj
  obtain ⟨vo, vc, ev, _⟩ := ho.own.form
  have one : ∀ u ∈ [Value.int .u32 (s : Int), v], u.oneCell' = true := fun u hu => by
    simp only [List.mem_cons, List.not_mem_nil, or_false] at hu
    rcases hu with rfl | rfl
    · rfl
    · rw [ev]; rfl
  have fin : ∀ (wv' : Value) (w' : World), w'.ownsRow 0 128 2 wv' (Q.length + 1) (flatW Q L ++ [.int .u32 (s : Int), v]) → Writes w w' F → (wv'.ownBlock = wv.ownBlock ∨ ∃ g, wv'.ownBlock = some g ∧ w.heap.size ≤ g) → Waits w' (fun k => F k ∨ w.heap.size ≤ k) wv' (Q ++ [(s, t)]) ∧ ∃ ao n c, wv' = .slice ao n c := fun wv' w' r hW hb => by
    refine ⟨⟨L ++ [v], by simp [h.len], fun i u p a b => ?_, .inl ?_, fun k hk => ?_⟩, ?_⟩
    · by_cases hi : i < L.length
      · rw [List.getElem?_append_left hi] at a
        rw [List.getElem?_append_left (by rw [← h.len]; exact hi)] at b
        obtain ⟨e1, e2, e3⟩ := h.all i u p a b
        exact ⟨e1, e2, (hW.text e3).mono fun _ hk => .inl hk⟩
      · rw [List.getElem?_append_right (by omega)] at a
        rw [List.getElem?_append_right (by rw [← h.len]; omega)] at b
        rw [h.len] at a
        obtain ⟨j, hj⟩ : ∃ j, j = i - Q.length := ⟨_, rfl⟩
        rw [← hj] at a b
        cases j with
        | zero =>
          simp at a b
          subst a; subst b
          exact ⟨hs, hl, (hW.text ho).mono fun _ hk => .inl hk⟩
        | succ j => simp at a
    · rw [flatW_snoc Q L (s, t) v h.len, List.length_append]; exact r
    · rcases hb with hb | ⟨g, hb, hg⟩
      · exact .inl (h.inF k (hb.symm.trans hk))
      · rw [hb] at hk; cases hk; exact .inr hg
    · rcases r.2 with ⟨_, h0⟩ | ⟨g, cap, cur, rfl, _⟩
      · omega
      · exact ⟨_, _, _, rfl⟩
  have b1 : Q.length + 1 ≤ maxLen := by simp only [maxLen]; omega
  have b2 : (Q.length + 1) * 32 ≤ 140737488355328 := by omega
  -- a new block
  have grows : ∀ (wv' : Value) (w' : World), w'.ownsRow w.heap.size 128 2 wv' (Q.length + 1) (flatW Q L ++ [.int .u32 (s : Int), v]) → w.grownBy w' none → Waits w' (fun k => F k ∨ w.heap.size ≤ k) wv' (Q ++ [(s, t)]) ∧ Writes w w' F ∧ (wv'.ownBlock = wv.ownBlock ∨ ∃ g, wv'.ownBlock = some g ∧ w.heap.size ≤ g) ∧ (∃ ao n c, wv' = .slice ao n c) ∧
      Upd (fun k => wv.ownBlock = some k) w w' ∧ ∀ ao n cap, wv = .slice ao n cap → cap < Q.length + 1 → Below w.heap.size w w' ∧ ∃ g, wv'.ownBlock = some g ∧ w.heap.size ≤ g := fun wv' w' h2 h3 => by
    have hB : Below w.heap.size w w' := ⟨h3.os, h3.tape, h3.output, h3.size, fun k hk => h3.block k hk (by simp)⟩
    have hW : Writes w w' F := ⟨fun _ => False, Upd.of_below hB, fun k hk => hk.elim⟩
    have hg : ∃ g, wv'.ownBlock = some g ∧ w.heap.size ≤ g := by
      rcases h2.2 with ⟨_, hn⟩ | ⟨g', cap', cur, q, hb0, rest⟩
      · omega
      · exact ⟨g', by rw [q]; rfl, hb0⟩
    have h2' : w'.ownsRow 0 128 2 wv' (Q.length + 1) (flatW Q L ++ [.int .u32 (s : Int), v]) := by
      refine ⟨h2.1, ?_⟩
      rcases h2.2 with hn | ⟨g, cap', cur, q, hb0, rest⟩
      · exact .inl hn
      · exact .inr ⟨g, cap', cur, q, Nat.zero_le _, rest⟩
    obtain ⟨f1, f2⟩ := fin wv' w' h2' hW (.inr hg)
    exact ⟨f1, hW, .inr hg, f2, Upd.of_below hB, fun _ _ _ _ _ => ⟨hB, hg⟩⟩
  obtain ⟨wo, wc, ew, w1, w2, w3, w4⟩ := h.form
  by_cases hcap : Q.length + 1 ≤ wc
  · have r : w.ownsRow 0 128 2 wv Q.length (flatW Q L) := by
      rcases h.row with r | ⟨e, g, e2, hg⟩
      · exact r
      · rw [e2] at ew
        injection ew with _ _ e3
        omega
    obtain ⟨wv', w', hr, h2, h3, _, h5⟩ := run_append_own_at (P := Tryd.prog) w 0 123 ty 128 i _ 2 32 Tryd.underlying123 hi hz hsz hby rfl (by decide) wv Q.length (flatW Q L) r ⟨hb, 0, none⟩ 1 1 [.int .u32 (s : Int), v] (by simp) news one b1 b2 (Nat.zero_le _)
    have hU : Upd (fun k => wv.ownBlock = some k) w w' := ⟨h3.os, h3.tape, h3.output, h3.size, fun k hk hn => h3.block k hk (fun e => hn e.symm)⟩
    have hW : Writes w w' F := ⟨fun k => wv.ownBlock = some k, hU, fun k hk => ⟨h.inF k hk, by
      rcases r.2 with ⟨rfl, _⟩ | ⟨g, cap, cur, rfl, _, hgg, _⟩
      · simp [Value.ownBlock] at hk
      · simp [Value.ownBlock] at hk
        subst hk
        exact ⟨cur, hgg⟩⟩⟩
    have h6 : wv'.ownBlock = wv.ownBlock ∨ ∃ g, wv'.ownBlock = some g ∧ w.heap.size ≤ g := h5.imp id fun q => ⟨_, q, Nat.le_refl _⟩
    obtain ⟨f1, f2⟩ := fin wv' w' h2 hW h6
    refine ⟨wv', w', hr, f1, hW, h6, f2, hU, fun ao n cap e hlt => ?_⟩
    rw [ew] at e
    injection e with _ _ e3
    omega
  · cases hwo : wo with
    | none =>
      obtain ⟨e1, e2⟩ := w3 hwo
      obtain rfl : Q = [] := List.eq_nil_of_length_eq_zero e1
      obtain rfl : L = [] := List.eq_nil_of_length_eq_zero (by simpa using h.len)
      have ewv : wv = .slice none 0 0 := by rw [ew, hwo, e2]; rfl
      obtain ⟨wv', w', hr, h2, h3, _⟩ := run_append_own_at (P := Tryd.prog) w w.heap.size 123 ty 128 i _ 2 32 Tryd.underlying123 hi hz hsz hby rfl (by decide) wv 0 [] (by rw [ewv]; exact World.ownsRow_nil _ _ _ _) ⟨hb, 0, none⟩ 1 1 [.int .u32 (s : Int), v] (by simp) news one b1 b2 (Nat.le_refl _)
      have h3' : w.grownBy w' none := by rw [ewv] at h3; exact h3
      exact ⟨wv', w', hr, grows wv' w' h2 h3'⟩
    | some ad =>
      have olds : ∀ j u, (flatW Q L)[j]? = some u → w.cell? (ad.add j) = some u := fun j u hj => by
        rcases h.row with r | ⟨e, _⟩
        · rcases r.2 with ⟨e, _⟩ | ⟨g, cap, cur, e, _, hgg, _⟩
          · rw [e, hwo] at ew; simp at ew
          · have hc := World.ownsRow.cells (by rw [e] at r; exact r) (g := g) rfl j u hj
            have : ad = ⟨g, 0, none⟩ := by rw [e, hwo] at ew; injection ew with e1; injection e1 with e1; exact e1.symm
            rw [this]; exact hc
        · subst e
          simp [flatW] at hj
      obtain ⟨wv', w', hr, h2, h3⟩ := run_append_arg_grows (P := Tryd.prog) w 123 ty 128 i _ 2 32 Tryd.underlying123 hi hz hsz hby rfl (by decide) ad Q.length wc (flatW Q L) (flatW_length Q L h.len) olds ⟨hb, 0, none⟩ 1 1 [.int .u32 (s : Int), v] (by simp) news (by omega) b1 b2
      rw [hwo] at ew
      rw [← ew] at hr
      exact ⟨wv', w', hr, grows wv' w' h2 h3⟩
end

/-! ### A disk -/
structure DiskP (w : World) (F : Nat → Prop) (b ms mh : Nat) (wv : Value) (D : Dk) : Prop where
  row : w.rowIs b 126 72 (diskF D ms mh wv)
  fb : F b
  sure : SecMap w F ms D.sure
  shown : SecMap w F mh D.shown
  ne : ms ≠ mh
  wait : Waits w F wv D.waits
  lo : 1 ≤ D.n
  hi : D.n ≤ 65536
def DiskAt (w : World) (F : Nat → Prop) (b : Nat) (D : Dk) : Prop := ∃ ms mh wv, DiskP w F b ms mh wv D
section
variable {w w' : World} {F G : Nat → Prop} {b ms mh : Nat} {wv : Value} {D : Dk}
theorem DiskP.stay (h : DiskP w F b ms mh wv D) (hs : ∀ k, F k → k < w.heap.size → w'.heap[k]? = w.heap[k]?) : DiskP w' F b ms mh wv D := by
  obtain ⟨L, hL⟩ := h.wait
  exact ⟨h.row.of_block (hs b h.fb h.row.lt), h.fb, h.sure.stay hs, h.shown.stay hs, h.ne, ⟨L, hL.stay hs⟩, h.lo, h.hi⟩
theorem DiskP.mono (h : DiskP w F b ms mh wv D) (hG : ∀ k, F k → G k) : DiskP w G b ms mh wv D := by
  obtain ⟨L, hL⟩ := h.wait
  exact ⟨h.row, hG b h.fb, h.sure.mono hG, h.shown.mono hG, h.ne, ⟨L, hL.mono hG⟩, h.lo, h.hi⟩
theorem DiskP.tight (h : DiskP w F b ms mh wv D) : DiskP w (fun k => F k ∧ k < w.heap.size) b ms mh wv D := by
  obtain ⟨L, hL⟩ := h.wait
  exact ⟨h.row, ⟨h.fb, h.row.lt⟩, h.sure.tight, h.shown.tight, h.ne, ⟨L, hL.tight⟩, h.lo, h.hi⟩
theorem DiskAt.stay (h : DiskAt w F b D) (hs : ∀ k, F k → k < w.heap.size → w'.heap[k]? = w.heap[k]?) : DiskAt w' F b D := by
  obtain ⟨ms, mh, wv, h⟩ := h; exact ⟨ms, mh, wv, h.stay hs⟩
theorem DiskAt.mono (h : DiskAt w F b D) (hG : ∀ k, F k → G k) : DiskAt w G b D := by
  obtain ⟨ms, mh, wv, h⟩ := h; exact ⟨ms, mh, wv, h.mono hG⟩
theorem DiskAt.tight (h : DiskAt w F b D) : DiskAt w (fun k => F k ∧ k < w.heap.size) b D := by
  obtain ⟨ms, mh, wv, h⟩ := h; exact ⟨ms, mh, wv, h.tight⟩
theorem DiskAt.below (h : DiskAt w F b D) (hB : Below w.heap.size w w') : DiskAt w' F b D := h.stay fun k _ hk => hB.block k hk
theorem DiskAt.upd {S : Nat → Prop} (h : DiskAt w F b D) (hU : Upd S w w') (hd : ∀ k, F k → ¬ S k) : DiskAt w' F b D := h.stay fun k hF hk => hU.block k hk (hd k hF)
theorem DiskAt.drew (h : DiskAt w F b D) : DiskAt w.drew F b D := h.stay fun _ _ _ => rfl
theorem DiskAt.lt (h : DiskAt w F b D) : b < w.heap.size := by obtain ⟨ms, mh, wv, h⟩ := h; exact h.row.lt
theorem DiskAt.fb (h : DiskAt w F b D) : F b := by obtain ⟨ms, mh, wv, h⟩ := h; exact h.fb
/-- One cell of the disk turned. -/
theorem DiskP.set {D' : Dk} (h : DiskP w F b ms mh wv D) (i : Nat) (v : Value) (hv : v = diskF D' ms mh wv i) (ho : ∀ j, j < 72 → j ≠ i → diskF D' ms mh wv j = diskF D ms mh wv j) (h1 : D'.sure = D.sure) (h2 : D'.shown = D.shown) (h3 : D'.waits = D.waits) (h4 : D'.n = D.n) :
    DiskP (w.setCell ⟨b, i, none⟩ v) F b ms mh wv D' ∧ Upd (fun k => k = b) w (w.setCell ⟨b, i, none⟩ v) := by
  have hU : Upd (fun k => k = b) w (w.setCell ⟨b, i, none⟩ v) := (Upd.refl _ w).setCell ⟨b, i, none⟩ _ (fun _ => rfl)
  obtain ⟨cs, hcs⟩ : ∃ cs, w.heap[b]? = some (.cells cs 126 (0, 0)) := by
    obtain ⟨cs, h1, _⟩ := h.row; exact ⟨cs, h1⟩
  have keep : ∀ u x, OwnT w F u x → OwnT (w.setCell ⟨b, i, none⟩ v) F u x := fun u x hu => ⟨hu.own.other (fun j hj => hU.block j (hu.own.lt j hj).2 (fun e => by
    obtain ⟨cur, hc⟩ := hu.own.typed hj
    rw [e, hcs] at hc
    simp at hc)), hu.small, hu.inF⟩
  have map : ∀ mb M, SecMap w F mb M → SecMap (w.setCell ⟨b, i, none⟩ v) F mb M := fun mb M hm => by
    have hmb := hU.block mb hm.lt (fun e => hm.ne_cells hcs e.symm)
    obtain ⟨k, C, hc⟩ := hm
    exact ⟨k, C, hc.map.other hmb, fun key v hv => by
      obtain ⟨s, t, e1, e2, e3, e4, e5⟩ := hc.all key v hv
      exact ⟨s, t, e1, e2, e3, keep _ _ e4, e5⟩, hc.has, hc.inF⟩
  obtain ⟨L, hL⟩ := h.wait
  refine ⟨⟨?_, h.fb, ?_, ?_, h.ne, ?_, by rw [h4]; exact h.lo, by rw [h4]; exact h.hi⟩, hU⟩
  · refine (h.row.set i v).congr fun j hj => ?_
    by_cases e : j = i
    · rw [if_pos e, e, hv]
    · rw [if_neg e, ho j hj e]
  · rw [h1]; exact map _ _ h.sure
  · rw [h2]; exact map _ _ h.shown
  · rw [h3]
    refine ⟨L, hL.len, fun j u p a c => by obtain ⟨e1, e2, e3⟩ := hL.all j u p a c; exact ⟨e1, e2, keep _ _ e3⟩, ?_, hL.inF⟩
    rcases hL.row with r | ⟨e, g, rfl, hg⟩
    · left
      refine ⟨r.1, ?_⟩
      rcases r.2 with hn | ⟨g, cap, cur, rfl, hb, hgg, rest⟩
      · exact .inl hn
      · exact .inr ⟨g, cap, cur, rfl, hb, hU.at hgg (fun e => by rw [e, hcs] at hgg; simp at hgg), rest⟩
    · exact .inr ⟨e, g, rfl, by simpa using hg⟩
end
end Go.Proofs.YtjhfoddhpmmjoaaDoor
