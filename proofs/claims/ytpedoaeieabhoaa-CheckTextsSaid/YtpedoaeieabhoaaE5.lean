/- Lemmas for the seat: the conditions of code, and contracts of functions, part 5. Condition: none. -/
import Derived.Test.YtpedoaeieabhoaaE4

/- Contracts: a block (reference 20). -/
namespace Go.Proofs.Ytpedoaeieabhoaa.V
open Go Go.Vc Go.Proofs
open Go.Vc (Bytes)

def NodesSpec (len : Int) (f : Nat) : Prop := ∀ (n₀ g : Nat) (D : Sl) (deep : Nat) (st : M.St) (w : World), PIn n₀ w g len D st → (∀ ad, D.a = some ad → ad.block < w.heap.size) → 1 ≤ deep → deep ≤ 17 → 2 * st.l.length + 1 ≤ f → (∀ x ∈ st.l, M.ItOk x) → M.sumT st.l ≤ 1099511627776 → st.l.length ≤ 1000000 →
  Calls P F_ref20_Parser_nodes #[.pointer (some ⟨g, 0, none⟩), .int .i64 (deep : Int)] w (Outc g w (M.nodesF len f deep st []) NodesBad (NodesGood n₀ g len D w))
def BlockSpec (len : Int) (f : Nat) : Prop := ∀ (n₀ g : Nat) (D : Sl) (kind : Int) (S : Nat → Prop) (slw : Sl) (pc : M.Piece) (m deep : Nat) (st : M.St) (w : World), PIn n₀ w g len D st → (∀ ad, D.a = some ad → ad.block < w.heap.size) → LstAt M.wR w S slw pc.words → (∀ k, S k → k < w.heap.size ∧ k ≠ g) → M.POk pc → m ≤ pc.words.length → deep ≤ 17 → 2 * st.l.length + 2 ≤ f → (∀ x ∈ st.l, M.ItOk x) → M.sumT st.l ≤ 1099511627776 → st.l.length ≤ 1000000 →
  Calls P F_ref20_Parser_block #[.pointer (some ⟨g, 0, none⟩), .int .i64 kind, .agg #[.slice slw.a slw.len slw.cap, .string (bs pc.head), .int .i64 pc.at_], .int .i64 (m : Int), .int .i64 (deep : Int)] w (Outc g w (M.blockF len f kind pc m deep st) NodeBad (NodeGood n₀ g len D w))

theorem block_step (len : Int) (f : Nat) (hN : NodesSpec len f) (hB : BlockSpec len f) : BlockSpec len (f + 1) := by
  intro n₀ g D kind S slw pc m deep st w h hD hw hS hp hml hdeep hfl hit hsum hcnt
  refine ok_ref20_Parser_block _ _ _ _ _ _ _ ?_
  unfold vc_ref20_Parser_block
  have hlt := h.lt
  have hwl := hw.len
  intro b hb b1 hb1 b2 hb2 w0 hL0
  have hbs3 : ∀ k, k ∈ [b2, b1, b] → w.heap.size ≤ k := by intro k hk; simp at hk; omega
  have hgs3 : ∀ k, k ∈ [b2, b1, b] → g < k := by intro k hk; have := hbs3 k hk; omega
  have hf0 : Fr (fun k => k = g) w w0 := hL0.fr fun k hk => .inr (hbs3 k hk)
  have hm0 := hL0.mem
  have step : ∀ {w1 w2 : World}, Fr (fun k => k = g) w w1 → Fr (fun k => k = g) w1 w2 → Fr (fun k => k = g) w w2 := fun h1 h2 => h1.trans h2 fun k hk => .inl hk
  have bstep3 : ∀ {w1 w2 : World}, Fr (fun k => k = g) w w1 → LocB [b2, b1, b] w1 w2 → Fr (fun k => k = g) w w2 := fun h1 h2 => h1.loc h2 fun k hk => .inr (hbs3 k hk)
  generalize hmod : M.blockF len (f + 1) kind pc m deep st = mod
  rw [M.blockF] at hmod
  have bad : ∀ {w1 w2 : World} {B : List Nat} {x : Int × Int} (sp sb se : Sl), (∀ k, k ∈ B → w.heap.size ≤ k) → Fr (fun k => k = g) w w1 → PErr w1 g x → LocB B w1 w2 → mod = .error x →
      Outc g w mod NodeBad (NodeGood n₀ g len D w) (.returned (.tuple #[.agg #[.int .i64 kind, .string (bs []), .string (bs []), .slice sp.a sp.len sp.cap, .slice sb.a sb.len sb.cap, .slice se.a se.len se.cap, .int .i64 pc.at_, .int .i64 0, .int .i64 0], .bool false])) w2 := by
    intro w1 w2 B x sp sb se hBs hf he hL hm
    exact ⟨hf.loc hL fun k hk => .inr (hBs k hk), .inl ⟨x, hm, NodeBad.mk kind [] [] sp sb se pc.at_ 0 0, he.keep (hL.block g he.lt (fun hk => by have := hBs g hk; omega))⟩⟩
  refine (count_spec (h.loc hL0 hgs3) pc.at_).mono ?_
  rintro en w1 ⟨hf01, hcase⟩
  have hf1 := step hf0 hf01
  have hm1 := fr_mem hf01 hm0
  have bx1 := fr_box hbs3 hlt hf01 hm0
  rcases hcase with ⟨x, hx, rfl, he⟩ | ⟨st1, hx, rfl, hst1l, _, hP1⟩
  · rw [hx] at hmod
    exact ⟨false, rfl, bx1 b2 (by simp), bx1 b1 (by simp), bx1 b (by simp), br_not (fun _ w2 hL2 => bad ⟨none, 0, 0⟩ ⟨none, 0, 0⟩ ⟨none, 0, 0⟩ hbs3 hf1 he hL2 hmod.symm) (fun h => by cases h)⟩
  rw [hx] at hmod
  simp only at hmod
  refine ⟨true, rfl, bx1 b2 (by simp), bx1 b1 (by simp), bx1 b (by simp), br_not (fun h => by cases h) (fun _ => ?_)⟩
  have hw1 : LstAt M.wR w1 S slw pc.words := hw.keep (fun _ _ h => h) fun k hk => hf1.block k (hS k hk).1 (hS k hk).2
  refine (ppipe_spec hP1 hw1 (fun k hk => ⟨Nat.lt_of_lt_of_le (hS k hk).1 hf1.size, (hS k hk).2⟩) hp.ok hp.len m rfl hml).mono ?_
  rintro en w3 ⟨hf13, hcase⟩
  have hf3 := step hf1 hf13
  have hm3 := fr_mem hf13 hm1
  have bx3 := fr_box hbs3 hlt hf13 hm1
  rcases hcase with ⟨x, hx, ⟨sl, rfl⟩, he⟩ | ⟨pi, hx, sl, rfl, hpi, hP3⟩
  · rw [hx] at hmod
    exact ⟨sl, false, rfl, bx3 b2 (by simp), bx3 b1 (by simp), bx3 b (by simp), br_not (fun _ w4 hL4 => bad sl ⟨none, 0, 0⟩ ⟨none, 0, 0⟩ hbs3 hf3 he hL4 hmod.symm) (fun h => by cases h)⟩
  rw [hx] at hmod
  simp only at hmod
  refine ⟨sl, true, rfl, bx3 b2 (by simp), bx3 b1 (by simp), bx3 b (by simp), br_not (fun h => by cases h) (fun _ => br_dec (fun h1 w5 hL5 => ?_) (fun h1 b3 hb3 => ⟨inI64 (by omega) (by omega), fun w8 hL8 => ?_⟩))⟩
  · rw [if_pos (by omega)] at hmod
    refine (fail_spec (hP3.loc hL5 hgs3) _ _).mono ?_
    rintro _ w6 ⟨rfl, he, hf56⟩
    have bx := fr_box hbs3 hlt hf56 hL5.mem
    exact ⟨false, rfl, bx b2 (by simp), bx b1 (by simp), bx b (by simp), fun w7 hL7 => bad sl ⟨none, 0, 0⟩ ⟨none, 0, 0⟩ hbs3 (step (bstep3 hf3 hL5) hf56) he hL7 hmod.symm⟩
  rw [if_neg (by omega)] at hmod
  have hz1 := hf1.size
  have hz3 := hf13.size
  have hbs : ∀ k, k ∈ [b3, b2, b1, b] → w.heap.size ≤ k := by intro k hk; simp at hk; omega
  have hgs : ∀ k, k ∈ [b3, b2, b1, b] → g < k := by intro k hk; have := hbs k hk; omega
  have bstep : ∀ {w1 w2 : World}, Fr (fun k => k = g) w w1 → LocB [b3, b2, b1, b] w1 w2 → Fr (fun k => k = g) w w2 := fun h1 h2 => h1.loc h2 fun k hk => .inr (hbs k hk)
  have hX1 : ∀ {w1 w2 : World}, Fr (fun k => k = g) w1 w2 → Fr (fun k => k = g ∨ k ∈ [b3, b2, b1, b]) w1 w2 := fun h => h.mono fun k hk => .inl (.inl hk)
  have hX2 : ∀ {w1 w2 : World}, LocB [b3, b2, b1, b] w1 w2 → Fr (fun k => k = g ∨ k ∈ [b3, b2, b1, b]) w1 w2 := fun h => h.fr fun k hk => .inl (.inr hk)
  have xs : ∀ {w1 w2 w3 : World}, Fr (fun k => k = g ∨ k ∈ [b3, b2, b1, b]) w1 w2 → Fr (fun k => k = g ∨ k ∈ [b3, b2, b1, b]) w2 w3 → Fr (fun k => k = g ∨ k ∈ [b3, b2, b1, b]) w1 w3 := fun h1 h2 => h1.trans h2 fun k hk => .inl hk
  have hm3' : ∀ k, k ∈ [b2, b1, b] → k < w1.heap.size := hm1
  have pfree : ∀ k, rng w1.heap.size w3.heap.size k → ¬ (k = g ∨ k ∈ [b3, b2, b1, b]) := by
    intro k hk
    have g1 := hm1 b2 (by simp)
    have g2 := hm1 b1 (by simp)
    have g3 := hm1 b (by simp)
    have := hk.1
    have := hk.2
    simp; omega
  have hD8 : ∀ ad, D.a = some ad → ad.block < w8.heap.size := fun ad had => Nat.lt_of_lt_of_le (hD ad had) (bstep hf3 hL8).size
  have hP8 := hP3.loc hL8 hgs
  have hf8 := bstep hf3 hL8
  have hm8 := hL8.mem
  refine (hN n₀ g D (deep + 1) st1 w8 hP8 hD8 (by omega) (by omega) (by rw [hst1l]; omega) (by rw [hst1l]; exact hit) (by rw [hst1l]; exact hsum) (by rw [hst1l]; exact hcnt)).mono ?_
  rintro en w9 ⟨hf89, hcase⟩
  have hf9 := step hf8 hf89
  have hm9 := fr_mem hf89 hm8
  have bx9 := fr_box hbs hlt hf89 hm8
  rcases hcase with ⟨x, hx, ⟨sl4, sl5, hd, a7, rfl⟩, he⟩ | ⟨⟨body, pe, st2⟩, hx, sl4, sl5, rfl, hbody, hpw, hP9⟩
  · rw [hx] at hmod
    exact ⟨sl4, sl5, hd, a7, false, rfl, bx9 b3 (by simp), bx9 b2 (by simp), bx9 b1 (by simp), bx9 b (by simp), br_not (fun _ w10 hL10 => bad sl sl4 ⟨none, 0, 0⟩ hbs hf9 he hL10 hmod.symm) (fun h => by cases h)⟩
  have hnl := ((M.nl len f).n _ _ _ _ _ _ hx)
  obtain ⟨_, hst2l, xp, hxp, hxw⟩ := hnl.2 (by omega)
  have hst2s := hnl.1.1
  rw [hst1l] at hst2l hxp hst2s
  have hpe := (M.wordsP_ok (by have := (hit xp hxp).1; omega) hxw).1
  rw [hx] at hmod
  simp only at hmod
  simp only at hP9 hbody hpw
  have hit2 : ∀ x ∈ st2.l, M.ItOk x := fun x hx => hit x (hst2s.subset hx)
  have hsum2 : M.sumT st2.l ≤ 1099511627776 := Nat.le_trans (M.sumT_suffix hst2s) hsum
  have hz8 := hf8.size
  have hz38 := hL8.size
  have hz9 := hf89.size
  have F9 : Fr (fun k => k = g ∨ k ∈ [b3, b2, b1, b]) w3 w9 := xs (hX2 hL8) (hX1 hf89)
  have bfree : ∀ k, rng w8.heap.size w9.heap.size k → ¬ (k = g ∨ k ∈ [b3, b2, b1, b]) := by
    intro k hk
    have g1 := hm8 b3 (by simp)
    have g2 := hm8 b2 (by simp)
    have g3 := hm8 b1 (by simp)
    have g4 := hm8 b (by simp)
    have := hk.1
    have := hk.2
    simp; omega
  have hpl := hpw.len
  have good : ∀ {w' : World} (se : Sl) (els : List M.Node) (st' : M.St), Fr (fun k => k = g) w w' → Fr (fun k => k = g ∨ k ∈ [b3, b2, b1, b]) w9 w' → LstAt (M.nodeR w' (rng w.heap.size w'.heap.size)) w' (rng w.heap.size w'.heap.size) se els → PIn n₀ w' g len D st' → mod = .ok (.mk ⟨kind, [], [], pi, pc.at_, 0, 0⟩ body els, st') →
      Outc g w mod NodeBad (NodeGood n₀ g len D w) (.returned (.tuple #[.agg #[.int .i64 kind, .string (bs []), .string (bs []), .slice sl.a sl.len sl.cap, .slice sl4.a sl4.len sl4.cap, .slice se.a se.len se.cap, .int .i64 pc.at_, .int .i64 0, .int .i64 0], .bool true])) w' := by
    intro w' se els st' hf hF hels hP hm
    have hz := hF.size
    refine ⟨hf, .inr ⟨_, hm, NodeGood.mk (h := ⟨kind, [], [], pi, pc.at_, 0, 0⟩) (sp := sl) (sb := sl4) (se := se) ?_ ?_ hels hP⟩⟩
    · exact calls_move hpi (fun k hk => (xs F9 hF).block k hk.2 (pfree k hk)) (fun k hk => hk.sub hz1 (by omega))
    · exact nodes_move hbody (fun k hk => hF.block k hk.2 (bfree k hk)) (fun k hk => hk.sub hz8 hz)
  -- the rest: no else, or else with nodes
  refine ⟨sl4, sl5, pe.head, pe.at_, true, rfl, bx9 b3 (by simp), bx9 b2 (by simp), bx9 b1 (by simp), bx9 b (by simp), br_not (fun h => by cases h) (fun _ => ?_)⟩
  refine ⟨fun se hd at_ w' => ∃ (els : List M.Node) (st' : M.St) (Se : Nat → Prop), Fr (fun k => k = g) w w' ∧ Fr (fun k => k = g ∨ k ∈ [b3, b2, b1, b]) w9 w' ∧ LstAt (M.nodeR w' Se) w' Se se els ∧ (∀ k, Se k → rng w.heap.size w'.heap.size k ∧ ¬ (k = g ∨ k ∈ [b3, b2, b1, b])) ∧ PIn n₀ w' g len D st' ∧ mod = (if hd ≠ M.wEnd then .error (at_, 33) else .ok (.mk ⟨kind, [], [], pi, pc.at_, 0, 0⟩ body els, st')), ?_, ?_⟩
  · refine br_dec (fun h2 => ?_) (fun h2 w10 hL10 => ?_)
    · have hE : pe.head = M.wElse := h2
      rw [if_pos hE] at hmod
      refine br_dec (fun h3 => ?_) (fun h3 => ⟨inI64 (by omega) (by omega), fun w10 hL10 => ?_⟩)
      · have h1l : 1 < pe.words.length := by omega
        rw [M.elseIf_long pe h1l] at hmod
        have rd9 : ∀ {w' : World}, Fr (fun k => k = g ∨ k ∈ [b3, b2, b1, b]) w9 w' → LstAt M.wR w' (rng w8.heap.size w9.heap.size) sl5 pe.words := fun hF => hpw.keep (fun _ _ h => h) fun k hk => hF.block k hk.2 (bfree k hk)
        obtain ⟨ad, p1, _⟩ := M.words_read hpw (fun k hk => hk.2) (Grow.refl w9) 1 h1l
        refine ⟨fun w' => Fr (fun k => k = g) w w' ∧ Fr (fun k => k = g ∨ k ∈ [b3, b2, b1, b]) w9 w' ∧ PIn n₀ w' g len D st2 ∧ (∀ k, k ∈ [b3, b2, b1, b] → k < w'.heap.size) ∧ ¬ (pe.words[1].kind ≠ 1 ∨ pe.words[1].text ≠ M.wIf), ⟨by omega, h3, ad, p1, fun w11 hL11 => ?_⟩, ?_⟩
        · have F11 := hX2 hL11
          obtain ⟨ad', q1, _, _, q2, q3, _⟩ := M.words_read (rd9 F11) (fun k hk => Nat.lt_of_lt_of_le hk.2 F11.size) (Grow.refl w11) 1 h1l
          rw [p1] at q1
          cases q1
          have badw : ∀ w12 : World, LocB [b3, b2, b1, b] w11 w12 → (pe.words[1].kind ≠ 1 ∨ pe.words[1].text ≠ M.wIf) → Calls P F_ref20_Parser_fail #[Value.pointer (some ⟨g, 0, none⟩), Value.int .i64 pe.at_, Value.int .i64 33] w12 (fun (e_4 : Ending) (w_13 : World) =>
                            ∃ r9 : Bool, e_4 = Ending.returned (Value.bool r9) ∧ w_13.heap[b3]? = w12.heap[b3]? ∧ w_13.heap[b2]? = w12.heap[b2]? ∧ w_13.heap[b1]? = w12.heap[b1]? ∧ w_13.heap[b]? = w12.heap[b]? ∧
                            ∀ w_14 : World, LocB [b3, b2, b1, b] w_13 w_14 →
                            Outc g w mod NodeBad (NodeGood n₀ g len D w) (Ending.returned (Value.tuple #[Value.agg #[Value.int .i64 kind, Value.string (bs ([] : Bytes)), Value.string (bs ([] : Bytes)), Value.slice sl.a sl.len sl.cap, Value.slice sl4.a sl4.len sl4.cap, Value.slice none 0 0, Value.int .i64 pc.at_, Value.int .i64 0, Value.int .i64 0], Value.bool r9])) w_14) := by
            intro w12 hL12 hc
            refine (fail_spec ((hP9.loc hL11 hgs).loc hL12 hgs) _ _).mono ?_
            rintro _ w13 ⟨rfl, he, hf1213⟩
            have bx := fr_box hbs hlt hf1213 hL12.mem
            rw [if_pos hc] at hmod
            exact ⟨false, rfl, bx b3 (by simp), bx b2 (by simp), bx b1 (by simp), bx b (by simp), fun w14 hL14 => bad sl sl4 ⟨none, 0, 0⟩ hbs (step (bstep (bstep hf9 hL11) hL12) hf1213) he hL14 hmod.symm⟩
          refine ⟨pe.words[1].kind, by simpa using q2, br_ndec (fun h4 w12 hL12 => badw w12 hL12 (.inl h4)) (fun h4 => ⟨by omega, h3, ad, p1, pe.words[1].text, by simpa using q3, br_ndec (fun h5 w12 hL12 => badw w12 hL12 (.inr h5)) (fun h5 => ⟨bstep hf9 hL11, F11, hP9.loc hL11 hgs, hL11.mem, fun hc => hc.elim (fun e => e h4) (fun e => e h5)⟩)⟩)⟩
        · rintro w18 ⟨hf18, F18, hP18, hm18, hc⟩
          rw [if_neg hc] at hmod
          simp only at hmod
          refine ⟨inI64 (by omega) (by omega), br_dec (fun h4 w19 hL19 => ?_) (fun h4 => ⟨inI64 (by omega) (by omega), ?_⟩)⟩
          · rw [if_pos (by omega)] at hmod
            refine (fail_spec (hP18.loc hL19 hgs) _ _).mono ?_
            rintro _ w20 ⟨rfl, he, hf1920⟩
            have bx := fr_box hbs hlt hf1920 hL19.mem
            exact ⟨false, rfl, bx b3 (by simp), bx b2 (by simp), bx b1 (by simp), bx b (by simp), fun w21 hL21 => bad sl sl4 ⟨none, 0, 0⟩ hbs (step (bstep hf18 hL19) hf1920) he hL21 hmod.symm⟩
          · rw [if_neg (by omega)] at hmod
            have hcall := hB n₀ g D 3 (rng w8.heap.size w9.heap.size) sl5 pe 2 (deep + 1) st2 w18 hP18 (fun ad had => Nat.lt_of_lt_of_le (hD ad had) hf18.size) (rd9 F18) (fun k hk => ⟨Nat.lt_of_lt_of_le hk.2 F18.size, fun e => bfree k hk (.inl e)⟩) hpe (by omega) (by omega) (by omega) hit2 hsum2 (by omega)
            refine hcall.mono ?_
            rintro en w22 ⟨hf1822, hcase⟩
            have hf22 := step hf18 hf1822
            have bx := fr_box hbs hlt hf1822 hm18
            have hm22 := fr_mem hf1822 hm18
            rcases hcase with ⟨x, hx2, ⟨k, t, nm, sp, sb, se, a, e, u, rfl⟩, he⟩ | ⟨⟨xn, st3⟩, hx2, ⟨k, t, nm, sp, sb, se, a, e, u, rfl, hxr⟩, hP22⟩
            · rw [hx2] at hmod
              refine ⟨k, t, nm, sp, sb, se, a, e, u, false, rfl, bx b3 (by simp), bx b2 (by simp), bx b1 (by simp), bx b (by simp), fun b4 hb4 w23 hL23 w24 hL24 => ?_⟩
              have hz22 := hf22.size
              have hbs4 : ∀ k, k ∈ [b4, b3, b2, b1, b] → w.heap.size ≤ k := by intro k hk; simp at hk; omega
              have hgr := M.grow_alloc w23 (.cells #[Value.int .i64 k, Value.string (bs t), Value.string (bs nm), Value.slice sp.a sp.len sp.cap, Value.slice sb.a sb.len sb.cap, Value.slice se.a se.len se.cap, Value.int .i64 a, Value.int .i64 e, Value.int .i64 u] T_api_Node)
              have hf23 : Fr (fun k => k = g) w w23 := hf22.loc hL23 fun k hk => .inr (hbs4 k hk)
              have he23 := he.keep (hL23.block g he.lt (fun hk => by have := hbs4 g hk; omega))
              exact bad sl sl4 ⟨some ⟨w23.heap.size, 0, none⟩, 1, 1⟩ hbs4 (hf23.grow hgr) (he23.keep (hgr.block g he23.lt)) hL24 hmod.symm
            · rw [hx2] at hmod
              simp only at hmod hxr hP22
              refine ⟨k, t, nm, sp, sb, se, a, e, u, true, rfl, bx b3 (by simp), bx b2 (by simp), bx b1 (by simp), bx b (by simp), fun b4 hb4 w23 hL23 w24 hL24 => ?_⟩
              have hz22 := hf22.size
              have hz18 := hf18.size
              have hz1822 := hf1822.size
              have hbs4 : ∀ k, k ∈ [b4, b3, b2, b1, b] → w.heap.size ≤ k := by intro k hk; simp at hk; omega
              have hgs4 : ∀ k, k ∈ [b4, b3, b2, b1, b] → g < k := by intro k hk; have := hbs4 k hk; omega
              have hgr := M.grow_alloc w23 (.cells #[Value.int .i64 k, Value.string (bs t), Value.string (bs nm), Value.slice sp.a sp.len sp.cap, Value.slice sb.a sb.len sb.cap, Value.slice se.a se.len se.cap, Value.int .i64 a, Value.int .i64 e, Value.int .i64 u] T_api_Node)
              have hz23 := hL23.size
              have hz24 := hL24.size
              have hgz := hgr.size
              have hm23 := hL23.mem
              have hn : w23.heap.size ∉ [b4, b3, b2, b1, b] := fun hk => by have := hm23 _ hk; omega
              obtain ⟨k1, k2, k3⟩ := M.one_new (vs := [Value.int .i64 k, Value.string (bs t), Value.string (bs nm), Value.slice sp.a sp.len sp.cap, Value.slice sb.a sb.len sb.cap, Value.slice se.a se.len se.cap, Value.int .i64 a, Value.int .i64 e, Value.int .i64 u]) rfl hL24 hn
              have Y1 : Fr (fun k => k = g ∨ k ∈ [b3, b2, b1, b]) w22 w23 := hL23.fr fun q hq => by simp at hq; rcases hq with rfl | hq; exact .inr hb4; exact .inl (.inr (by simpa using hq))
              have Y2 : Fr (fun k => k = g ∨ k ∈ [b3, b2, b1, b]) w22 w24 := (Y1.grow hgr).loc hL24 fun q hq => by simp at hq; rcases hq with rfl | hq; exact .inr hb4; exact .inl (.inr (by simpa using hq))
              refine good ⟨some ⟨w23.heap.size, 0, none⟩, 1, 1⟩ [xn] st3 (((hf22.loc hL23 fun q hq => .inr (hbs4 q hq)).grow hgr).loc hL24 fun q hq => .inr (hbs4 q hq)) (xs (xs F18 (hX1 hf1822)) Y2) ⟨[_], ⟨?_, trivial⟩, rfl, Nat.le_refl _, .inr ⟨_, rfl, ⟨?_, k3⟩, by simpa using k1, fun i _ => k2 i⟩⟩ (((hP22.loc hL23 hgs4).grow hgr).loc hL24 hgs4) hmod.symm
              · refine M.nodeR_move (fun q hq => Y2.block q hq.2 fun hc => ?_) (fun q hq => hq.sub hz18 (by omega)) _ _ hxr
                rcases hc with rfl | hc
                · have := hq.1; omega
                · have := hm18 q hc; have := hq.1; omega
              · show w.heap.size ≤ w23.heap.size; omega
      · have h1l : ¬ 1 < pe.words.length := by omega
        rw [M.elseIf_short pe (by omega)] at hmod
        simp only at hmod
        have hP10 := hP9.loc hL10 hgs
        have hf10 := bstep hf9 hL10
        refine (hN n₀ g D (deep + 1) st2 w10 hP10 (fun ad had => Nat.lt_of_lt_of_le (hD ad had) hf10.size) (by omega) (by omega) (by omega) hit2 hsum2 (by omega)).mono ?_
        rintro en w26 ⟨hf1026, hcase⟩
        have hf26 := step hf10 hf1026
        have bx := fr_box hbs hlt hf1026 hL10.mem
        have hm26 := fr_mem hf1026 hL10.mem
        rcases hcase with ⟨x, hx2, ⟨s1, s2, hd, a7, rfl⟩, he⟩ | ⟨⟨els, pe2, st3⟩, hx2, s1, s2, rfl, hels, _, hP26⟩
        · rw [hx2] at hmod
          exact ⟨s1, s2, hd, a7, false, rfl, bx b3 (by simp), bx b2 (by simp), bx b1 (by simp), bx b (by simp), br_not (fun _ w27 hL27 => bad sl sl4 s1 hbs hf26 he hL27 hmod.symm) (fun h => by cases h)⟩
        · rw [hx2] at hmod
          simp only at hmod hels hP26
          refine ⟨s1, s2, pe2.head, pe2.at_, true, rfl, bx b3 (by simp), bx b2 (by simp), bx b1 (by simp), bx b (by simp), br_not (fun h => by cases h) (fun _ w28 hL28 => ?_)⟩
          have hz10 := hf10.size
          have efree : ∀ k, rng w10.heap.size w26.heap.size k → ¬ (k = g ∨ k ∈ [b3, b2, b1, b]) := by
            intro k hk hc
            have h1 := hk.1
            rcases hc with rfl | hc
            · omega
            · have := hL10.mem k hc; omega
          exact ⟨els, st3, rng w10.heap.size w26.heap.size, bstep hf26 hL28, xs (xs (hX2 hL10) (hX1 hf1026)) (hX2 hL28), nodes_move hels (fun k hk => hL28.block k hk.2 fun hc => efree k hk (.inr hc)) (fun k hk => hk), fun k hk => ⟨hk.sub hz10 hL28.size, efree k hk⟩, hP26.loc hL28 hgs, hmod.symm⟩
    · rw [if_neg (show ¬ pe.head = M.wElse from h2)] at hmod
      exact ⟨[], st2, fun _ => False, bstep hf9 hL10, hX2 hL10, LstAt.nil _ _, fun _ h => h.elim, hP9.loc hL10 hgs, hmod.symm⟩
  · rintro se hd at_ w30 ⟨els, st', Se, hf30, F30, hels, hSe, hP30, hm⟩
    refine br_ndec (fun h2 w31 hL31 => ?_) (fun h2 w34 hL34 => ?_)
    · rw [if_pos (show hd ≠ M.wEnd from h2)] at hm
      refine (fail_spec (hP30.loc hL31 hgs) _ _).mono ?_
      rintro _ w32 ⟨rfl, he, hf3132⟩
      have bx := fr_box hbs hlt hf3132 hL31.mem
      exact ⟨false, rfl, bx b3 (by simp), bx b2 (by simp), bx b1 (by simp), bx b (by simp), fun w33 hL33 => bad sl sl4 se hbs (step (bstep hf30 hL31) hf3132) he hL33 hm⟩
    · rw [if_neg (show ¬ hd ≠ M.wEnd from fun h => h h2)] at hm
      refine good se els st' (bstep hf30 hL34) (xs F30 (hX2 hL34)) ?_ (hP30.loc hL34 hgs) hm
      exact nodes_move hels (fun k hk => hL34.block k (hSe k hk).1.2 fun hc => (hSe k hk).2 (.inr hc)) (fun k hk => (hSe k hk).1.sub (Nat.le_refl _) hL34.size)

end Go.Proofs.Ytpedoaeieabhoaa.V

/- Contracts: nodes (reference 20). -/
namespace Go.Proofs.Ytpedoaeieabhoaa.V
open Go Go.Vc Go.Proofs
open Go.Vc (Bytes)

/-- How nodes end. -/
def NR (z : Bool) (mod : M.Res (List M.Node × M.Piece × M.St)) (n₀ n₁ g : Nat) (len : Int) (D : Sl) (w : World) (en : Ending) (w' : World) : Prop :=
  Fr (fun k => k = g ∨ (z = true ∧ k ∈ dB D)) w w' ∧ ((∃ x, mod = .error x ∧ NodesBad en ∧ PErr w' g x) ∨ ∃ (l : List M.Node) (pc : M.Piece) (st' : M.St) (D' : Sl), mod = .ok (l, pc, st') ∧
    (∃ (sl slw : Sl) (S : Nat → Prop), en = .returned (.tuple #[.slice sl.a sl.len sl.cap, .agg #[.slice slw.a slw.len slw.cap, .string (bs pc.head), .int .i64 pc.at_], .bool true]) ∧ LstAt (M.nodeR w' S) w' S sl l ∧ (∀ k, S k → rng w.heap.size w'.heap.size k ∧ k ∉ dB D' ∧ k ≠ g) ∧ LstAt M.wR w' (rng w.heap.size w'.heap.size) slw pc.words) ∧
    PIn n₀ w' g len D' st' ∧ (z = false → D' = D) ∧ (z = true → Bld M.defR n₁ w' D' 2 st'.defs [g]))
def NodesSpecZ (z : Bool) (len : Int) (f : Nat) : Prop := ∀ (n₀ n₁ g : Nat) (D : Sl) (deep : Nat) (st : M.St) (w : World), PIn n₀ w g len D st → (∀ k, k ∈ dB D → k < w.heap.size) → (z = true → deep = 0) → (z = false → 1 ≤ deep) → deep ≤ 17 → 2 * st.l.length + 1 ≤ f → (∀ x ∈ st.l, M.ItOk x) → M.sumT st.l ≤ 1099511627776 → st.l.length ≤ 1000000 → (z = true → st.l.length + st.defs.length ≤ 1000000) → (z = true → Bld M.defR n₁ w D 2 st.defs [g] ∧ n₀ ≤ n₁ ∧ n₁ ≤ w.heap.size) →
  Calls P F_ref20_Parser_nodes #[.pointer (some ⟨g, 0, none⟩), .int .i64 (deep : Int)] w (NR z (M.nodesF len f deep st []) n₀ n₁ g len D w)
def DefineSpec (len : Int) (f : Nat) : Prop := ∀ (n₀ n₁ g : Nat) (D : Sl) (B : List Nat) (S : Nat → Prop) (slw : Sl) (pc : M.Piece) (st : M.St) (w : World), PIn n₀ w g len D st → Bld M.defR n₁ w D 2 st.defs B → g ∈ B → (∀ k, k ∈ B → k < w.heap.size) → n₀ ≤ n₁ → n₁ ≤ w.heap.size → LstAt M.wR w S slw pc.words → (∀ k, S k → k < w.heap.size ∧ k ≠ g ∧ k ∉ dB D) → M.POk pc → 2 * st.l.length + 2 ≤ f → (∀ x ∈ st.l, M.ItOk x) → M.sumT st.l ≤ 1099511627776 → st.l.length ≤ 1000000 → st.defs.length ≤ 1000000 →
  Calls P F_ref20_Parser_define #[.pointer (some ⟨g, 0, none⟩), .agg #[.slice slw.a slw.len slw.cap, .string (bs pc.head), .int .i64 pc.at_]] w (fun en w' => Fr (fun k => k = g ∨ k ∈ dB D) w w' ∧ ((∃ x, M.defineF len f pc st = .error x ∧ en = .returned (.bool false) ∧ PErr w' g x) ∨ ∃ (st' : M.St) (D' : Sl), M.defineF len f pc st = .ok st' ∧ en = .returned (.bool true) ∧ PIn n₀ w' g len D' st' ∧ Bld M.defR n₁ w' D' 2 st'.defs B ∧ (∀ k, k ∈ dB D' → k ∈ dB D ∨ w.heap.size ≤ k)))

/-- The loop's state. -/
def NJ (z : Bool) (mod : M.Res (List M.Node × M.Piece × M.St)) (n₀ n₁ g b : Nat) (len : Int) (D : Sl) (deep f : Nat) (st : M.St) (w : World) (out : Sl) (n : Nat) (w' : World) : Prop :=
  ∃ (acc : List M.Node) (st' : M.St) (D' : Sl), mod = M.nodesF len n deep st' acc ∧ n ≤ f ∧ 2 * st'.l.length + 1 ≤ n ∧ st'.l <:+ st.l ∧ acc.length + st'.l.length ≤ st.l.length ∧ st'.l.length + st'.defs.length ≤ st.l.length + st.defs.length ∧
    (∀ init hd bb e, acc = init ++ [.mk hd bb e] → hd.text.length + M.sumT st'.l ≤ 1099511627776) ∧ Two z n₀ n₁ w.heap.size w' g [b] len D' out st' acc ∧ Fr (fun k => k = g ∨ (z = true ∧ k ∈ dB D)) w w' ∧ (z = false → D' = D) ∧ (∀ k, k ∈ dB D' → k ∈ dB D ∨ w.heap.size ≤ k)

theorem nodes_step (z : Bool) (len : Int) (f : Nat) (hB : ∀ f', f' < f → BlockSpec len f') (hdf : z = true → ∀ f', f' < f → DefineSpec len f') : NodesSpecZ z len f := by
  intro n₀ n₁ g D deep st w h hD hz0 hz1 hdeep hfl hit hsum hcnt hcnt2 hdefs
  refine ok_ref20_Parser_nodes _ _ ?_
  unfold vc_ref20_Parser_nodes
  have hlt := h.lt
  generalize hmod : M.nodesF len f deep st [] = mod
  generalize hX : (fun k => k = g ∨ (z = true ∧ k ∈ dB D)) = X
  have hXg : ∀ k, k = g → X k := fun k hk => by rw [← hX]; exact .inl hk
  have bad : ∀ {w1 w2 : World} {B : List Nat} {x : Int × Int} (sl slw : Sl) (hd : Bytes) (a : Int), (∀ k, k ∈ B → w.heap.size ≤ k) → Fr X w w1 → PErr w1 g x → LocB B w1 w2 → mod = .error x →
      NR z mod n₀ n₁ g len D w (.returned (.tuple #[.slice sl.a sl.len sl.cap, .agg #[.slice slw.a slw.len slw.cap, .string (bs hd), .int .i64 a], .bool false])) w2 := by
    intro w1 w2 B x sl slw hd a hBs hf he hL hm
    exact ⟨by rw [hX]; exact hf.loc hL fun k hk => .inr (hBs k hk), .inl ⟨x, hm, ⟨sl, slw, hd, a, rfl⟩, he.keep (hL.block g he.lt (fun hk => by have := hBs g hk; omega))⟩⟩
  intro b hb w0 hL0
  have hT0 : Two z n₀ n₁ w.heap.size w g [] len D ⟨none, 0, 0⟩ st [] := ⟨h, Bld.nil _ _ _ _ _, hD, fun hz => ⟨(hdefs hz).1.less (by intro k hk; simp [dB] at hk ⊢; exact hk), (hdefs hz).2.1⟩, by simp, by have := h.low; omega, Nat.le_refl _⟩
  have hT1 := hT0.newLoc (B' := [b]) (by simpa using hb) hL0 (fun k hk => .inl hk) (fun k hk => hk)
  have hg1 : Fr X w w0 := hL0.fr fun k hk => .inr (by simp at hk; omega)
  refine ⟨NJ z mod n₀ n₁ g b len D deep f st w, f, ⟨[], st, D, hmod.symm, Nat.le_refl _, hfl, List.suffix_refl _, by simp, Nat.le_refl _, (fun init hd bb e he => by simp at he), by simpa using hT1, by rw [hX]; exact hg1, fun _ => rfl, fun k hk => .inl hk⟩, ?_⟩
  rintro out n w1 ⟨acc, st', D', hm, hnf, hfu, hsuf, hal, hdl, htx, hT, hF, hDz, hDm⟩
  rw [hX] at hF
  obtain ⟨f', rfl⟩ : ∃ f', n = f' + 1 := ⟨n - 1, by omega⟩
  rw [M.nodesF] at hm
  obtain ⟨L, c1, c2, c3⟩ := hT.items
  have hz := hF.size
  refine ⟨L, c1, br_dec (fun h1 => ?_) (fun h1 => ?_)⟩
  · obtain ⟨x, r, hl⟩ : ∃ x r, st'.l = x :: r := by
      cases hq : st'.l with
      | nil => rw [hq] at c2; simp at c2; omega
      | cons x r => exact ⟨x, r, rfl⟩
    rw [hl] at hm
    simp only at hm
    have hlr : r.length + 1 = st'.l.length := by rw [hl]; rfl
    have hsr : r <:+ st.l := (List.suffix_cons x r).trans (by rw [← hl]; exact hsuf)
    have hsT : M.sumT st'.l = x.text.length + M.sumT r := by rw [hl, M.sumT_cons]
    have hxo : M.ItOk x := hit x (hsuf.subset (by rw [hl]; simp))
    have hitr : ∀ y ∈ r, M.ItOk y := fun y hy => hit y (hsr.subset hy)
    have hsumr : M.sumT r ≤ 1099511627776 := Nat.le_trans (M.sumT_suffix hsr) hsum
    obtain ⟨ad, a1, a2⟩ := c3 x r hl
    refine ⟨L, c1, by omega, h1, ad, a1, x.kind, x.text, x.at_, by simpa using a2, fun b1 hb1 w2 hL2 => ?_⟩
    have hT2 := hT.newLoc (B' := [b1]) (by simpa using hb1) hL2 (fun k hk => by simp at hk ⊢; exact hk) (fun k hk => by simp at hk ⊢; exact .inl hk)
    have hbw : w.heap.size ≤ b := hb
    have hbs2 : ∀ k, k ∈ [b1, b] → w.heap.size ≤ k := by intro k hk; simp at hk; omega
    have hF2 : Fr X w w2 := hF.loc hL2 fun k hk => .inr (hbs2 k hk)
    obtain ⟨L2, d1, d2, d3, hT3, hF3⟩ := hT2.pop hl
    have e1 : (1 : Int).toNat = 1 := rfl
    refine ⟨L2, d1, by omega, by omega, d3, by show g ≠ b1; omega, by show g ≠ b; omega, ?_⟩
    rw [e1]
    generalize setCells w2 ⟨g, 0, none⟩ [.slice (cutA L2.a 1 L2.cap 3) (L2.len - 1) (L2.cap - 1)] = w3 at *
    have hF3' : Fr X w w3 := hF2.trans hF3 fun k hk => .inl (hXg k hk)
    clear hF2 hF3 d1 d2 d3 a2 a1 c3 hT2
    have holen := hT3.olen
    have hm2 : ∀ k, k ∈ [b1, b] → k < w3.heap.size := fun k hk => (hT3.box k (by simpa using hk)).1
    have hz3 := hF3'.size
    refine ⟨fun w' => w' = w3 ∧ ¬ (x.kind = 1 ∧ M.lastText acc = true), ⟨inI64 (by omega) (by omega), br_dec (fun hk => br_dec (fun ho => ?_) (fun ho => ⟨rfl, ?_⟩)) (fun hk => ⟨rfl, fun e => hk e.1⟩)⟩, ?_⟩
    · -- a text behind a text
      obtain ⟨init, nd, hacc⟩ : ∃ init nd, acc = init ++ [nd] := by
        rcases List.eq_nil_or_concat acc with e | ⟨i, a, e⟩
        · rw [e] at holen; simp at holen; omega
        · exact ⟨i, a, by rw [e, List.concat_eq_append]⟩
      obtain ⟨hd, bb, ee⟩ := nd
      have hil : ((out.len : Int) - 1).toNat = init.length := by rw [holen, hacc]; simp
      rw [hil]
      obtain ⟨ad, t1, t2, t3, t4, t5, t6⟩ := hT3.text hacc
      refine ⟨by omega, by omega, ad, t1, hd.kind, t4, br_dec (fun h3 w4 hL4 => ?_) (fun h3 => ⟨rfl, fun e => by rw [hacc, M.lastText_snoc, decide_eq_false h3] at e; cases e.2⟩)⟩
      have hT4 := hT3.loc hL4 (fun k hk => by simpa using hk)
      obtain ⟨ad', u1, u2, u3, u4, u5, u6⟩ := hT4.text hacc
      rw [t1] at u1
      cases u1
      obtain ⟨v1, v2, v3⟩ := u6 (hd.text ++ x.text)
      have htx' := htx init hd bb ee hacc
      refine ⟨by omega, by omega, ad, t1, hd.text, u5, by omega, by omega, by omega, ad, t1, v1, ?_, ?_, f', by omega, ?_⟩
      · rw [add_block, add_block]; intro e; exact u3 (by simp [e])
      · rw [add_block, add_block]; intro e; exact u3 (by simp [e])
      · rw [if_pos ⟨hk, by rw [hacc, M.lastText_snoc, decide_eq_true h3]⟩, hacc, M.addText_snoc] at hm
        refine ⟨_, _, D', hm, by omega, by show 2 * r.length + 1 ≤ f'; omega, hsr, ?_, ?_, ?_, v2.less (by intro k hk; simp at hk ⊢; exact .inr hk), ?_, hDz, hDm⟩
        · rw [hacc] at hal; simp at hal ⊢; omega
        · show r.length + st'.defs.length ≤ _; omega
        · intro i2 h2 b2 e2 he
          have := List.append_inj' he rfl
          have h5 := this.2
          simp at h5
          obtain ⟨rfl, _⟩ := h5
          simp only [List.length_append]
          show hd.text.length + x.text.length + M.sumT r ≤ _
          omega
        · rw [hX]
          refine (hF3'.loc hL4 fun k hk => .inr (hbs2 k hk)).trans v3 fun k hk => .inr (hT4.bld.dlt k hk).2.1
    · rintro ⟨_, e⟩
      have : acc = [] := List.eq_nil_of_length_eq_zero (by omega)
      rw [this] at e
      simp [M.lastText] at e
    rintro w4 ⟨rfl, hnl⟩
    rw [if_neg hnl] at hm
    -- what follows an appended node
    have after : ∀ {st1 : M.St} {n1 : M.Node} {out' : Sl} {w' : World} {Bx : List Nat}, mod = M.nodesF len f' deep st1 (acc ++ [n1]) → st1.l <:+ r → st1.defs = st'.defs → n1.hd.text.length + M.sumT st1.l ≤ 1099511627776 → Two z n₀ n₁ w.heap.size w' g Bx len D' out' st1 (acc ++ [n1]) → b ∈ Bx → Fr X w w' → NJ z mod n₀ n₁ g b len D deep f st w out' f' w' := by
      intro st1 n1 out' w' Bx hm' hs1 hd1 ht1 hT' hbx hF'
      have hl1 := hs1.length_le
      refine ⟨_, st1, D', hm', by omega, by omega, hs1.trans hsr, by simp; omega, by rw [hd1]; omega, fun init hd bb e he => ?_, hT'.less (by intro k hk; simp at hk; rw [hk]; exact hbx), by rw [hX]; exact hF', hDz, hDm⟩
      have := (List.append_inj' he rfl).2
      simp at this
      rw [this] at ht1
      exact ht1
    refine br_dec (fun hk => ?_) (fun hk => ?_)
    · -- a text
      rw [if_pos hk] at hm
      refine (count_spec hT3.pin x.at_).mono ?_
      rintro en w5 ⟨hf45, hcase⟩
      have bx := fr_box hbs2 hlt hf45 hm2
      have hF5 := hF3'.trans hf45 fun k hk => .inl (hXg k hk)
      rcases hcase with ⟨y, hy, rfl, he⟩ | ⟨st1, hy, rfl, y1, y2, hP5⟩
      · rw [hy] at hm
        exact ⟨false, rfl, bx b1 (by simp), bx b (by simp), br_not (fun _ w6 hL6 => bad ⟨none, 0, 0⟩ ⟨none, 0, 0⟩ [] 0 hbs2 hF5 he hL6 hm) (fun h => by cases h)⟩
      rw [hy] at hm
      simp only at hm
      refine ⟨true, rfl, bx b1 (by simp), bx b (by simp), br_not (fun h => by cases h) (fun _ b2 hb2 w7 hL7 => ?_)⟩
      have hT5 := hT3.fr hP5 y2 hf45
      have hT7 := hT5.newLoc (B' := [b2]) (by simpa using hb2) hL7 (fun k hk => by simp at hk ⊢; exact hk) (fun k hk => by simp at hk ⊢; exact .inl hk)
      have hz5 := hF5.size
      have hF7 : Fr X w w7 := hF5.loc hL7 fun k hk => .inr (by simp at hk; omega)
      obtain ⟨old, hpre, hpush⟩ := hT7.push (by omega) (x := .mk ⟨1, x.text, [], [], x.at_, 0, 0⟩ [] []) (S' := fun _ => False) ((M.nodeR_mk _ _ _ _ _ _).2 ⟨⟨none, 0, 0⟩, ⟨none, 0, 0⟩, ⟨none, 0, 0⟩, rfl, LstAt.nil _ _, LstAt.nil _ _, LstAt.nil _ _⟩) (fun _ h => h.elim) T_api_Node
      refine ⟨old, hpre, hT7.bld.neB (by simp), hT7.bld.neB (by simp), hT7.bld.neB (by simp), fun s w8 hr => ?_⟩
      obtain ⟨hT8, hf8⟩ := hpush s w8 hr
      refine ⟨f', by omega, after hm (by rw [y1]; exact List.suffix_refl _) y2 ?_ hT8 (by simp) (hF7.trans hf8 fun k hk => .inr (hT7.bld.dlt k hk).2.1)⟩
      rw [y1]
      show x.text.length + M.sumT r ≤ _
      have := M.sumT_suffix hsuf
      omega
    -- an action
    rw [if_neg hk] at hm
    refine (pwords_spec hT3.pin x (by have := hxo.1; omega) hxo.2.1 (by have := hxo.2.2; omega)).mono ?_
    rintro en w9 ⟨hf49, hcase⟩
    have bx := fr_box hbs2 hlt hf49 hm2
    have hF9 := hF3'.trans hf49 fun k hk => .inl (hXg k hk)
    have hz9 := hF9.size
    have hz49 := hf49.size
    rcases hcase with ⟨y, hy, rfl, he⟩ | ⟨pc, hy, slw, rfl, hpw, hP9⟩
    · rw [hy] at hm
      refine ⟨⟨none, 0, 0⟩, [], 0, false, rfl, bx b1 (by simp), bx b (by simp), fun b3 hb3 => br_not (fun _ w10 hL10 w11 hL11 => ?_) (fun h => by cases h)⟩
      have hbs3 : ∀ k, k ∈ [b3, b1, b] → w.heap.size ≤ k := by intro k hk; simp at hk; omega
      exact bad ⟨none, 0, 0⟩ ⟨none, 0, 0⟩ [] 0 hbs3 (hF9.loc hL10 fun k hk => .inr (hbs3 k hk)) (he.keep (hL10.block g he.lt (fun hk => by have := hbs3 g hk; omega))) hL11 hm
    rw [hy] at hm
    simp only at hm
    have hpok := (M.wordsP_ok (by have := hxo.1; omega) hy).1
    refine ⟨slw, pc.head, pc.at_, true, rfl, bx b1 (by simp), bx b (by simp), fun b3 hb3 => br_not (fun h => by cases h) (fun _ b4 hb4 => ?_)⟩
    have hbs : ∀ k, k ∈ [b4, b3, b1, b] → w.heap.size ≤ k := by intro k hk; simp at hk; omega
    have hT9 := hT3.fr hP9 rfl hf49
    have step : ∀ {wk : World}, LocB [b4, b3, b1, b] w9 wk → Two z n₀ n₁ w.heap.size wk g [b4, b3, b1, b] len D' out { st' with l := r } acc ∧ Fr X w wk := fun hL =>
      ⟨hT9.newLoc (B' := [b4, b3]) (by intro k hk; simp at hk; omega) hL (fun k hk => by simp at hk ⊢; omega) (fun k hk => by simp at hk ⊢; omega), hF9.loc hL fun k hk => .inr (hbs k hk)⟩
    have wfree : ∀ k, rng w4.heap.size w9.heap.size k → k ∉ [b4, b3, b1, b] ∧ k ≠ g ∧ k ∉ dB D' := by
      intro k hk
      have q1 := hm2 b1 (by simp)
      have q2 := hm2 b (by simp)
      have := hk.1
      have := hk.2
      refine ⟨by simp; omega, by omega, fun hd => ?_⟩
      have := hT3.dok k hd
      omega
    have words : ∀ {wk : World}, LocB [b4, b3, b1, b] w9 wk → LstAt M.wR wk (rng w4.heap.size w9.heap.size) slw pc.words := fun hL => hpw.keep (fun _ _ h => h) fun k hk => hL.block k hk.2 (wfree k hk).1
    have wS : ∀ {wk : World}, LocB [b4, b3, b1, b] w9 wk → ∀ k, rng w4.heap.size w9.heap.size k → k < wk.heap.size ∧ k ≠ g := fun hL k hk => ⟨Nat.lt_of_lt_of_le hk.2 hL.size, (wfree k hk).2.1⟩
    have hpl := hpw.len
    have failed : ∀ (e : Int) (wk : World), LocB [b4, b3, b1, b] w9 wk → mod = .error (pc.at_, e) → Calls P F_ref20_Parser_fail #[Value.pointer (some ⟨g, 0, none⟩), Value.int .i64 pc.at_, Value.int .i64 e] wk (fun (e_2 : Ending) (w_13 : World) =>
                  ∃ r5 : Bool, e_2 = Ending.returned (Value.bool r5) ∧ w_13.heap[b4]? = wk.heap[b4]? ∧ w_13.heap[b3]? = wk.heap[b3]? ∧ w_13.heap[b1]? = wk.heap[b1]? ∧ w_13.heap[b]? = wk.heap[b]? ∧
                  ∀ w_14 : World, LocB [b4, b3, b1, b] w_13 w_14 →
                  NR z mod n₀ n₁ g len D w (Ending.returned (Value.tuple #[Value.slice none 0 0, Value.agg #[Value.slice slw.a slw.len slw.cap, Value.string (bs pc.head), Value.int .i64 pc.at_], Value.bool r5])) w_14) := by
      intro e wk hL hme
      refine (fail_spec (step hL).1.pin _ _).mono ?_
      rintro _ w' ⟨rfl, he, hf⟩
      have bx := fr_box hbs hlt hf hL.mem
      exact ⟨false, rfl, bx b4 (by simp), bx b3 (by simp), bx b1 (by simp), bx b (by simp), fun w14 hL14 => bad ⟨none, 0, 0⟩ slw pc.head pc.at_ hbs ((step hL).2.trans hf fun k hk => .inl (hXg k hk)) he hL14 hme⟩
    have ended : ∀ (wk wl : World), LocB [b4, b3, b1, b] w9 wk → LocB [b4, b3, b1, b] wk wl → mod = .ok (acc, pc, { st' with l := r }) → NR z mod n₀ n₁ g len D w (Ending.returned (Value.tuple #[Value.slice out.a out.len out.cap, Value.agg #[Value.slice slw.a slw.len slw.cap, Value.string (bs pc.head), Value.int .i64 pc.at_], Value.bool true])) wl := by
      intro wk wl hL hL' hmo
      obtain ⟨hTk, hFk⟩ := step hL
      have hTl := hTk.loc hL' fun k hk => hk
      obtain ⟨S, hS1, hS2⟩ := hTl.bld.lst2 M.niceNode
      refine ⟨by rw [hX]; exact hFk.loc hL' fun k hk => .inr (hbs k hk), .inr ⟨acc, pc, _, D', hmo, ⟨out, slw, S, rfl, hS1, fun k hk => ⟨(hS2 k hk).1, fun e => (hS2 k hk).2 (by simp [e]), fun e => (hS2 k hk).2 (by simp [e])⟩, ?_⟩, hTl.pin, hDz, fun hz => (hTl.defs hz).1.less (by intro k hk; simp at hk; simp [hk])⟩⟩
      have hs1 := hL.size
      have hs2 := hL'.size
      exact ((words hL).keep (R' := M.wR) (w' := wl) (fun _ _ h => h) fun k hk => hL'.block k (Nat.lt_of_lt_of_le hk.2 hs1) (wfree k hk).1).mono (fun _ _ h => h) fun k hk => hk.sub hz3 (by omega)
    -- a node of a callee
    have node : ∀ (F : FuncId) (args : Array Value) (res : M.Res (M.Node × M.St)) (wk : World), LocB [b4, b3, b1, b] w9 wk → mod = (match res with
        | .error e => .error e
        | .ok (n, st1) => M.nodesF len f' deep st1 (acc ++ [n])) → (∀ n st1, res = .ok (n, st1) → st1.l <:+ r ∧ st1.defs = st'.defs ∧ n.hd.text = []) →
        Calls P F args wk (Outc g wk res NodeBad (NodeGood n₀ g len D' wk)) →
        Calls P F args wk (fun (e_14 : Ending) (w_71 : World) =>
                    ∃ r53 : Int, ∃ r54 : Bytes, ∃ r55 : Bytes, ∃ r56 : Sl, ∃ r57 : Sl, ∃ r58 : Sl, ∃ r59 : Int, ∃ r60 : Int, ∃ r61 : Int, ∃ r62 : Bool, e_14 = Ending.returned (Value.tuple #[Value.agg #[Value.int .i64 r53, Value.string (bs r54), Value.string (bs r55), Value.slice r56.a r56.len r56.cap, Value.slice r57.a r57.len r57.cap, Value.slice r58.a r58.len r58.cap, Value.int .i64 r59, Value.int .i64 r60, Value.int .i64 r61], Value.bool r62]) ∧ w_71.heap[b4]? = wk.heap[b4]? ∧ w_71.heap[b3]? = wk.heap[b3]? ∧ w_71.heap[b1]? = wk.heap[b1]? ∧ w_71.heap[b]? = wk.heap[b]? ∧
                    br (!r62)
                      (∀ w_72 : World, LocB [b4, b3, b1, b] w_71 w_72 →
                      ∀ w_73 : World, LocB [b4, b3, b1, b] w_72 w_73 →
                      NR z mod n₀ n₁ g len D w (Ending.returned (Value.tuple #[Value.slice none 0 0, Value.agg #[Value.slice slw.a slw.len slw.cap, Value.string (bs pc.head), Value.int .i64 pc.at_], Value.bool false])) w_73)
                      (∀ b9 : Nat, w_71.heap.size ≤ b9 →
                      ∀ w_74 : World, LocB [b9, b4, b3, b1, b] w_71 w_74 →
                      ∃ old5 : List Value, AppPre w_74 out 9 136 1 old5 ∧ (∀ ad, out.a = some ad → ad.block ≠ b9) ∧ (∀ ad, out.a = some ad → ad.block ≠ b4) ∧ (∀ ad, out.a = some ad → ad.block ≠ b3) ∧ (∀ ad, out.a = some ad → ad.block ≠ b1) ∧ (∀ ad, out.a = some ad → ad.block ≠ b) ∧
                      ∀ (s5 : Sl) (w_75 : World), AppRes w_74 out 9 T_api_Node [Value.int .i64 r53, Value.string (bs r54), Value.string (bs r55), Value.slice r56.a r56.len r56.cap, Value.slice r57.a r57.len r57.cap, Value.slice r58.a r58.len r58.cap, Value.int .i64 r59, Value.int .i64 r60, Value.int .i64 r61] 1 old5 s5 w_75 →
                      ∃ m8 : Nat, m8 < f' + 1 ∧ NJ z mod n₀ n₁ g b len D deep f st w s5 m8 w_75)) := by
      intro F args res wk hL hmr hres hcall
      obtain ⟨hTk, hFk⟩ := step hL
      refine hcall.mono ?_
      rintro en wl ⟨hfkl, hcase⟩
      have bx := fr_box hbs hlt hfkl hL.mem
      have hFl := hFk.trans hfkl fun k hk => .inl (hXg k hk)
      have hzk := hFk.size
      have hzl := hFl.size
      have hzkl := hfkl.size
      rcases hcase with ⟨y, hy, ⟨k, t, nm, sp, sb, se, a, e, u, rfl⟩, he⟩ | ⟨⟨n1, st1⟩, hy, ⟨k, t, nm, sp, sb, se, a, e, u, rfl, hn1⟩, hP1⟩
      · rw [hy] at hmr
        exact ⟨k, t, nm, sp, sb, se, a, e, u, false, rfl, bx b4 (by simp), bx b3 (by simp), bx b1 (by simp), bx b (by simp), br_not (fun _ w72 hL72 w73 hL73 => bad ⟨none, 0, 0⟩ slw pc.head pc.at_ hbs (hFl.loc hL72 fun k hk => .inr (hbs k hk)) (he.keep (hL72.block g he.lt (fun hk => by have := hbs g hk; omega))) hL73 hmr) (fun h => by cases h)⟩
      rw [hy] at hmr
      obtain ⟨r1, r2, r3⟩ := hres n1 st1 hy
      simp only at hmr hn1 hP1
      refine ⟨k, t, nm, sp, sb, se, a, e, u, true, rfl, bx b4 (by simp), bx b3 (by simp), bx b1 (by simp), bx b (by simp), br_not (fun h => by cases h) (fun _ b9 hb9 w74 hL74 => ?_)⟩
      have hTl := hTk.fr hP1 r2 hfkl
      have hT74 := hTl.newLoc (B' := [b9]) (by simpa using hb9) hL74 (fun k hk => by simp at hk ⊢; exact hk) (fun k hk => by simp at hk ⊢; exact .inl hk)
      have hF74 : Fr X w w74 := hFl.loc hL74 fun k hk => .inr (by simp at hk; omega)
      have nfree : ∀ q, rng wk.heap.size wl.heap.size q → q ∉ [b9, b4, b3, b1, b] ∧ q ≠ g ∧ q ∉ dB D' ∧ q ∉ dB out := by
        intro q hq
        have m1 := hL.mem b4 (by simp)
        have m2 := hL.mem b3 (by simp)
        have m3 := hL.mem b1 (by simp)
        have m4 := hL.mem b (by simp)
        have := hq.1
        have := hq.2
        refine ⟨by simp; omega, by omega, fun hd => ?_, fun hd => ?_⟩
        · have := hTk.dok q hd; omega
        · have := (hTk.bld.dlt q hd).1; omega
      obtain ⟨old, hpre, hpush⟩ := hT74.push (by omega) (M.niceNode.keep hn1 fun q hq => hL74.block q hq.2 (nfree q hq).1) (fun q hq => ⟨hq.sub hzk hL74.size, (nfree q hq).2.2.2, by have h1 := (nfree q hq).1; have h2 := (nfree q hq).2.1; have h3 := (nfree q hq).2.2.1; simp at h1 ⊢; exact ⟨h2, by simpa [h3] using h1⟩⟩) T_api_Node
      refine ⟨old, hpre, hT74.bld.neB (by simp), hT74.bld.neB (by simp), hT74.bld.neB (by simp), hT74.bld.neB (by simp), hT74.bld.neB (by simp), fun s w75 hr => ?_⟩
      obtain ⟨hT75, hf75⟩ := hpush s w75 hr
      refine ⟨f', by omega, after hmr r1 r2 ?_ hT75 (by simp) (hF74.trans hf75 fun k hk => .inr (hT74.bld.dlt k hk).2.1)⟩
      rw [r3]
      have := M.sumT_suffix (r1.trans hsr)
      simp; omega
    have block : ∀ (kind : Int) (wk : World), LocB [b4, b3, b1, b] w9 wk → mod = (match M.blockF len f' kind pc 1 deep { st' with l := r } with
        | .error e => .error e
        | .ok (n, st1) => M.nodesF len f' deep st1 (acc ++ [n])) → _ := fun kind wk hL hmb =>
      node F_ref20_Parser_block #[.pointer (some ⟨g, 0, none⟩), .int .i64 kind, .agg #[.slice slw.a slw.len slw.cap, .string (bs pc.head), .int .i64 pc.at_], .int .i64 (1 : Nat), .int .i64 (deep : Int)] (M.blockF len f' kind pc 1 deep { st' with l := r }) wk hL hmb
        (fun n st1 hq => (M.nl len f').b _ _ _ _ _ _ _ hq)
        (hB f' (by omega) n₀ g D' kind _ slw pc 1 deep _ wk (step hL).1.pin (fun ad had => (step hL).1.dok _ (dB_mem.2 ⟨ad, had, rfl⟩)) (words hL) (wS hL) hpok (by have := List.length_pos_iff.2 hpok.ne; omega) hdeep (by show 2 * r.length + 2 ≤ f'; omega) hitr hsumr (by have := hsr.length_le; show r.length ≤ _; omega))
    have single : ∀ (wk : World), LocB [b4, b3, b1, b] w9 wk → mod = (match M.singleM pc { st' with l := r } with
        | .error e => .error e
        | .ok (n, st1) => M.nodesF len f' deep st1 (acc ++ [n])) → _ := fun wk hL hmb =>
      node F_ref20_Parser_single #[.pointer (some ⟨g, 0, none⟩), .agg #[.slice slw.a slw.len slw.cap, .string (bs pc.head), .int .i64 pc.at_]] (M.singleM pc { st' with l := r }) wk hL hmb
        (fun n st1 hq => by have := M.singleM_ok hq; exact ⟨by rw [this.1]; exact List.suffix_refl _, this.2.1, this.2.2⟩)
        (single_spec (step hL).1.pin (words hL) (wS hL) hpok)
    refine br_dec (fun h2 => ?_) (fun h2 => br_dec (fun h3 => ?_) (fun h3 => ?_))
    · -- end
      have hE : pc.head = M.wEnd := h2
      rw [if_pos (.inl hE)] at hm
      refine br_dec (fun _ => br_dec (fun h4 wk hL => ?_) (fun h4 => br_dec (fun _ => br_dec (fun h5 wk hL => ?_) (fun h5 wk hL wl hL' => ?_)) (fun h => absurd h2 h))) (fun h => absurd h2 h)
      · exact failed 33 wk hL (by rw [hm, if_pos (.inl (by omega))])
      · exact failed 33 wk hL (by rw [hm, if_pos (.inr ⟨hE, by omega⟩)])
      · exact ended wk wl hL hL' (by rw [hm, if_neg (by intro e; rcases e with e | e; omega; omega)])
    · -- else
      have hE : pc.head = M.wElse := h3
      rw [if_pos (.inr hE)] at hm
      refine br_dec (fun h4 wk hL => ?_) (fun h4 => br_dec (fun h => absurd h h2) (fun _ wk hL wl hL' => ?_))
      · exact failed 33 wk hL (by rw [hm, if_pos (.inl (by omega))])
      · exact ended wk wl hL hL' (by rw [hm, if_neg (by intro e; rcases e with e | e; omega; exact h2 e.1)])
    rw [if_neg (fun e => e.elim h2 h3)] at hm
    refine br_dec (fun h4 => ?_) (fun h4 => ?_)
    · -- a template of its own
      rw [if_pos (show pc.head = M.wDefine from h4)] at hm
      refine br_dec (fun h5 wk hL => ?_) (fun h5 wk hL => ?_)
      · exact failed 33 wk hL (by rw [hm, if_pos (by omega)])
      · rw [if_neg (by omega)] at hm
        have hzt : z = true := by
          cases hq : z with
          | true => rfl
          | false => have := hz1 hq; omega
        obtain ⟨hTk, hFk⟩ := step hL
        have hdk := hTk.defs hzt
        have hzk := hFk.size
        have hBd := hdk.1
        refine (hdf hzt f' (by omega) n₀ n₁ g D' _ _ slw pc { st' with l := r } wk hTk.pin hBd (by simp) ?_ hdk.2 ?_ (words hL) (fun k hk => ⟨(wS hL k hk).1, (wfree k hk).2.1, (wfree k hk).2.2⟩) hpok (by show 2 * r.length + 2 ≤ f'; omega) hitr hsumr (by show r.length ≤ _; omega) ?_).mono ?_
        · intro k hk
          simp only [List.mem_cons, List.mem_append] at hk
          rcases hk with rfl | hk | hk
          · exact hTk.pin.lt
          · exact (hTk.box k (by simpa using hk)).1
          · exact (hTk.bld.dlt k hk).1
        · exact Nat.le_trans (hdefs hzt).2.2 hzk
        · have := hcnt2 hzt; show st'.defs.length ≤ _; omega
        rintro en wl ⟨hfkl, hcase⟩
        have hFl : Fr X w wl := hFk.trans hfkl fun k hk => by
          rcases hk with hk | hk
          · exact .inl (hXg k hk)
          · rcases hDm k hk with e | e
            · exact .inl (by rw [← hX]; exact .inr ⟨hzt, e⟩)
            · exact .inr e
        have bx : ∀ k, k ∈ [b4, b3, b1, b] → wl.heap[k]? = wk.heap[k]? := fun k hk => hfkl.block k (hL.mem k hk) fun e => by
          rcases e with e | e
          · have := hbs k hk; omega
          · exact (hBd.dlt k e).2.2 (by rw [List.mem_cons, List.mem_append]; exact .inr (.inl hk))
        rcases hcase with ⟨y, hy, rfl, he⟩ | ⟨st1, D2, hy, rfl, hP1, hB1, hD2⟩
        · rw [hy] at hm
          exact ⟨false, rfl, bx b4 (by simp), bx b3 (by simp), bx b1 (by simp), bx b (by simp), br_not (fun _ w72 hL72 w73 hL73 => bad ⟨none, 0, 0⟩ slw pc.head pc.at_ hbs (hFl.loc hL72 fun k hk => .inr (hbs k hk)) (he.keep (hL72.block g he.lt (fun hk => by have := hbs g hk; omega))) hL73 hm) (fun h => by cases h)⟩
        · rw [hy] at hm
          simp only at hm
          obtain ⟨s1, s2⟩ := (M.nl len f').d _ _ _ hy
          have s3 := s1.length_le
          have s4 : st1.defs.length = st'.defs.length + 1 := s2
          have s5 : st1.l.length ≤ r.length := s3
          have hT' := hTk.define hzt hfkl hP1 hB1 hD2
          refine ⟨true, rfl, bx b4 (by simp), bx b3 (by simp), bx b1 (by simp), bx b (by simp), br_not (fun h => by cases h) (fun _ => ⟨f', by omega, acc, st1, D2, hm, by omega, by omega, s1.trans hsr, by omega, by omega, fun init hd bb e he => ?_, hT'.less (by intro k hk; simp at hk ⊢; exact .inr (.inr (.inr hk))), by rw [hX]; exact hFl, fun hq => (by rw [hq] at hzt; cases hzt), fun k hk => ?_⟩)⟩
          · have h5 := htx init hd bb e he
            have h6 := M.sumT_suffix s1
            have h7 : M.sumT st1.l ≤ M.sumT r := h6
            omega
          · rcases hD2 k hk with e | e
            · exact hDm k e
            · exact .inr (by omega)
    · -- blocks, and the rest
      rw [if_neg (show ¬ pc.head = M.wDefine from h4)] at hm
      refine br_dec (fun h5 wk hL => ?_) (fun h5 => br_dec (fun h6 wk hL => ?_) (fun h6 => br_dec (fun h7 wk hL => ?_) (fun h7 wk hL => ?_)))
      · rw [if_pos (show pc.head = M.wIf from h5)] at hm
        exact block 3 wk hL hm
      · rw [if_neg (show ¬ pc.head = M.wIf from h5), if_pos (show pc.head = M.wRange from h6)] at hm
        exact block 4 wk hL hm
      · rw [if_neg (show ¬ pc.head = M.wIf from h5), if_neg (show ¬ pc.head = M.wRange from h6), if_pos (show pc.head = M.wWith from h7)] at hm
        exact block 5 wk hL hm
      · rw [if_neg (show ¬ pc.head = M.wIf from h5), if_neg (show ¬ pc.head = M.wRange from h6), if_neg (show ¬ pc.head = M.wWith from h7)] at hm
        exact single wk hL hm
  · -- all pieces are read
    have hl : st'.l = [] := List.eq_nil_of_length_eq_zero (by omega)
    rw [hl] at hm
    simp only at hm
    have hbs1 : ∀ k, k ∈ [b] → w.heap.size ≤ k := by intro k hk; simp at hk; omega
    refine br_dec (fun h2 => ?_) (fun h2 wk hL => ?_)
    · rw [if_pos (by omega)] at hm
      obtain ⟨L', hp, _⟩ := hT.pin.par
      refine ⟨len, hp.c2, (fail_spec hT.pin _ _).mono ?_⟩
      rintro _ wl ⟨rfl, he, hf⟩
      have bx := fr_box hbs1 hlt hf (fun k hk => (hT.box k (by simpa using hk)).1)
      exact ⟨false, rfl, bx b (by simp), fun w14 hL14 => bad ⟨none, 0, 0⟩ ⟨none, 0, 0⟩ [] 0 hbs1 (hF.trans hf fun k hk => .inl (hXg k hk)) he hL14 hm⟩
    · rw [if_neg (by omega)] at hm
      have hTl := hT.loc hL fun k hk => hk
      obtain ⟨S, hS1, hS2⟩ := hTl.bld.lst2 M.niceNode
      exact ⟨by rw [hX]; exact hF.loc hL fun k hk => .inr (hbs1 k hk), .inr ⟨acc, M.noPiece, st', D', hm, ⟨out, ⟨none, 0, 0⟩, S, rfl, hS1, fun k hk => ⟨(hS2 k hk).1, (fun e => (hS2 k hk).2 (by simp [e])), (fun e => (hS2 k hk).2 (by simp [e]))⟩, LstAt.nil _ _⟩, hTl.pin, hDz, fun hz => (hTl.defs hz).1.less (by intro k hk; simp at hk; simp [hk])⟩⟩

theorem nodes_of_z {len : Int} {f : Nat} (h : NodesSpecZ false len f) : NodesSpec len f := by
  intro n₀ g D deep st w hP hD h1 h2 h3 h4 h5 h6
  refine (h n₀ n₀ g D deep st w hP (fun k hk => by obtain ⟨ad, had, rfl⟩ := dB_mem.1 hk; exact hD ad had) (fun h => by cases h) (fun _ => h1) h2 h3 h4 h5 h6 (fun h => by cases h) (fun h => by cases h)).mono ?_
  rintro en w' ⟨hf, hcase⟩
  refine ⟨hf.mono fun k hk => .inl (hk.elim id (fun e => by cases e.1)), ?_⟩
  rcases hcase with ⟨x, hx, hb, he⟩ | ⟨l, pc, st', D', hx, ⟨sl, slw, S, rfl, q1, q2, q3⟩, hP', hD', _⟩
  · exact .inl ⟨x, hx, hb, he⟩
  · rw [hD' rfl] at hP'
    exact .inr ⟨_, hx, sl, slw, rfl, nodes_move q1 (fun _ _ => rfl) (fun k hk => (q2 k hk).1), q3, hP'⟩
theorem block_all (len : Int) : ∀ f, BlockSpec len f := by
  intro f
  induction f using Nat.strongRecOn with
  | ind f ih =>
    cases f with
    | zero => intro _ _ _ _ _ _ _ _ _ _ _ _ _ _ _ _ _ _ h; omega
    | succ f => exact block_step len f (nodes_of_z (nodes_step false len f (fun f' hf' => ih f' (by omega)) (fun h => by cases h))) (ih f (by omega))
theorem nodes_all (len : Int) (f : Nat) : NodesSpec len f := nodes_of_z (nodes_step false len f (fun f' _ => block_all len f') (fun h => by cases h))

end Go.Proofs.Ytpedoaeieabhoaa.V

/- Contracts: a template of its own (reference 20). -/
namespace Go.Proofs.Ytpedoaeieabhoaa.V
open Go Go.Vc Go.Proofs
open Go.Vc (Bytes)

theorem dup_cons (d : M.Def) (r : List M.Def) (s : Bytes) : M.dup (d :: r) s = (decide (d.name = s) || M.dup r s) := rfl

theorem define_step (len : Int) (f : Nat) : DefineSpec len (f + 1) := by
  intro n₀ n₁ g D B S slw pc st w h hD hgB hBlt hn01 hn1 hw hS hp hfl hit hsum hcnt hcnt2
  refine ok_ref20_Parser_define _ _ _ _ ?_
  unfold vc_ref20_Parser_define
  have hlt := h.lt
  have hwl := hw.len
  generalize hmod : M.defineF len (f + 1) pc st = mod
  rw [M.defineF] at hmod
  generalize hX : (fun k => k = g ∨ k ∈ dB D) = X
  have hXg : ∀ k, k = g → X k := fun k hk => by rw [← hX]; exact .inl hk
  have hXD : ∀ k, k ∈ dB D → X k := fun k hk => by rw [← hX]; exact .inr hk
  intro b hb w0 hL0
  have hb1s : ∀ k, k ∈ [b] → w.heap.size ≤ k := by intro k hk; simp at hk; omega
  have hF0 : Fr X w w0 := hL0.fr fun k hk => .inr (hb1s k hk)
  have hP0 := h.loc hL0 fun k hk => by have := hb1s k hk; omega
  have hm0 := hL0.mem
  have hD0 : Bld M.defR n₁ w0 D 2 st.defs (b :: B) := (hD.more hb).loc M.niceDef hL0 fun k hk => .inl (by simp at hk; simp [hk])
  refine (called_spec hP0 (hw.keep (R' := M.wR) (w' := w0) (fun _ _ h => h) fun k hk => hL0.block k (hS k hk).1 fun e => by have := hb1s k e; have := (hS k hk).1; omega) (fun k hk => ⟨Nat.lt_of_lt_of_le (hS k hk).1 hL0.size, (hS k hk).2.1⟩) hp.ok).mono ?_
  rintro en w1 ⟨hf01, hcase⟩
  have hF1 := hF0.trans hf01 fun k hk => .inl (hXg k hk)
  have bx := fr_box hb1s hlt hf01 hm0
  have hm1 := fr_mem hf01 hm0
  rcases hcase with ⟨x, hx, rfl, he⟩ | ⟨s, hx, rfl, hP1⟩
  · rw [hx] at hmod
    exact ⟨[], false, rfl, bx b (by simp), br_not (fun _ => ⟨hF1, .inl ⟨x, hmod.symm, rfl, he⟩⟩) (fun h => by cases h)⟩
  rw [hx] at hmod
  simp only at hmod
  have failed : ∀ (e : Int) (w2 : World), PIn n₀ w2 g len D st → Fr X w w2 → (∀ k, k ∈ [b] → k < w2.heap.size) → mod = .error (pc.at_, e) → Calls P F_ref20_Parser_fail #[Value.pointer (some ⟨g, 0, none⟩), Value.int .i64 pc.at_, Value.int .i64 e] w2 (fun (e_1 : Ending) (w_2 : World) =>
          ∃ r2 : Bool, e_1 = Ending.returned (Value.bool r2) ∧ w_2.heap[b]? = w2.heap[b]? ∧
          (Fr X w w_2 ∧ ((∃ x, mod = .error x ∧ Ending.returned (Value.bool r2) = .returned (.bool false) ∧ PErr w_2 g x) ∨ ∃ (st' : M.St) (D' : Sl), mod = .ok st' ∧ Ending.returned (Value.bool r2) = .returned (.bool true) ∧ PIn n₀ w_2 g len D' st' ∧ Bld M.defR n₁ w_2 D' 2 st'.defs B ∧ (∀ k, k ∈ dB D' → k ∈ dB D ∨ w.heap.size ≤ k)))) := by
    intro e w2 hP2 hF2 hm2 hme
    refine (fail_spec hP2 _ _).mono ?_
    rintro _ w3 ⟨rfl, he, hf⟩
    exact ⟨false, rfl, fr_box hb1s hlt hf hm2 b (by simp), hF2.trans hf fun k hk => .inl (hXg k hk), .inl ⟨_, hme, rfl, he⟩⟩
  have hD1 : Bld M.defR n₁ w1 D 2 st.defs (b :: B) := hD0.keep M.niceDef (fun k hk hn => hf01.block k hk fun e => hn (by rw [e]; simp [hgB])) hf01.size
  have hDl := hD1.len M.niceDef
  refine ⟨s, true, rfl, bx b (by simp), br_not (fun h => by cases h) (fun _ => br_ndec (fun h2 => ?_) (fun h2 => ?_))⟩
  · exact failed 33 w1 hP1 hF1 hm1 (by rw [← hmod, if_pos (by omega)])
  rw [if_neg (by omega)] at hmod
  obtain ⟨L1, hp1, _⟩ := hP1.par
  refine ⟨fun i n w' => ∃ j : Nat, i = j ∧ j ≤ st.defs.length ∧ n = st.defs.length - j ∧ M.dup st.defs s = M.dup (st.defs.drop j) s ∧ w' = w1, st.defs.length, ⟨0, rfl, by omega, by omega, by simp, rfl⟩, ?_⟩
  rintro i n w3 ⟨j, rfl, hj, rfl, hdup, rfl⟩
  refine ⟨D, hp1.c3, br_dec (fun h3 => ⟨D, hp1.c3, by omega, h3, ?_⟩) (fun h3 => ⟨D, hp1.c3, D, hp1.c3, fun b1 hb1 w5 hL5 => ?_⟩)⟩
  · have hlt : j < st.defs.length := by omega
    obtain ⟨ad, S1, c, q1, _, _, ⟨sl, rfl, _⟩, _, q2, _⟩ := hD1.cell M.niceDef j hlt
    have hdr : st.defs.drop j = st.defs[j] :: st.defs.drop (j + 1) := List.drop_eq_getElem_cons hlt
    refine ⟨ad, q1, st.defs[j].name, CellsAt.left (ys := [.slice sl.a sl.len sl.cap]) q2, br_dec (fun h4 => ?_) (fun h4 => ⟨inI64 (by omega) (by omega), st.defs.length - (j + 1), by omega, j + 1, by omega, by omega, rfl, ?_, rfl⟩)⟩
    · refine failed 6 w3 hP1 hF1 hm1 ?_
      rw [← hmod, if_pos]
      rw [hdup, hdr, dup_cons, decide_eq_true h4, Bool.true_or]
    · rw [hdup, hdr, dup_cons, decide_eq_false h4, Bool.false_or]
  have hdup0 : M.dup st.defs s = false := by
    rw [hdup, List.drop_eq_nil_of_le (by omega)]; rfl
  rw [hdup0] at hmod
  simp only [Bool.false_eq_true, if_false] at hmod
  have hz1 := hF1.size
  have hbs2 : ∀ k, k ∈ [b1, b] → w.heap.size ≤ k := by intro k hk; simp at hk; omega
  have hD5 : Bld M.defR n₁ w5 D 2 st.defs (b1 :: b :: B) := (hD1.more hb1).loc M.niceDef hL5 fun k hk => .inl (by simp at hk; rcases hk with rfl | rfl <;> simp)
  have hF5 : Fr X w w5 := hF1.loc hL5 fun k hk => .inr (hbs2 k hk)
  have hP5 := hP1.loc hL5 fun k hk => by have := hbs2 k hk; omega
  have hz5 := hF5.size
  obtain ⟨old, hpre, hex⟩ := hD5.pre (bytes := 40) (n := 1) (by omega)
  refine ⟨old, hpre, hD5.neB (by simp), hD5.neB (by simp), fun D1 w6 hr => ?_⟩
  obtain ⟨hD6, hG6, hl6⟩ := Bld.push M.niceDef hex (Nat.le_trans hn1 hz5) (fun k hk => by
    simp only [List.mem_cons] at hk
    rcases hk with rfl | rfl | hk
    · exact hL5.mem _ (by simp)
    · exact hL5.mem _ (by simp)
    · exact Nat.lt_of_lt_of_le (hBlt k hk) hz5) (x := ⟨s, []⟩) (S' := fun _ => False) ⟨⟨none, 0, 0⟩, rfl, LstAt.nil _ _⟩ (fun _ h => h.elim) hr
  have hf6 : Fr (fun k => k ∈ dB D) w5 w6 := hG6.fr.mono fun k ⟨ad, had, e⟩ => .inl (dB_mem.2 ⟨ad, had, e⟩)
  have hDd := hD5.dlt
  have hgD : g ∉ dB D := fun e => (hDd g e).2.2 (by simp [hgB])
  have hP6 := hP5.fr hf6 hgD (fun k hk => Nat.le_trans hn01 (hDd k hk).2.1)
  obtain ⟨L6, hp6, hl6'⟩ := hP6.par
  refine ⟨hp6.s3, by show g ≠ b1; omega, by show g ≠ b; omega, ?_⟩
  have hw6 : Fr (fun k => k = g) w6 (setCells w6 ((⟨g, 0, none⟩ : Addr).add 3) [Value.slice D1.a D1.len D1.cap]) := setp_fr _ _ _ _
  have hPp := hp6.w3 D1
  generalize setCells w6 ((⟨g, 0, none⟩ : Addr).add 3) [Value.slice D1.a D1.len D1.cap] = w6' at *
  have hlow := h.low
  have hP6' : PIn n₀ w6' g len D1 { st with defs := st.defs ++ [⟨s, []⟩] } := ⟨⟨L6, hPp, hl6'.keep (fun _ _ h => h) fun k hk => hw6.block k (by have := hP6.lt; omega) (by omega)⟩, h.low, h.few⟩
  have hD6' : Bld M.defR n₁ w6' D1 2 (st.defs ++ [⟨s, []⟩]) (b1 :: b :: B) := hD6.keep M.niceDef (fun k hk hn => hw6.block k hk fun e => hn (by rw [e]; simp [hgB])) hw6.size
  have hF6' : Fr X w w6' := (hF5.trans hf6 fun k hk => .inl (hXD k hk)).trans hw6 fun k hk => .inl (hXg k hk)
  have hm6' : ∀ k, k ∈ [b1, b] → k < w6'.heap.size := fun k hk => Nat.lt_of_lt_of_le (hL5.mem k hk) (Nat.le_trans hf6.size hw6.size)
  refine (nodes_all len f n₀ g D1 1 { st with defs := st.defs ++ [⟨s, []⟩] } w6' hP6' (fun ad had => (hD6'.dlt _ (dB_mem.2 ⟨ad, had, rfl⟩)).1) (by omega) (by omega) (by show 2 * st.l.length + 1 ≤ f; omega) hit hsum hcnt).mono ?_
  rintro en w7 ⟨hf67, hcase⟩
  have hF7 : Fr X w w7 := hF6'.trans hf67 fun k hk => .inl (hXg k hk)
  have bx7 := fr_box hbs2 hlt hf67 hm6'
  have hz7 := hF7.size
  have hz67 := hf67.size
  have hz6 := hF6'.size
  have hDD : ∀ k, k ∈ dB D1 → k ∈ dB D ∨ w.heap.size ≤ k := fun k hk => by
    obtain ⟨ad, had, rfl⟩ := dB_mem.1 hk
    rcases hG6.at_ ad had with e | e
    · exact .inl (dB_mem.2 ⟨ad, e, rfl⟩)
    · exact .inr (by omega)
  rcases hcase with ⟨x, hx2, ⟨s4, s5, hd, a7, rfl⟩, he⟩ | ⟨⟨l, pe, st1⟩, hx2, s4, s5, rfl, hl7, _, hP7⟩
  · rw [hx2] at hmod
    refine ⟨s4, s5, hd, a7, false, rfl, bx7 b1 (by simp), bx7 b (by simp), fun b2 hb2 => br_not (fun _ w8 hL8 => ?_) (fun h => by cases h)⟩
    have hbs3 : ∀ k, k ∈ [b2, b1, b] → w.heap.size ≤ k := by intro k hk; simp at hk; omega
    exact ⟨hF7.loc hL8 fun k hk => .inr (hbs3 k hk), .inl ⟨x, hmod.symm, rfl, he.keep (hL8.block g he.lt fun e => by have := hbs3 g e; omega)⟩⟩
  rw [hx2] at hmod
  simp only at hmod hl7 hP7
  refine ⟨s4, s5, pe.head, pe.at_, true, rfl, bx7 b1 (by simp), bx7 b (by simp), fun b2 hb2 => br_not (fun h => by cases h) (fun _ => ?_)⟩
  have hbs3 : ∀ k, k ∈ [b2, b1, b] → w.heap.size ≤ k := by intro k hk; simp at hk; omega
  have hgs3 : ∀ k, k ∈ [b2, b1, b] → g < k := by intro k hk; have := hbs3 k hk; omega
  refine br_ndec (fun h4 w9 hL9 => ?_) (fun h4 w11 hL11 => ?_)
  · rw [if_pos (show pe.head ≠ M.wEnd from h4)] at hmod
    refine (fail_spec (hP7.loc hL9 hgs3) _ _).mono ?_
    rintro _ w10 ⟨rfl, he, hf⟩
    have bx := fr_box hbs3 hlt hf hL9.mem
    exact ⟨false, rfl, bx b2 (by simp), bx b1 (by simp), bx b (by simp), (hF7.loc hL9 fun k hk => .inr (hbs3 k hk)).trans hf fun k hk => .inl (hXg k hk), .inl ⟨_, hmod.symm, rfl, he⟩⟩
  · rw [if_neg (show ¬ pe.head ≠ M.wEnd from fun e => e h4)] at hmod
    have hP11 := hP7.loc hL11 hgs3
    have hst1 := ((M.nl len f).n _ _ _ _ _ _ hx2).2 (by omega)
    have hdefs : st1.defs = st.defs ++ [⟨s, []⟩] := hst1.1
    have hD7 : Bld M.defR n₁ w7 D1 2 (st.defs ++ [⟨s, []⟩]) (b1 :: b :: B) := hD6'.keep M.niceDef (fun k hk hn => hf67.block k hk fun e => hn (by rw [e]; simp [hgB])) hf67.size
    have hD11 : Bld M.defR n₁ w11 D1 2 (st.defs ++ [⟨s, []⟩]) (b2 :: b1 :: b :: B) := (hD7.more hb2).loc M.niceDef hL11 fun k hk => .inl (by simp at hk; rcases hk with rfl | rfl | rfl <;> simp)
    have hD1l := hD11.len M.niceDef
    simp at hD1l
    obtain ⟨L11, hp11, _⟩ := hP11.par
    have hi : st.defs.length < (st.defs ++ [(⟨s, []⟩ : M.Def)]).length := by simp
    obtain ⟨ad, S1, c, q1, q2, q3, q4, q5, q6, q7⟩ := hD11.cell M.niceDef st.defs.length hi
    rw [List.getElem_append_right (Nat.le_refl _)] at q4
    simp only [Nat.sub_self, List.getElem_cons_zero] at q4
    obtain ⟨sl0, rfl, _⟩ := q4
    have hz11 := hL11.size
    have kfree : ∀ k, rng w6'.heap.size w7.heap.size k → k ∉ (b2 :: b1 :: b :: B) ∧ ad.block ≠ k := by
      intro k hk
      have m1 := hm6' b1 (by simp)
      have m2 := hm6' b (by simp)
      have m3 := (hD6'.dlt _ (dB_mem.2 ⟨ad, q1, rfl⟩)).1
      have h1 := hk.1
      have h2 := hk.2
      refine ⟨?_, by omega⟩
      simp only [List.mem_cons, not_or]
      exact ⟨by omega, by omega, by omega, fun e => by have := hBlt k e; omega⟩
    obtain ⟨v1, v2⟩ := q7 1 (.slice s4.a s4.len s4.cap) ⟨s, l⟩ (rng w6'.heap.size w7.heap.size) (by omega) (fun k hk => ⟨hk.sub (by omega) hz11, (kfree k hk).2, (kfree k hk).1⟩) ⟨s4, rfl, nodes_move hl7 (fun k hk => hL11.block k hk.2 fun e => (kfree k hk).1 (by simp at e ⊢; rcases e with e | e | e <;> simp [e])) (fun k hk => hk)⟩
    have hDn : ((D.len : Nat) : Int).toNat = st.defs.length := by omega
    rw [hDn]
    have hqB : ad.block ∉ [b2, b1, b] := fun e => q2 (by simp at e ⊢; rcases e with e | e | e <;> simp [e])
    have hset : (st.defs ++ [(⟨s, []⟩ : M.Def)]).set st.defs.length ⟨s, l⟩ = M.setBody st1.defs st.defs.length l := by
      rw [hdefs, M.setBody]
      simp
    rw [hset] at v2
    have hfs : Fr (fun k => k = ad.block) w11 (setCells w11 ((ad.add (st.defs.length * 2)).add 1) [Value.slice s4.a s4.len s4.cap]) := (set1_fr _ _ _).mono fun k hk => .inl (by rw [hk, add_block, add_block])
    refine ⟨D1, hp11.c3, by omega, by omega, ad, q1, v1, ?_, ?_, ?_, ?_⟩
    · rw [add_block, add_block]; intro e; exact hqB (by simp [e])
    · rw [add_block, add_block]; intro e; exact hqB (by simp [e])
    · rw [add_block, add_block]; intro e; exact hqB (by simp [e])
    · refine ⟨(hF7.loc hL11 fun k hk => .inr (hbs3 k hk)).trans hfs fun k hk => ?_, .inr ⟨_, D1, hmod.symm, rfl, ?_, v2.less (by intro k hk; simp [hk]), hDD⟩⟩
      · rcases hDD k (dB_mem.2 ⟨ad, q1, hk.symm⟩) with e | e
        · exact .inl (hXD k e)
        · exact .inr e
      · have hPf := hP11.fr hfs (fun e => q2 (by rw [← e]; simp [hgB])) (fun k hk => by have := q3.1; omega)
        obtain ⟨Lf, hpf, hlf⟩ := hPf.par
        exact ⟨⟨Lf, hpf, hlf⟩, hPf.low, hPf.few⟩
theorem define_all (len : Int) : ∀ f, DefineSpec len f
  | 0 => by intro _ _ _ _ _ _ _ _ _ _ _ _ _ _ _ _ _ _ _ h; omega
  | f + 1 => define_step len f

end Go.Proofs.Ytpedoaeieabhoaa.V

/- Contracts: templates of a text (reference 20). -/
namespace Go.Proofs.Ytpedoaeieabhoaa.V
open Go Go.Vc Go.Proofs
open Go.Vc (Bytes)

theorem alloc_size (w : World) (o : Obj) : (w.alloc o).heap.size = w.heap.size + 1 := by show (w.heap.push _).size = _; simp
theorem alloc_at (w : World) (o : Obj) : (w.alloc o).heap[w.heap.size]? = some o := by show (w.heap.push _)[w.heap.size]? = _; simp

theorem parse20_spec (s : Bytes) (w : World) :
    Calls P F_ref20_Parse #[.string (bs s)] w (fun e w' => ∃ sl : Sl, e = .returned (.tuple #[.slice sl.a sl.len sl.cap, .int .i64 (M.parseM s).2.1, .int .i64 (M.parseM s).2.2]) ∧ LstAt (M.defR w' (rng w.heap.size w'.heap.size)) w' (rng w.heap.size w'.heap.size) sl (M.parseM s).1 ∧ Grow w w') := by
  refine ok_ref20_Parse _ ?_
  unfold vc_ref20_Parse
  obtain ⟨i1, i2, i3⟩ := M.items_ok s
  refine (items_spec s w).mono ?_
  rintro _ w1 ⟨sl, rfl, hO, hg1⟩
  refine ⟨sl, _, _, rfl, br_ndec (fun h => ?_) (fun h => ?_)⟩
  · have hm : M.parseM s = ([], (M.items s).2.1, (M.items s).2.2) := by rw [M.parseM, if_pos h]
    rw [hm]
    exact ⟨⟨none, 0, 0⟩, rfl, LstAt.nil _ _, hg1⟩
  have hm : M.parseM s = match M.nodesF s.length (2 * (M.items s).1.length + 1) 0 ⟨(M.items s).1, 0, [⟨[], []⟩]⟩ [] with
    | .error e => ([], e.1, e.2)
    | .ok (out, _, st) => (M.setBody st.defs 0 out, s.length, 0) := by
    rw [M.parseM, if_neg (by simpa using h)]; rfl
  have hs := i3 (by simpa using h)
  have hl := M.Own.words hO (S := fun k => k < w1.heap.size) (fun ad had => (hO.lt had).1)
  generalize (M.items s).1 = its at *
  clear hO i3 h
  rw [hm]
  generalize hd : w1.alloc (.cells #[Value.string (bs ([] : Bytes)), Value.slice none 0 0] T_api_Def) = wd
  have hgd : Grow w1 wd := by rw [← hd]; exact M.grow_alloc _ _
  have hds : wd.heap.size = w1.heap.size + 1 := by rw [← hd]; exact alloc_size _ _
  have hda : wd.heap[w1.heap.size]? = some (.cells #[Value.string (bs ([] : Bytes)), Value.slice none 0 0] T_api_Def) := by rw [← hd]; exact alloc_at _ _
  generalize hp : wd.alloc (.cells #[Value.slice sl.a sl.len sl.cap, Value.int .i64 0, Value.int .i64 (s.length : Int), Value.slice (some (Addr.mk w1.heap.size 0 none)) 1 1, Value.int .i64 0, Value.int .i64 0] T_ref20_Parser) = wp
  have hgp : Grow wd wp := by rw [← hp]; exact M.grow_alloc _ _
  have hps : wp.heap.size = wd.heap.size + 1 := by rw [← hp]; exact alloc_size _ _
  have hpa : wp.heap[wd.heap.size]? = some (.cells #[Value.slice sl.a sl.len sl.cap, Value.int .i64 0, Value.int .i64 (s.length : Int), Value.slice (some (Addr.mk w1.heap.size 0 none)) 1 1, Value.int .i64 0, Value.int .i64 0] T_ref20_Parser) := by rw [← hp]; exact alloc_at _ _
  have hgw : Grow w wp := (hg1.trans hgd).trans hgp
  have hdb : wp.heap[w1.heap.size]? = some (.cells #[Value.string (bs ([] : Bytes)), Value.slice none 0 0] T_api_Def) := by rw [hgp.block _ (by omega)]; exact hda
  generalize hgq : wd.heap.size = g at *
  clear hd hp hda
  have hP : PIn w1.heap.size wp g s.length ⟨some ⟨w1.heap.size, 0, none⟩, 1, 1⟩ ⟨its, 0, [⟨[], []⟩]⟩ :=
    ⟨⟨sl, ⟨_, hpa⟩, hl.keep (fun _ _ h => h) fun k hk => by rw [hgp.block k (by omega), hgd.block k hk]⟩, by omega, by simp⟩
  have hD : Bld M.defR w1.heap.size wp ⟨some ⟨w1.heap.size, 0, none⟩, 1, 1⟩ 2 [⟨[], []⟩] [g] := by
    refine ⟨fun _ => False, [[.string (bs []), .slice none 0 0]], ⟨rfl, Nat.le_refl _, .inr ⟨w1.heap.size, _, _, rfl, Nat.le_refl _, hdb, rfl, fun i v hi => ?_⟩⟩, ⟨⟨⟨none, 0, 0⟩, rfl, LstAt.nil _ _⟩, trivial⟩, fun _ h => h.elim, fun ad had => ?_⟩
    · simpa using hi
    · cases had; simp; omega
  have hit : ∀ x ∈ its, M.ItOk x := fun x hx => by
    obtain ⟨q1, q2, q3, _⟩ := i1 x hx
    exact ⟨by omega, q2, by omega⟩
  have hsum : M.sumT its ≤ 1099511627776 := by
    have h1 := M.sumT_le 16384 its fun x hx => (hit x hx).1
    have h2 : its.length * 16384 ≤ 40000 * 16384 := Nat.mul_le_mul_right _ (by omega)
    omega
  refine (nodes_step true s.length (2 * its.length + 1) (fun f' _ => block_all _ f') (fun _ f' _ => define_all _ f') w1.heap.size w1.heap.size g ⟨some ⟨w1.heap.size, 0, none⟩, 1, 1⟩ 0 ⟨its, 0, [⟨[], []⟩]⟩ wp hP (fun k hk => (hD.dlt k hk).1) (fun _ => rfl) (fun h => by cases h) (by omega) (Nat.le_refl _) hit hsum (by show its.length ≤ _; omega) (fun _ => by show its.length + 1 ≤ _; omega) (fun _ => ⟨hD, Nat.le_refl _, by omega⟩)).mono ?_
  rintro en w2 ⟨hf, hcase⟩
  have hfw : Fr (fun _ => False) w w2 := (hgw.fr (X := fun _ => False)).trans hf fun k hk => .inr (by
    have := hg1.size
    rcases hk with e | ⟨_, e⟩
    · omega
    · have := (hD.dlt k e).2.1; omega)
  have hz2 := hfw.size
  have hzf := hf.size
  have hzg := hgw.size
  have toG : ∀ {w' : World}, Fr (fun _ => False) w w' → Grow w w' := fun h => ⟨h.os, h.tape, h.output, h.size, fun k hk => h.block k hk (fun h => h)⟩
  rcases hcase with ⟨x, hx, ⟨s3, s4, hd, a6, rfl⟩, he⟩ | ⟨l, pc, st', D', hx, ⟨s3, s4, S, rfl, q1, q2, _⟩, hP2, _, hD2⟩
  · rw [hx]
    refine ⟨s3, s4, hd, a6, false, rfl, fun b hb => br_not (fun _ w3 hL3 => ?_) (fun h => by cases h)⟩
    have he3 := he.keep (hL3.block g he.lt (by have := he.lt; simp; omega))
    obtain ⟨L, sz, ln, Dx, hp⟩ := he3
    refine ⟨x.1, ?_, x.2, ?_, ⟨none, 0, 0⟩, rfl, LstAt.nil _ _, toG (hfw.loc hL3 fun k hk => .inr (by simp at hk; omega))⟩
    · have := hp.c4; rw [addr_add] at this; exact this
    · have := hp.c5; rw [addr_add] at this; exact this
  · rw [hx]
    simp only
    have hD2 := hD2 rfl
    have hnl := ((M.nl s.length (2 * its.length + 1)).n _ _ _ _ _ _ hx).1.2
    have hdl : 0 < st'.defs.length := Nat.lt_of_lt_of_le (by simp) hnl
    refine ⟨s3, s4, pc.head, pc.at_, true, rfl, fun b hb => br_not (fun h => by cases h) (fun _ w3 hL3 => ?_)⟩
    have hlt := hP2.lt
    have hP3 := hP2.loc hL3 fun k hk => by simp at hk; omega
    have hD3 : Bld M.defR w1.heap.size w3 D' 2 st'.defs [b, g] := (hD2.more hb).loc M.niceDef hL3 fun k hk => .inl (by simp at hk; simp [hk])
    have hDl := hD3.len M.niceDef
    have hz3 := hL3.size
    obtain ⟨L3, hp3, _⟩ := hP3.par
    obtain ⟨ad, S1, c, p1, p2, p3, ⟨sl0, rfl, _⟩, p5, p6, p7⟩ := hD3.cell M.niceDef 0 hdl
    obtain ⟨v1, v2⟩ := p7 1 (.slice s3.a s3.len s3.cap) ⟨st'.defs[0].name, l⟩ S (by omega) (fun k hk => ⟨(q2 k hk).1.sub (by omega) hz3, fun e => (q2 k hk).2.1 (dB_mem.2 ⟨ad, p1, e⟩), by
      have h1 := (q2 k hk).1.2
      have h2 := (q2 k hk).2.2
      simp; omega⟩) ⟨s3, rfl, nodes_move q1 (fun k hk => hL3.block k (q2 k hk).1.2 (by have h1 := (q2 k hk).1.2; simp; omega)) (fun k hk => hk)⟩
    have hset : st'.defs.set 0 ⟨st'.defs[0].name, l⟩ = M.setBody st'.defs 0 l := by
      rw [M.setBody, List.getElem?_eq_getElem hdl]
    rw [hset] at v2
    have hfs : Fr (fun k => k = ad.block) w3 (setCells w3 ((ad.add (0 * 2)).add 1) [Value.slice s3.a s3.len s3.cap]) := (set1_fr _ _ _).mono fun k hk => .inl (by rw [hk, add_block, add_block])
    refine ⟨D', ?_, by omega, by omega, ad, p1, v1, ?_, D', ?_, D', rfl, ?_, ?_⟩
    · have := hp3.c3; rw [addr_add] at this; exact this
    · rw [add_block, add_block]; intro e; exact p2 (by simp [e])
    · have := (hp3.keep (hfs.block g hp3.lt (fun e => p2 (by simp [e])))).c3
      rw [addr_add] at this
      exact this
    · have h3 := v2.lst M.niceDef
      have hgz := hg1.size
      exact h3.mono (fun x c hx => M.niceDef.mono hx fun k hk => hk.sub hgz (Nat.le_refl _)) fun k hk => hk.sub hgz (Nat.le_refl _)
    · refine toG ((hfw.loc hL3 fun k hk => .inr (by simp at hk; omega)).trans hfs fun k hk => .inr ?_)
      have := p3.1
      have := hg1.size
      omega

end Go.Proofs.Ytpedoaeieabhoaa.V

/- Contracts: octets and lists (the program's). -/
namespace Go.Proofs.Ytpedoaeieabhoaa.V
open Go Go.Vc Go.Proofs
open Go.Vc (Bytes)

theorem or32 (c : UInt8) (w : World) : (binOp .or 5 (Value.int .u8 (c.toNat : Int)) (Value.int .u8 32)).run P w = .ok (Value.int .u8 ((c ||| 32).toNat : Int)) w := by
  have h1 : (binOp .or 5 (Value.int .u8 (c.toNat : Int)) (Value.int .u8 32)).run P w = .ok (Value.int .u8 (IntKind.u8.wrap ((BitVec.ofInt 8 (c.toNat : Int) ||| BitVec.ofInt 8 32).toNat : Int))) w := rfl
  rw [h1]
  have h2 : BitVec.ofInt 8 (c.toNat : Int) = c.toBitVec := by
    rw [BitVec.ofInt_natCast]
    apply BitVec.eq_of_toNat_eq
    rw [BitVec.toNat_ofNat]
    exact Nat.mod_eq_of_lt (UInt8.toNat_lt c)
  have h3 : ((BitVec.ofInt 8 (c.toNat : Int) ||| BitVec.ofInt 8 32).toNat) = (c ||| 32).toNat := by
    rw [h2]; rfl
  rw [h3, M.wrap_u8 (by omega) (by have := UInt8.toNat_lt (c ||| 32); omega)]

theorem letter_or (c : UInt8) : ((97 ≤ (c ||| 32).toNat ∧ (c ||| 32).toNat ≤ 122) ↔ M.Letter c) := by
  have h : ∀ n : Fin 256, (97 ≤ (n.val ||| 32) ∧ (n.val ||| 32) ≤ 122) ↔ ((97 ≤ n.val ∧ n.val ≤ 122) ∨ (65 ≤ n.val ∧ n.val ≤ 90)) := by decide +kernel
  have := h ⟨c.toNat, UInt8.toNat_lt c⟩
  rw [UInt8.toNat_or]
  exact this

theorem oletter_spec (c : UInt8) (w : World) : Calls P F_octets_Letter #[.int .u8 (c.toNat : Int)] w (Ret w (.bool (decide (M.Letter c)))) := by
  refine ok_octets_Letter _ ?_
  unfold vc_octets_Letter
  have hl := letter_or c
  refine ⟨_, or32 c, br_dec (fun h => ⟨_, or32 c, Ret.bool ?_ (Grow.refl _)⟩) (fun h => Ret.bool ?_ (Grow.refl _))⟩
  · exact decide_eq_decide.2 (by rw [← hl]; omega)
  · exact dec_f (by rw [← hl]; omega)

theorem oname1_spec (c : UInt8) (w : World) : Calls P F_octets_Name_1 #[.int .u8 (c.toNat : Int)] w (Ret w (.bool (!M.innerB c))) := by
  refine ok_octets_Name_1 _ ?_
  unfold vc_octets_Name_1
  refine useR (oletter_spec c w) fun w1 hg => ⟨_, rfl, br_ndec (fun h => br_ndec (fun h2 => br_dec (fun h3 => Ret.bool ?_ hg) (fun h3 => Ret.bool ?_ hg)) (fun h2 => Ret.bool ?_ hg)) (fun h => Ret.bool ?_ hg)⟩
  · rw [M.innerB_f h (by omega) (by unfold M.Digit; omega)]; rfl
  · by_cases h4 : c.toNat ≤ 57
    · rw [M.innerB_t (.inr ⟨by omega, h4⟩), decide_eq_false (by omega)]; rfl
    · rw [M.innerB_f h (by omega) (by unfold M.Digit; omega), decide_eq_true (by omega)]; rfl
  · rw [M.innerB_t (.inl (.inr (by omega)))]; rfl
  · rw [M.innerB_t (.inl (.inl h))]; rfl

/-- Is one of them so? -/
theorem indexByte_spec (p : UInt8 → Bool) (g : FuncId) (hg : enterable P g = true) (hp : ∀ c w, Calls P g #[.int .u8 (c.toNat : Int)] w (Ret w (.bool (p c)))) (l : Bytes) (s : Sl) (w : World) (hl : s.len = l.length) (hc : ∀ w', Grow w w' → SlCells w' s.a s.len (bytesV l)) (hs : l.length ≤ 1099511627776) :
    Calls P F_slices_ContainsFunc_byte #[.slice s.a s.len s.cap, .func (.func g) #[] #[]] w (Ret w (.bool (l.any p))) := by
  refine ok_slices_ContainsFunc_byte _ _ _ _ ?_
  unfold vc_slices_ContainsFunc_byte
  have : Calls P F_slices_IndexFunc_byte #[.slice s.a s.len s.cap, .func (.func g) #[] #[]] w (fun e w' => ∃ r : Int, e = .returned (.int .i64 r) ∧ decide (0 ≤ r) = l.any p ∧ Grow w w') := by
    refine ok_slices_IndexFunc_byte _ _ _ _ ?_
    unfold vc_slices_IndexFunc_byte
    refine ⟨fun i n w' => ∃ j : Nat, i = j ∧ j ≤ l.length ∧ n = l.length - j ∧ l.any p = (l.drop j).any p ∧ Grow w w', l.length, ⟨0, rfl, by omega, by omega, by simp, Grow.refl _⟩, ?_⟩
    rintro i n w1 ⟨j, rfl, hj, rfl, hf, hgw⟩
    refine br_dec (fun h => ⟨by omega, h, ?_⟩) (fun h => ⟨-1, rfl, ?_, hgw⟩)
    · have hlt : j < l.length := by omega
      have hsc := hc w1 hgw
      cases ha : s.a with
      | none => have := hsc.none ha; have h2 : (bytesV l).length = 0 := by rw [this]; rfl
                rw [bytesV_length] at h2; omega
      | some ad =>
        have hcell := hsc.some ad ha
        refine ⟨ad, rfl, ((l[j]).toNat : Int), ?_, hg, ?_⟩
        · intro k v hk
          cases k with
          | zero =>
            cases hk
            rw [addr_add_add, Nat.mul_one, Nat.add_zero]
            exact hcell j _ (by simp [bytesV, hlt])
          | succ k => simp at hk
        · have e : ((#[] : Array Value).toList ++ [Value.int .u8 ((l[j]).toNat : Int)] ++ (#[] : Array Value).toList).toArray = #[Value.int .u8 ((l[j]).toNat : Int)] := rfl
          rw [e]
          have hd : l.drop j = l[j] :: l.drop (j + 1) := List.drop_eq_getElem_cons hlt
          refine useR (hp _ _) fun w2 hg2 => ⟨_, rfl, br_intro (fun h2 => ⟨j, rfl, ?_, hgw.trans hg2⟩) (fun h2 => ⟨inI64 (by omega) (by omega), l.length - (j + 1), by omega, j + 1, by omega, by omega, rfl, ?_, hgw.trans hg2⟩)⟩
          · rw [hf, hd, List.any_cons, h2, decide_eq_true (by omega)]; rfl
          · rw [hf, hd, List.any_cons, h2, Bool.false_or]
    · rw [hf, List.drop_eq_nil_of_le (by omega)]; rfl
  refine this.mono ?_
  rintro _ w1 ⟨r, rfl, h1, h2⟩
  exact ⟨r, rfl, Ret.bool h1 h2⟩

theorem tob_grow {w w' : World} {l : Bytes} {e : TypeId} {s : Sl} (h : ToBytes w l e s w') : Grow w w' := ⟨h.os, h.tape, h.output, by rw [h.size]; omega, fun k hk => h.old k hk⟩
theorem tob_cells {w w' : World} {l : Bytes} {e : TypeId} {s : Sl} (h : ToBytes w l e s w') : s.len = l.length ∧ ∀ w2, Grow w' w2 → SlCells w2 s.a s.len (bytesV l) := by
  obtain ⟨c, h1, h2⟩ := h.s
  obtain ⟨rest, fz, h3, _⟩ := h.cells
  refine ⟨by rw [h2], fun w2 hg => ⟨by rw [bytesV_length, h2], fun ad had => ?_, fun hn => by rw [h2] at hn; cases hn⟩⟩
  rw [h2] at had
  cases had
  refine CellsAt.of_block (fz := fz) (by rw [hg.block _ (by rw [h.size]; omega)]; exact h3) fun i v hi => ?_
  rw [Nat.zero_add, List.getElem?_toArray, List.getElem?_append_left]
  · exact hi
  · rcases Nat.lt_or_ge i (bytesV l).length with h' | h'
    · exact h'
    · rw [List.getElem?_eq_none h'] at hi; cases hi

theorem any_inner (l : Bytes) : (l.any fun c => !M.innerB c) = !(l.all M.innerB) := by
  induction l with
  | nil => rfl
  | cons c r ih => rw [List.any_cons, List.all_cons, ih, Bool.not_and]

theorem oname_spec (s : Bytes) (w : World) : Calls P F_octets_Name #[.string (bs s)] w (Ret w (.bool (M.nameB s))) := by
  refine ok_octets_Name _ ?_
  unfold vc_octets_Name
  have rest : ∀ (s1 : Sl) (w1 : World), ToBytes w s T_uint8 s1 w1 → s.length ≤ 32 → (∀ c r, s = c :: r → ¬ M.Digit c) → s ≠ [] →
      Calls P F_slices_ContainsFunc_byte #[Value.slice s1.a s1.len s1.cap, Value.func (.func F_octets_Name_1) #[] #[]] w1 (fun (e_ : Ending) (w_1 : World) =>
            ∃ r : Bool, e_ = Ending.returned (Value.bool r) ∧ Ret w (.bool (M.nameB s)) (Ending.returned (Value.bool (!r))) w_1) := by
    intro s1 w1 ht hl hd hne
    obtain ⟨q1, q2⟩ := tob_cells ht
    refine useR (indexByte_spec (fun c => !M.innerB c) F_octets_Name_1 rfl (fun c w => oname1_spec c w) s s1 w1 q1 q2 (by omega)) fun w2 hg2 => ⟨_, rfl, Ret.bool ?_ ((tob_grow ht).trans hg2)⟩
    rw [any_inner, Bool.not_not]
    obtain ⟨c, r, rfl⟩ : ∃ c r, s = c :: r := by cases s with
      | nil => exact absurd rfl hne
      | cons c r => exact ⟨c, r, rfl⟩
    have hdc := hd c r rfl
    have : M.innerB c = M.headB c := by
      cases hh : M.headB c with
      | true => exact M.innerB_head hh
      | false => exact M.innerB_no hh hdc
    rw [List.all_cons, this, M.nameB, decide_eq_true (by simpa using hl), Bool.and_true]
  refine br_dec (fun h => Ret.bool ?_ (Grow.refl _)) (fun h => br_dec (fun h2 => Ret.bool ?_ (Grow.refl _)) (fun h2 => ?_))
  · rw [h]; rfl
  · cases s with
    | nil => exact absurd rfl h
    | cons c r => rw [M.nameB, decide_eq_false (by simp at h2; omega), Bool.and_false]
  obtain ⟨c, r, rfl⟩ : ∃ c r, s = c :: r := by cases s with
    | nil => exact absurd rfl h
    | cons c r => exact ⟨c, r, rfl⟩
  rw [show byteAt (c :: r) (Int.toNat 0) = (c.toNat : Int) from rfl]
  refine ⟨by omega, by simp, br_dec (fun h3 => ⟨by omega, by simp, br_dec (fun h4 => Ret.bool ?_ (Grow.refl _)) (fun h4 s1 w1 ht => ?_)⟩) (fun h3 s1 w1 ht => ?_)⟩
  · rw [M.nameB, show M.headB c = false from M.headB_f (by unfold M.Letter; omega) (by omega)]; rfl
  · exact rest s1 w1 ht (by omega) (fun c' r' e => by cases e; unfold M.Digit; omega) (by simp)
  · exact rest s1 w1 ht (by omega) (fun c' r' e => by cases e; unfold M.Digit; omega) (by simp)

end Go.Proofs.Ytpedoaeieabhoaa.V

/- Contracts: whether a pipeline may be (the program's). -/
namespace Go.Proofs.Ytpedoaeieabhoaa.V
open Go Go.Vc Go.Proofs
open Go.Vc (Bytes)

theorem anyString_spec (p : Bytes → Bool) (g : FuncId) (hg : enterable P g = true) (hp : ∀ x w, Calls P g #[.string (bs x)] w (Ret w (.bool (p x)))) (l : List Bytes) (s : Sl) (w : World) {S : Nat → Prop} (hl : LstAt M.strR w S s l) (hS : ∀ k, S k → k < w.heap.size) (hs : l.length ≤ 1099511627776) :
    Calls P F_slices_ContainsFunc_string #[.slice s.a s.len s.cap, .func (.func g) #[] #[]] w (Ret w (.bool (l.any p))) := by
  refine ok_slices_ContainsFunc_string _ _ _ _ ?_
  unfold vc_slices_ContainsFunc_string
  have hlen := hl.len
  have : Calls P F_slices_IndexFunc_string #[.slice s.a s.len s.cap, .func (.func g) #[] #[]] w (fun e w' => ∃ r : Int, e = .returned (.int .i64 r) ∧ decide (0 ≤ r) = l.any p ∧ Grow w w') := by
    refine ok_slices_IndexFunc_string _ _ _ _ ?_
    unfold vc_slices_IndexFunc_string
    refine ⟨fun i n w' => ∃ j : Nat, i = j ∧ j ≤ l.length ∧ n = l.length - j ∧ l.any p = (l.drop j).any p ∧ Grow w w', l.length, ⟨0, rfl, by omega, by omega, by simp, Grow.refl _⟩, ?_⟩
    rintro i n w1 ⟨j, rfl, hj, rfl, hf, hgw⟩
    refine br_dec (fun h => ⟨by omega, h, ?_⟩) (fun h => ⟨-1, rfl, ?_, hgw⟩)
    · have hlt : j < l.length := by omega
      obtain ⟨ad, c, q1, q2, q3, q4⟩ := (hl.keep (R' := M.strR) (w' := w1) (fun _ _ h => h) fun k hk => hgw.block k (hS k hk)).get M.strR.size j hlt
      cases q3
      have hd : l.drop j = l[j] :: l.drop (j + 1) := List.drop_eq_getElem_cons hlt
      refine ⟨ad, q1, l[j], by simpa using q4, hg, ?_⟩
      rw [show ((#[] : Array Value).toList ++ [Value.string (bs l[j])] ++ (#[] : Array Value).toList).toArray = #[Value.string (bs l[j])] from rfl]
      refine useR (hp _ _) fun w2 hg2 => ⟨_, rfl, br_intro (fun h2 => ⟨j, rfl, ?_, hgw.trans hg2⟩) (fun h2 => ⟨inI64 (by omega) (by omega), l.length - (j + 1), by omega, j + 1, by omega, by omega, rfl, ?_, hgw.trans hg2⟩)⟩
      · rw [hf, hd, List.any_cons, h2, decide_eq_true (by omega)]; rfl
      · rw [hf, hd, List.any_cons, h2, Bool.false_or]
    · rw [hf, List.drop_eq_nil_of_le (by omega)]; rfl
  refine this.mono ?_
  rintro _ w1 ⟨r, rfl, h1, h2⟩
  exact ⟨r, rfl, Ret.bool h1 h2⟩

theorem argMay1_spec (x : Bytes) (w : World) : Calls P F_pipes_argMay_1 #[.string (bs x)] w (Ret w (.bool (!M.nameB x))) := by
  refine ok_pipes_argMay_1 _ ?_
  unfold vc_pipes_argMay_1
  exact useR (oname_spec x w) fun w1 hg => ⟨_, rfl, Ret.bool rfl hg⟩

theorem any_name (l : List Bytes) : (l.any fun c => !M.nameB c) = !(l.all M.nameB) := by
  induction l with
  | nil => rfl
  | cons c r ih => rw [List.any_cons, List.all_cons, ih, Bool.not_and]

theorem argMay_spec (a : M.ArgM) (sl : Sl) (w : World) {S : Nat → Prop} (hl : LstAt M.strR w S sl a.path) (hS : ∀ k, S k → k < w.heap.size) (hs : a.path.length ≤ 1099511627776) :
    Calls P F_pipes_argMay #[.agg #[.int .i64 a.kind, .string (bs a.name), .slice sl.a sl.len sl.cap, .int .i64 a.int, .string (bs a.text)]] w (Ret w (.bool (M.argMayM a))) := by
  refine ok_pipes_argMay _ _ _ _ _ ?_
  unfold vc_pipes_argMay
  have hlen := hl.len
  intro b hb
  refine ⟨fun w' => Grow w w' ∧ b < w'.heap.size ∧ a.path.all M.nameB = true ∧ a.path.length ≤ 16, fun w0 hL => ?_, ?_⟩
  · have hg0 := hL.g1 hb
    refine useR (anyString_spec (fun x => !M.nameB x) F_pipes_argMay_1 rfl argMay1_spec a.path sl w0 (hl.keep (R' := M.strR) (w' := w0) (fun _ _ h => h) fun k hk => hg0.block k (hS k hk)) (fun k hk => Nat.lt_of_lt_of_le (hS k hk) hg0.size) hs) fun w1 hg1 => ⟨_, rfl, hg1.block _ (hL.mem b (by simp)), br_intro (fun h => Ret.bool ?_ (hg0.trans hg1)) (fun h => br_dec (fun h2 => Ret.bool ?_ (hg0.trans hg1)) (fun h2 => ⟨hg0.trans hg1, Nat.lt_of_lt_of_le (hL.mem b (by simp)) hg1.size, ?_, by omega⟩))⟩
    · rw [any_name] at h
      rw [M.argMayM, show a.path.all M.nameB = false by simpa using h]; simp
    · rw [M.argMayM, decide_eq_false (p := a.path.length ≤ 16) (by omega)]; simp
    · rw [any_name] at h; simpa using h
  · rintro w1 ⟨hg1, hm, hall, h16⟩
    have hpn : ((sl.len : Nat) : Int) = 0 ↔ a.path = [] := by
      rw [hlen]; simp
    have hbase : M.argMayM a = (decide (1 ≤ a.kind ∧ a.kind ≤ 7) && (decide (a.kind = 2) && M.nameB a.name || decide (a.name = [])) && decide (a.kind ≤ 2 ∨ a.path = []) && decide (a.kind = 3 ∨ a.int = 0) && decide (a.kind = 4 ∨ a.text = []) && decide (a.text.length ≤ 4096)) := by
      rw [M.argMayM, hall, decide_eq_true h16]; simp
    rw [hbase]
    clear hbase hl hall
    have nm : ∀ {Q : Ending → World → Prop}, (∀ w2, Grow w1 w2 → w2.heap[b]? = w1.heap[b]? → Q (.returned (.bool (M.nameB a.name))) w2) → Calls P F_octets_Name #[.string (bs a.name)] w1 Q := fun h => useR (oname_spec _ _) fun w2 hg2 => h w2 hg2 (hg2.block _ hm)
    generalize M.nameB a.name = nb at *
    repeat' (first
      | refine br_dec (fun _ => ?_) (fun _ => ?_)
      | refine Ret.bool ?_ hg1
      | refine nm fun w2 hg2 hbx => ⟨_, rfl, hbx, ?_⟩
      | refine br_intro (fun hnb => ?_) (fun hnb => ?_)
      | refine Ret.bool ?_ (hg1.trans (by assumption)))
    all_goals simp only [hpn] at *
    all_goals (rw [Bool.eq_iff_iff]; simp only [Bool.and_eq_true, Bool.or_eq_true, decide_eq_true_eq, Bool.false_eq_true, false_iff])
    all_goals grind

end Go.Proofs.Ytpedoaeieabhoaa.V

/- Contracts: whether a pipeline may be (the program's). -/
namespace Go.Proofs.Ytpedoaeieabhoaa.V
open Go Go.Vc Go.Proofs
open Go.Vc (Bytes)

theorem parity_spec (s : Bytes) (w : World) : Calls P F_pipes_Arity #[.string (bs s)] w (Ret w (.tuple #[.int .i64 (M.arity s).1, .int .i64 (M.arity s).2.1, .bool (M.arity s).2.2])) := by
  refine ok_pipes_Arity _ ?_
  unfold vc_pipes_Arity
  by_cases h1 : s = [108, 101, 110]
  · subst h1; exact ⟨rfl, Grow.refl _⟩
  by_cases h2 : s = [110, 111, 116]
  · subst h2; exact ⟨rfl, Grow.refl _⟩
  by_cases h3 : s = [117, 112, 112, 101, 114]
  · subst h3; exact ⟨rfl, Grow.refl _⟩
  by_cases h4 : s = [108, 111, 119, 101, 114]
  · subst h4; exact ⟨rfl, Grow.refl _⟩
  by_cases h5 : s = [101, 113]
  · subst h5; exact ⟨rfl, Grow.refl _⟩
  by_cases h6 : s = [108, 116]
  · subst h6; exact ⟨rfl, Grow.refl _⟩
  by_cases h7 : s = [97, 110, 100]
  · subst h7; exact ⟨rfl, Grow.refl _⟩
  by_cases h8 : s = [111, 114]
  · subst h8; exact ⟨rfl, Grow.refl _⟩
  by_cases h9 : s = [106, 111, 105, 110]
  · subst h9; exact ⟨rfl, Grow.refl _⟩
  by_cases h10 : s = [100, 101, 102, 97, 117, 108, 116]
  · subst h10; exact ⟨rfl, Grow.refl _⟩
  by_cases h11 : s = [105, 110, 100, 101, 120]
  · subst h11; exact ⟨rfl, Grow.refl _⟩
  by_cases h12 : s = [112, 114, 105, 110, 116]
  · subst h12; exact ⟨rfl, Grow.refl _⟩
  have hm : M.arity s = (0, 0, false) := by simp [M.arity, h1, h2, h3, h4, h5, h6, h7, h8, h9, h10, h11, h12]
  rw [hm]
  simp only [h1, h2, h3, h4, h5, h6, h7, h8, h9, h10, h11, h12, decide_false, br]
  exact ⟨rfl, Grow.refl _⟩

def ArgSmall (a : M.ArgM) : Prop := a.path.length ≤ 1099511627776

theorem callMay1_spec (a : M.ArgM) (sl : Sl) (w : World) {S : Nat → Prop} (hl : LstAt M.strR w S sl a.path) (hS : ∀ k, S k → k < w.heap.size) (hs : ArgSmall a) :
    Calls P F_pipes_callMay_1 #[.agg #[.int .i64 a.kind, .string (bs a.name), .slice sl.a sl.len sl.cap, .int .i64 a.int, .string (bs a.text)]] w (Ret w (.bool (!M.argMayM a))) := by
  refine ok_pipes_callMay_1 _ _ _ _ _ ?_
  unfold vc_pipes_callMay_1
  intro b hb w0 hL
  have hg0 := hL.g1 hb
  exact useR (argMay_spec a sl w0 (hl.keep (R' := M.strR) (w' := w0) (fun _ _ h => h) fun k hk => hg0.block k (hS k hk)) (fun k hk => Nat.lt_of_lt_of_le (hS k hk) hg0.size) hs) fun w1 hg1 => ⟨_, rfl, hg1.block _ (hL.mem b (by simp)), Ret.bool rfl (hg0.trans hg1)⟩

theorem anyArg_spec (l : List M.ArgM) (s : Sl) (w : World) {S : Nat → Prop} (hl : LstAt (M.argR w S) w S s l) (hS : ∀ k, S k → k < w.heap.size) (hs : l.length ≤ 1099511627776) (ha : ∀ a ∈ l, ArgSmall a) :
    Calls P F_slices_ContainsFunc_api_Arg #[.slice s.a s.len s.cap, .func (.func F_pipes_callMay_1) #[] #[]] w (Ret w (.bool (!l.all M.argMayM))) := by
  refine ok_slices_ContainsFunc_api_Arg _ _ _ _ ?_
  unfold vc_slices_ContainsFunc_api_Arg
  have hlen := hl.len
  have : Calls P F_slices_IndexFunc_api_Arg #[.slice s.a s.len s.cap, .func (.func F_pipes_callMay_1) #[] #[]] w (fun e w' => ∃ r : Int, e = .returned (.int .i64 r) ∧ decide (0 ≤ r) = !l.all M.argMayM ∧ Grow w w') := by
    refine ok_slices_IndexFunc_api_Arg _ _ _ _ ?_
    unfold vc_slices_IndexFunc_api_Arg
    refine ⟨fun i n w' => ∃ j : Nat, i = j ∧ j ≤ l.length ∧ n = l.length - j ∧ l.all M.argMayM = (l.drop j).all M.argMayM ∧ Grow w w', l.length, ⟨0, rfl, by omega, by omega, by simp, Grow.refl _⟩, ?_⟩
    rintro i n w1 ⟨j, rfl, hj, rfl, hf, hgw⟩
    refine br_dec (fun h => ⟨by omega, h, ?_⟩) (fun h => ⟨-1, rfl, ?_, hgw⟩)
    · have hlt : j < l.length := by omega
      have hk : ∀ k, S k → w1.heap[k]? = w.heap[k]? := fun k hk => hgw.block k (hS k hk)
      have hS1 : ∀ k, S k → k < w1.heap.size := fun k hk => Nat.lt_of_lt_of_le (hS k hk) hgw.size
      obtain ⟨ad, c, q1, q2, ⟨sl, rfl, q3⟩, q4⟩ := (hl.keep (R' := M.argR w1 S) (w' := w1) (fun _ _ h => h.keep hk) hk).get (fun _ _ => M.niceArg.size) j hlt
      have hd : l.drop j = l[j] :: l.drop (j + 1) := List.drop_eq_getElem_cons hlt
      refine ⟨ad, q1, l[j].kind, l[j].name, sl, l[j].int, l[j].text, by simpa using q4, rfl, ?_⟩
      refine useR (callMay1_spec l[j] sl w1 q3 hS1 (ha _ (List.getElem_mem hlt))) fun w2 hg2 => ⟨_, rfl, br_not (fun h2 => ⟨j, rfl, ?_, hgw.trans hg2⟩) (fun h2 => ⟨inI64 (by omega) (by omega), l.length - (j + 1), by omega, j + 1, by omega, by omega, rfl, ?_, hgw.trans hg2⟩)⟩
      · rw [hf, hd, List.all_cons, h2, decide_eq_true (by omega)]; rfl
      · rw [hf, hd, List.all_cons, h2, Bool.true_and]
    · rw [hf, List.drop_eq_nil_of_le (by omega)]; rfl
  refine this.mono ?_
  rintro _ w1 ⟨r, rfl, h1, h2⟩
  exact ⟨r, rfl, Ret.bool h1 h2⟩

def CallSmall (c : M.CallM) : Prop := c.args.length ≤ 1099511627776 ∧ ∀ a ∈ c.args, ArgSmall a

theorem callMay_spec (c : M.CallM) (ahead : Bool) (sl : Sl) (w : World) {S : Nat → Prop} (hl : LstAt (M.argR w S) w S sl c.args) (hS : ∀ k, S k → k < w.heap.size) (hs : CallSmall c) :
    Calls P F_pipes_callMay #[.agg #[.string (bs c.name), .slice sl.a sl.len sl.cap], .bool ahead] w (Ret w (.bool (M.callMayM c ahead))) := by
  refine ok_pipes_callMay _ _ _ ?_
  unfold vc_pipes_callMay
  have hlen := hl.len
  have hsl := hs.1
  intro b hb w0 hL
  have hg0 := hL.g1 hb
  have hk : ∀ k, S k → w0.heap[k]? = w.heap[k]? := fun k hk => hg0.block k (hS k hk)
  refine useR (anyArg_spec c.args sl w0 (hl.keep (R' := M.argR w0 S) (w' := w0) (fun _ _ h => h.keep hk) hk) (fun k hk => Nat.lt_of_lt_of_le (hS k hk) hg0.size) hs.1 hs.2) fun w1 hg1 => ⟨_, rfl, hg1.block _ (hL.mem b (by simp)), ?_⟩
  have hm1 := Nat.lt_of_lt_of_le (hL.mem b (by simp)) hg1.size
  have hgg := hg0.trans hg1
  refine br_not (fun h => Ret.bool ?_ hgg) (fun h => br_dec (fun h2 => br_not (fun h3 => Ret.bool ?_ hgg) (fun h3 => Ret.bool ?_ hgg)) (fun h2 => ?_))
  · rw [M.callMayM, h]; rfl
  · rw [M.callMayM, h, if_pos h2, h3]; simp; omega
  · rw [M.callMayM, h, if_pos h2, h3]; rfl
  · refine useR (parity_spec _ _) fun w2 hg2 => ⟨_, _, _, rfl, hg2.block _ hm1, ?_⟩
    have hgg2 := hgg.trans hg2
    refine ⟨fun n w' => n = M.bump ahead c.args.length ∧ w' = w2, br_intro (fun h3 => ⟨inI64 (by omega) (by omega), ?_, rfl⟩) (fun h3 => ⟨?_, rfl⟩), ?_⟩
    · rw [M.bump, if_pos h3]; omega
    · rw [M.bump, if_neg (by simp [h3])]; omega
    rintro _ _ ⟨rfl, rfl⟩
    refine br_intro (fun h3 => br_dec (fun h4 => Ret.bool ?_ hgg2) (fun h4 => Ret.bool ?_ hgg2)) (fun h3 => Ret.bool ?_ hgg2)
    · rw [M.callMayM, h, if_neg h2, h3, Bool.true_and, Bool.true_and]; exact decide_eq_decide.2 ⟨fun e => ⟨h4, e⟩, fun e => e.2⟩
    · rw [M.callMayM, h, if_neg h2, h3, Bool.true_and, Bool.true_and, decide_eq_false (fun e => h4 e.1)]
    · rw [M.callMayM, h, if_neg h2, h3]; rfl

theorem pcheck_spec (l : List M.CallM) (sl : Sl) (w : World) {S : Nat → Prop} (hl : LstAt (M.callR w S) w S sl l) (hS : ∀ k, S k → k < w.heap.size) (hs : ∀ c ∈ l, CallSmall c) :
    Calls P F_pipes_Check #[.slice sl.a sl.len sl.cap] w (Ret w (.int .i64 (if M.pipeMay l = true then 0 else 9))) := by
  refine ok_pipes_Check _ ?_
  unfold vc_pipes_Check
  have hlen := hl.len
  refine ⟨fun w' => w' = w ∧ 1 ≤ l.length ∧ l.length ≤ 16, br_dec (fun h => Ret.int ?_ (Grow.refl _)) (fun h => br_dec (fun h2 => Ret.int ?_ (Grow.refl _)) (fun h2 => ⟨rfl, by omega, by omega⟩)), ?_⟩
  · rw [M.pipeMay, decide_eq_false (by omega)]; rfl
  · rw [M.pipeMay, decide_eq_false (by omega)]; rfl
  rintro w0 ⟨hw0, h1, h2⟩
  rw [hw0]
  have hpm : M.pipeMay l = M.callsMay false l := by rw [M.pipeMay, decide_eq_true ⟨h1, h2⟩, Bool.true_and]
  rw [hpm]
  refine ⟨fun i n w' => ∃ j : Nat, i = j ∧ j ≤ l.length ∧ n = l.length - j ∧ M.callsMay false l = M.callsMay (decide (0 < j)) (l.drop j) ∧ Grow w w', l.length, ⟨0, rfl, by omega, by omega, by simp, Grow.refl _⟩, ?_⟩
  rintro i n w1 ⟨j, rfl, hj, rfl, hf, hgw⟩
  refine br_dec (fun h => ⟨by omega, h, ?_⟩) (fun h => Ret.int ?_ hgw)
  · have hlt : j < l.length := by omega
    have hk : ∀ k, S k → w1.heap[k]? = w.heap[k]? := fun k hk => hgw.block k (hS k hk)
    obtain ⟨ad, c, q1, q2, ⟨sa, rfl, q3⟩, q4⟩ := (hl.keep (R' := M.callR w1 S) (w' := w1) (fun _ _ h => h.keep hk) hk).get (fun _ _ => M.niceCall.size) j hlt
    have hd : l.drop j = l[j] :: l.drop (j + 1) := List.drop_eq_getElem_cons hlt
    refine ⟨ad, q1, l[j].name, sa, by simpa using q4, fun b hb w2 hL => ?_⟩
    have hg2 := hL.g1 hb
    have hS1 : ∀ k, S k → k < w1.heap.size := fun k hk => Nat.lt_of_lt_of_le (hS k hk) hgw.size
    have hk2 : ∀ k, S k → w2.heap[k]? = w1.heap[k]? := fun k hk => hg2.block k (hS1 k hk)
    have hdec : decide ((0 : Int) < (j : Int)) = decide (0 < j) := decide_eq_decide.2 (by omega)
    rw [hdec]
    refine useR (callMay_spec l[j] (decide (0 < j)) sa w2 (q3.keep (R' := M.argR w2 S) (w' := w2) (fun _ _ h => h.keep hk2) hk2) (fun k hk => Nat.lt_of_lt_of_le (hS1 k hk) hg2.size) (hs _ (List.getElem_mem hlt))) fun w3 hg3 => ⟨_, rfl, hg3.block _ (hL.mem b (by simp)), br_not (fun h3 => Ret.int ?_ ((hgw.trans hg2).trans hg3)) (fun h3 => ⟨inI64 (by omega) (by omega), l.length - (j + 1), by omega, j + 1, by omega, by omega, rfl, ?_, (hgw.trans hg2).trans hg3⟩)⟩
    · rw [hf, hd, M.callsMay, h3]; rfl
    · rw [hf, hd, M.callsMay, h3, Bool.true_and, decide_eq_true (by omega)]
  · rw [hf, List.drop_eq_nil_of_le (by omega), M.callsMay]; rfl

end Go.Proofs.Ytpedoaeieabhoaa.V

/- Contracts: whether nodes may be (check). -/
namespace Go.Proofs.Ytpedoaeieabhoaa.V
open Go Go.Vc Go.Proofs
open Go.Vc (Bytes)

def HdSmall (h : M.Hd) : Prop := ∀ c ∈ h.pipe, CallSmall c

theorem cmay_spec (h : M.Hd) (b e : List M.Node) (sp sb se : Sl) (w : World) {S : Nat → Prop} (hp : LstAt (M.callR w S) w S sp h.pipe) (hS : ∀ k, S k → k < w.heap.size) (hs : HdSmall h) (hb : sb.len = b.length) (he : se.len = e.length) (hl : b.length + e.length ≤ 1099511627776) :
    Calls P F_check_may #[.agg #[.int .i64 h.kind, .string (bs h.text), .string (bs h.name), .slice sp.a sp.len sp.cap, .slice sb.a sb.len sb.cap, .slice se.a se.len se.cap, .int .i64 h.at_, .int .i64 h.esc, .int .i64 h.unit]] w (Ret w (.bool (M.mayN (.mk h b e)))) := by
  refine ok_check_may _ _ _ _ _ _ _ _ _ ?_
  unfold vc_check_may
  have hpl := hp.len
  intro bb hbb
  refine ⟨fun w' => Grow w w' ∧ bb < w'.heap.size ∧ 1 ≤ h.kind ∧ h.kind ≤ 7 ∧ h.esc = 0 ∧ h.unit = 0, ?_, ?_⟩
  · refine br_dec (fun h1 w0 hL => Ret.bool ?_ (hL.g1 hbb)) (fun h1 => br_dec (fun h2 w0 hL => Ret.bool ?_ (hL.g1 hbb)) (fun h2 => br_ndec (fun h3 w0 hL => Ret.bool ?_ (hL.g1 hbb)) (fun h3 => br_ndec (fun h4 w0 hL => Ret.bool ?_ (hL.g1 hbb)) (fun h4 w0 hL => ⟨hL.g1 hbb, hL.mem bb (by simp), by omega, by omega, h3, h4⟩))))
    · rw [M.mayN, decide_eq_false (p := 1 ≤ h.kind ∧ h.kind ≤ 7) (by omega)]; rfl
    · rw [M.mayN, decide_eq_false (p := 1 ≤ h.kind ∧ h.kind ≤ 7) (by omega)]; rfl
    · rw [M.mayN, decide_eq_false (p := h.esc = 0) h3]; simp
    · rw [M.mayN, decide_eq_false (p := h.unit = 0) h4]; simp
  rintro w1 ⟨hg1, hm1, k1, k7, ke, ku⟩
  have hbase : M.mayN (.mk h b e) = ((M.pipedB h == decide (0 < h.pipe.length)) && (!M.pipedB h || M.pipeMay h.pipe) && (decide (h.kind = 1) || decide (h.text = [])) &&
    ((decide (h.kind = 6) || decide (h.kind = 7)) == !decide (h.name = [])) && (decide (3 ≤ h.kind ∧ h.kind ≤ 5) || decide (b.length + e.length = 0))) := by
    rw [M.mayN, decide_eq_true (p := 1 ≤ h.kind ∧ h.kind ≤ 7) ⟨k1, k7⟩, decide_eq_true ke, decide_eq_true ku]; rfl
  rw [hbase]
  refine ⟨fun x w' => x = decide (3 ≤ h.kind ∧ h.kind ≤ 5) ∧ w' = w1, br_dec (fun h1 => ⟨?_, rfl⟩) (fun h1 => ⟨?_, rfl⟩), ?_⟩
  · exact decide_eq_decide.2 ⟨fun e => ⟨h1, e⟩, fun e => e.2⟩
  · exact dec_f (fun e => h1 e.1)
  rintro _ w2 ⟨rfl, hw2⟩
  refine ⟨fun x w' => x = (decide (h.kind = 6) || decide (h.kind = 7)) ∧ w' = w1, br_dec (fun h1 => ⟨?_, hw2⟩) (fun h1 => ⟨?_, hw2⟩), ?_⟩
  · rw [decide_eq_true h1]; rfl
  · rw [decide_eq_false h1]; rfl
  rintro _ w3 ⟨rfl, hw3⟩
  refine ⟨fun x w' => x = M.pipedB h ∧ w' = w1, br_ndec (fun h1 => br_ndec (fun h2 => ⟨?_, hw3⟩) (fun h2 => ⟨?_, hw3⟩)) (fun h1 => ⟨?_, hw3⟩), ?_⟩
  · rw [M.pipedB, decide_eq_true h1, decide_eq_true h2]; rfl
  · rw [M.pipedB, decide_eq_true h1, decide_eq_false (p := h.kind ≠ 6) (by omega), Bool.true_and, Bool.false_or]; exact decide_eq_decide.2 (by omega)
  · rw [M.pipedB, decide_eq_false (p := h.kind ≠ 1) (by omega)]; rfl
  rintro _ w4 ⟨rfl, hw4⟩
  have hdp : decide ((0 : Int) < ((sp.len : Nat) : Int)) = decide (0 < h.pipe.length) := decide_eq_decide.2 (by omega)
  rw [hdp, hw4]
  have hk1 : ∀ k, S k → w1.heap[k]? = w.heap[k]? := fun k hk => hg1.block k (hS k hk)
  have hpc := pcheck_spec h.pipe sp w1 (hp.keep (R' := M.callR w1 S) (w' := w1) (fun _ _ h => h.keep hk1) hk1) (fun k hk => Nat.lt_of_lt_of_le (hS k hk) hg1.size) hs
  generalize M.pipedB h = pb at *
  generalize decide (0 < h.pipe.length) = pl at *
  refine ⟨fun w' => Grow w w' ∧ (pb == pl) = true ∧ (!pb || M.pipeMay h.pipe) = true, br_not (fun h1 => Ret.bool ?_ hg1) (fun h1 => br_intro (fun h2 => ?_) (fun h2 => ⟨hg1, h1, by rw [h2]; rfl⟩)), ?_⟩
  · rw [h1]; rfl
  · refine useR hpc fun w5 hg5 => ⟨_, rfl, hg5.block _ hm1, br_ndec (fun h3 => Ret.bool ?_ (hg1.trans hg5)) (fun h3 => ⟨hg1.trans hg5, h1, ?_⟩)⟩
    · have : M.pipeMay h.pipe = false := by
        cases hq : M.pipeMay h.pipe with
        | true => rw [hq] at h3; simp at h3
        | false => rfl
      rw [h2, this]; simp
    · have : M.pipeMay h.pipe = true := by
        cases hq : M.pipeMay h.pipe with
        | false => rw [hq] at h3; simp at h3
        | true => rfl
      rw [this, Bool.or_true]
  rintro w5 ⟨hg5, q1, q2⟩
  rw [q1, q2, Bool.true_and, Bool.true_and]
  have hend : br ((decide (h.kind = 6) || decide (h.kind = 7)) == !decide (h.name = []))
      (br (decide (3 ≤ h.kind ∧ h.kind ≤ 5)) (Ret w (.bool (((decide (h.kind = 6) || decide (h.kind = 7)) == !decide (h.name = [])) && (decide (3 ≤ h.kind ∧ h.kind ≤ 5) || decide (b.length + e.length = 0)))) (Ending.returned (Value.bool true)) w5)
        (InI64 (((sb.len : Nat) : Int) + ((se.len : Nat) : Int)) ∧ Ret w (.bool (((decide (h.kind = 6) || decide (h.kind = 7)) == !decide (h.name = [])) && (decide (3 ≤ h.kind ∧ h.kind ≤ 5) || decide (b.length + e.length = 0)))) (Ending.returned (Value.bool (decide (((sb.len : Nat) : Int) + ((se.len : Nat) : Int) = 0)))) w5))
      (Ret w (.bool (((decide (h.kind = 6) || decide (h.kind = 7)) == !decide (h.name = [])) && (decide (3 ≤ h.kind ∧ h.kind ≤ 5) || decide (b.length + e.length = 0)))) (Ending.returned (Value.bool false)) w5) := by
    refine br_intro (fun h1 => br_intro (fun h2 => Ret.bool ?_ hg5) (fun h2 => ⟨inI64 (by omega) (by omega), Ret.bool ?_ hg5⟩)) (fun h1 => Ret.bool ?_ hg5)
    · rw [h1, h2]; rfl
    · rw [h1, h2, Bool.true_and, Bool.false_or]; exact decide_eq_decide.2 (by omega)
    · rw [h1]; rfl
  refine br_dec (fun h1 => ?_) (fun h1 => br_dec (fun h2 => ?_) (fun h2 => Ret.bool ?_ hg5))
  · rw [decide_eq_true h1]; exact hend
  · rw [decide_eq_true h2, Bool.or_true]; exact hend
  · rw [decide_eq_false h1, decide_eq_false h2]; rfl

end Go.Proofs.Ytpedoaeieabhoaa.V

/- Contracts: whether all nodes of a tree may be (check). -/
namespace Go.Proofs.Ytpedoaeieabhoaa.V
open Go Go.Vc Go.Proofs
open Go.Vc (Bytes)

mutual
def smallN : M.Node → Prop
  | .mk h b e => HdSmall h ∧ b.length + e.length ≤ 1099511627776 ∧ smallL b ∧ smallL e
def smallL : List M.Node → Prop
  | [] => True
  | x :: r => smallN x ∧ smallL r
end
theorem smallL_mem : ∀ {l : List M.Node} {x : M.Node}, smallL l → x ∈ l → smallN x
  | [], _, _, h => by simp at h
  | y :: r, x, hs, h => by
    rw [smallL] at hs
    rcases List.mem_cons.1 h with e | e
    · rw [e]; exact hs.1
    · exact smallL_mem hs.2 e

theorem each_spec : ∀ (n : Nat) (l : List M.Node), SizeOf.sizeOf l < n → ∀ (s : Sl) (w : World) (S : Nat → Prop), LstAt (M.nodeR w S) w S s l → (∀ k, S k → k < w.heap.size) → l.length ≤ 1099511627776 → smallL l →
    Calls P F_check_each #[.slice s.a s.len s.cap, .func (.func F_check_may) #[] #[]] w (Ret w (.bool (M.eachL l)))
  | 0, _, h => by omega
  | n + 1, l, hsz => by
    intro s w S hl hS hll hsm
    refine ok_check_each _ _ _ _ ?_
    unfold vc_check_each
    have hlen := hl.len
    refine ⟨fun i n w' => ∃ j : Nat, i = j ∧ j ≤ l.length ∧ n = l.length - j ∧ M.eachL l = M.eachL (l.drop j) ∧ Grow w w', l.length, ⟨0, rfl, by omega, by omega, by simp, Grow.refl _⟩, ?_⟩
    rintro i n' w1 ⟨j, rfl, hj, rfl, hf, hgw⟩
    refine br_dec (fun h => ⟨by omega, h, ?_⟩) (fun h => Ret.bool ?_ hgw)
    · have hlt : j < l.length := by omega
      have hmv : ∀ {w' : World}, Grow w w' → LstAt (M.nodeR w' S) w' S s l := fun hg => nodes_move hl (fun k hk => hg.block k (hS k hk)) (fun _ h => h)
      have hSS : ∀ {w' : World}, Grow w w' → ∀ k, S k → k < w'.heap.size := fun hg k hk => Nat.lt_of_lt_of_le (hS k hk) hg.size
      obtain ⟨ad, c, q1, q2, q3, q4⟩ := (hmv hgw).get (fun _ _ => M.niceNode.size) j hlt
      have hd : l.drop j = l[j] :: l.drop (j + 1) := List.drop_eq_getElem_cons hlt
      have hxs := smallL_mem hsm (List.getElem_mem hlt)
      have hxz := List.sizeOf_lt_of_mem (List.getElem_mem hlt)
      generalize l[j] = x at *
      obtain ⟨hd0, b, e⟩ := x
      obtain ⟨sp, sb, se, rfl, p1, p2, p3⟩ := (M.nodeR_mk _ _ _ _ _ _).1 q3
      rw [smallN] at hxs
      obtain ⟨s1, s2, s3, s4⟩ := hxs
      have z1 : SizeOf.sizeOf b < n := by simp at hxz; omega
      have z2 : SizeOf.sizeOf e < n := by simp at hxz; omega
      refine ⟨ad, q1, hd0.kind, hd0.text, hd0.name, sp, sb, se, hd0.at_, hd0.esc, hd0.unit, by simpa using q4, fun bb hbb w2 hL => ⟨rfl, ?_⟩⟩
      have hg2 := hL.g1 hbb
      have hmb := hL.mem bb (by simp)
      have step : ∀ {wa wb : World}, Grow w wa → Grow wa wb → ∀ k, S k → wb.heap[k]? = wa.heap[k]? := fun ha hb k hk => hb.block k (hSS ha k hk)
      have hgw2 := hgw.trans hg2
      have pc2 := calls_move p1 (step hgw hg2) (fun _ h => h)
      have e0 : ((#[] : Array Value).toList ++ [Value.agg #[Value.int .i64 hd0.kind, Value.string (bs hd0.text), Value.string (bs hd0.name), Value.slice sp.a sp.len sp.cap, Value.slice sb.a sb.len sb.cap, Value.slice se.a se.len se.cap, Value.int .i64 hd0.at_, Value.int .i64 hd0.esc, Value.int .i64 hd0.unit]] ++ (#[] : Array Value).toList).toArray = #[Value.agg #[Value.int .i64 hd0.kind, Value.string (bs hd0.text), Value.string (bs hd0.name), Value.slice sp.a sp.len sp.cap, Value.slice sb.a sb.len sb.cap, Value.slice se.a se.len se.cap, Value.int .i64 hd0.at_, Value.int .i64 hd0.esc, Value.int .i64 hd0.unit]] := rfl
      rw [e0]
      have hme : M.eachL l = (M.mayN (.mk hd0 b e) && (M.eachL b && M.eachL e) && M.eachL (l.drop (j + 1))) := by rw [hf, hd, M.eachL, M.eachN]
      refine useR (cmay_spec hd0 b e sp sb se w2 pc2 (hSS hgw2) s1 p2.len p3.len s2) fun w3 hg3 => ⟨_, rfl, hg3.block _ hmb, ?_⟩
      have hgw3 := hgw2.trans hg3
      have hmb3 := Nat.lt_of_lt_of_le hmb hg3.size
      refine br_not (fun h1 => Ret.bool (by rw [hme, h1]; rfl) hgw3) (fun h1 => ?_)
      rw [h1, Bool.true_and] at hme
      have pb3 := nodes_move p2 (fun k hk => (step hgw (hg2.trans hg3)) k hk) (fun _ h => h)
      refine useR (each_spec n b z1 sb w3 S pb3 (hSS hgw3) (by omega) s3) fun w4 hg4 => .inl ⟨_, rfl, hg4.block _ hmb3, ?_⟩
      have hgw4 := hgw3.trans hg4
      have hmb4 := Nat.lt_of_lt_of_le hmb3 hg4.size
      refine br_not (fun h2 => Ret.bool (by rw [hme, h2]; rfl) hgw4) (fun h2 => ?_)
      rw [h2, Bool.true_and] at hme
      have pe4 := nodes_move p3 (fun k hk => (step hgw ((hg2.trans hg3).trans hg4)) k hk) (fun _ h => h)
      refine useR (each_spec n e z2 se w4 S pe4 (hSS hgw4) (by omega) s4) fun w5 hg5 => .inl ⟨_, rfl, hg5.block _ hmb4, ?_⟩
      have hgw5 := hgw4.trans hg5
      refine br_not (fun h3 => Ret.bool (by rw [hme, h3]; rfl) hgw5) (fun h3 => ?_)
      rw [h3, Bool.true_and] at hme
      exact ⟨inI64 (by omega) (by omega), l.length - (j + 1), by omega, j + 1, by omega, by omega, rfl, hme, hgw5⟩
    · rw [hf, List.drop_eq_nil_of_le (by omega), M.eachL]

end Go.Proofs.Ytpedoaeieabhoaa.V

/- Contracts: how deep trees are (parse), and faults (check). -/
namespace Go.Proofs.Ytpedoaeieabhoaa.V
open Go Go.Vc Go.Proofs
open Go.Vc (Bytes)
open Go.Vc.M (depthN depthL)

theorem depthL_mem : ∀ {l : List M.Node} {x : M.Node}, x ∈ l → depthN x ≤ depthL l
  | [], _, h => by simp at h
  | y :: r, x, h => by
    rw [depthL]
    rcases List.mem_cons.1 h with e | e
    · rw [e]; omega
    · have := depthL_mem e; omega
theorem imax_nat (a b : Nat) : imax (a : Int) (b : Int) = ((max a b : Nat) : Int) := by unfold imax; split <;> omega

theorem depth_spec : ∀ (n : Nat) (l : List M.Node), SizeOf.sizeOf l < n → ∀ (s : Sl) (w : World) (S : Nat → Prop), LstAt (M.nodeR w S) w S s l → (∀ k, S k → k < w.heap.size) → l.length ≤ 1099511627776 → smallL l → depthL l ≤ 1099511627776 →
    Calls P F_parse_Depth #[.slice s.a s.len s.cap] w (Ret w (.int .i64 (depthL l : Nat)))
  | 0, _, h => by omega
  | n + 1, l, hsz => by
    intro s w S hl hS hll hsm hdep
    refine ok_parse_Depth _ ?_
    unfold vc_parse_Depth
    have hlen := hl.len
    refine ⟨fun m i n w' => ∃ (j d : Nat), i = j ∧ m = d ∧ j ≤ l.length ∧ n = l.length - j ∧ depthL l = max d (depthL (l.drop j)) ∧ Grow w w', l.length, ⟨0, 0, rfl, rfl, by omega, by omega, by simp, Grow.refl _⟩, ?_⟩
    rintro m i n' w1 ⟨j, d, rfl, rfl, hj, rfl, hf, hgw⟩
    refine br_dec (fun h => ⟨by omega, h, ?_⟩) (fun h => Ret.int ?_ hgw)
    · have hlt : j < l.length := by omega
      have hSS : ∀ {w' : World}, Grow w w' → ∀ k, S k → k < w'.heap.size := fun hg k hk => Nat.lt_of_lt_of_le (hS k hk) hg.size
      obtain ⟨ad, c, q1, q2, q3, q4⟩ := (nodes_move hl (S' := S) (fun k hk => hgw.block k (hS k hk)) (fun _ h => h)).get (fun _ _ => M.niceNode.size) j hlt
      have hd : l.drop j = l[j] :: l.drop (j + 1) := List.drop_eq_getElem_cons hlt
      have hxs := smallL_mem hsm (List.getElem_mem hlt)
      have hxz := List.sizeOf_lt_of_mem (List.getElem_mem hlt)
      have hxd := depthL_mem (List.getElem_mem hlt)
      generalize l[j] = x at *
      obtain ⟨hd0, b, e⟩ := x
      obtain ⟨sp, sb, se, rfl, p1, p2, p3⟩ := (M.nodeR_mk _ _ _ _ _ _).1 q3
      rw [smallN] at hxs
      rw [depthN] at hxd
      obtain ⟨s1, s2, s3, s4⟩ := hxs
      have z1 : SizeOf.sizeOf b < n := by simp at hxz; omega
      have z2 : SizeOf.sizeOf e < n := by simp at hxz; omega
      refine ⟨ad, q1, hd0.kind, hd0.text, hd0.name, sp, sb, se, hd0.at_, hd0.esc, hd0.unit, by simpa using q4, fun bb hbb w2 hL => ?_⟩
      have hg2 := hL.g1 hbb
      have hmb := hL.mem bb (by simp)
      have hgw2 := hgw.trans hg2
      have pb2 := nodes_move p2 (S' := S) (fun k hk => hg2.block k (hSS hgw k hk)) (fun _ h => h)
      refine useR (depth_spec n b z1 sb w2 S pb2 (hSS hgw2) (by omega) s3 (by omega)) fun w3 hg3 => ⟨_, rfl, hg3.block _ hmb, ?_⟩
      have hgw3 := hgw2.trans hg3
      have pe3 := nodes_move p3 (S' := S) (fun k hk => (hg2.trans hg3).block k (hSS hgw k hk)) (fun _ h => h)
      refine useR (depth_spec n e z2 se w3 S pe3 (hSS hgw3) (by omega) s4 (by omega)) fun w4 hg4 => ⟨_, rfl, hg4.block _ (Nat.lt_of_lt_of_le hmb hg3.size), ?_⟩
      have e1 : (1 : Int) + imax ((depthL b : Nat) : Int) ((depthL e : Nat) : Int) = ((1 + max (depthL b) (depthL e) : Nat) : Int) := by rw [imax_nat]; omega
      rw [e1, imax_nat]
      refine ⟨inI64 (by omega) (by omega), inI64 (by omega) (by omega), l.length - (j + 1), by omega, j + 1, _, by omega, rfl, by omega, rfl, ?_, hgw3.trans hg4⟩
      rw [hf, hd, depthL, depthN]
      omega
    · rw [hf, List.drop_eq_nil_of_le (by omega), depthL]
      omega

/-- A fault that is thrown. -/
def thrown (at_ e : Int) : List PanicEntry := [{ v := Value.iface T_check_fault (Value.agg #[Value.int .i64 at_, Value.int .i64 e]), recovered := false }]
theorem need_spec (ok : Bool) (at_ e : Int) (w : World) : Calls P F_check_need #[.bool ok, .int .i64 at_, .int .i64 e] w (fun en w' => w' = w ∧ ((ok = true ∧ en = .returned (.tuple #[])) ∨ (ok = false ∧ en = .panicked (thrown at_ e)))) := by
  refine ok_check_need _ _ _ ?_
  unfold vc_check_need
  exact br_not (fun h => ⟨rfl, .inr ⟨h, rfl⟩⟩) (fun h => ⟨rfl, .inl ⟨h, rfl⟩⟩)

end Go.Proofs.Ytpedoaeieabhoaa.V

/- Contracts: a pipeline's variables (check). -/
namespace Go.Proofs.Ytpedoaeieabhoaa.V
open Go Go.Vc Go.Proofs
open Go.Vc (Bytes)

theorem indexString_spec (l : List Bytes) (v : Bytes) (s : Sl) (w : World) {S : Nat → Prop} (hl : LstAt M.strR w S s l) (hs : l.length ≤ 1099511627776) :
    Calls P F_slices_Contains_string #[.slice s.a s.len s.cap, .string (bs v)] w (Ret w (.bool (l.contains v))) := by
  refine ok_slices_Contains_string _ _ ?_
  unfold vc_slices_Contains_string
  have hlen := hl.len
  have : Calls P F_slices_Index_string #[.slice s.a s.len s.cap, .string (bs v)] w (fun e w' => ∃ r : Int, e = .returned (.int .i64 r) ∧ decide (0 ≤ r) = l.contains v ∧ w' = w) := by
    refine ok_slices_Index_string _ _ ?_
    unfold vc_slices_Index_string
    refine ⟨fun i n w' => ∃ j : Nat, i = j ∧ j ≤ l.length ∧ n = l.length - j ∧ l.contains v = (l.drop j).contains v ∧ w' = w, l.length, ⟨0, rfl, by omega, by omega, by simp, rfl⟩, ?_⟩
    rintro i n w1 ⟨j, rfl, hj, rfl, hf, hw1⟩
    rw [hw1]
    refine br_dec (fun h => ⟨by omega, h, ?_⟩) (fun h => ⟨-1, rfl, ?_, rfl⟩)
    · have hlt : j < l.length := by omega
      obtain ⟨ad, c, q1, q2, q3, q4⟩ := hl.get M.strR.size j hlt
      cases q3
      have hd : l.drop j = l[j] :: l.drop (j + 1) := List.drop_eq_getElem_cons hlt
      refine ⟨ad, q1, l[j], by simpa using q4, br_dec (fun h2 => ⟨j, rfl, ?_, rfl⟩) (fun h2 => ⟨inI64 (by omega) (by omega), l.length - (j + 1), by omega, j + 1, by omega, by omega, rfl, ?_, rfl⟩)⟩
      · rw [hf, hd, List.contains_cons, decide_eq_true (by omega), h2]; simp
      · rw [hf, hd, List.contains_cons]
        have : (v == l[j]) = false := by simpa using h2
        rw [this, Bool.false_or]
    · rw [hf, List.drop_eq_nil_of_le (by omega)]; rfl
  refine this.mono ?_
  rintro _ w1 ⟨r, rfl, h1, rfl⟩
  exact ⟨r, rfl, Ret.bool h1 (Grow.refl _)⟩

/-- An argument that asks for a variable that is not there. -/
def lacks (vars : List Bytes) (a : M.ArgM) : Bool := decide (a.kind = 2) && (decide (a.name ≠ []) && !vars.contains a.name)
def pipeLacks (vars : List Bytes) (p : List M.CallM) : Bool := p.any fun c => c.args.any (lacks vars)

/-- Ends with nothing, or with a fault. -/
def Faulty (w : World) (f : Option (Int × Int)) (en : Ending) (w' : World) : Prop :=
  Grow w w' ∧ ((f = none ∧ en = .returned (.tuple #[])) ∨ ∃ x, f = some x ∧ en = .panicked (thrown x.1 x.2))

theorem cpipe_spec (h : M.Hd) (sp sb se vs : Sl) (vars : List Bytes) (w : World) {S : Nat → Prop} (hp : LstAt (M.callR w S) w S sp h.pipe) (hv : LstAt M.strR w S vs vars) (hS : ∀ k, S k → k < w.heap.size) (hs : HdSmall h) (hl : h.pipe.length ≤ 1099511627776) (hvl : vars.length ≤ 1099511627776) :
    Calls P F_check_pipe #[.agg #[.int .i64 h.kind, .string (bs h.text), .string (bs h.name), .slice sp.a sp.len sp.cap, .slice sb.a sb.len sb.cap, .slice se.a se.len se.cap, .int .i64 h.at_, .int .i64 h.esc, .int .i64 h.unit], .slice vs.a vs.len vs.cap] w (Faulty w (if pipeLacks vars h.pipe = true then some (h.at_, 31) else none)) := by
  refine ok_check_pipe _ _ _ _ _ _ _ _ _ _ ?_
  unfold vc_check_pipe
  have hpl := hp.len
  generalize hfl : (if pipeLacks vars h.pipe = true then some (h.at_, (31 : Int)) else none) = fl
  intro b hb w0 hL0
  have hSS : ∀ {w' : World}, Grow w w' → ∀ k, S k → k < w'.heap.size := fun hg k hk => Nat.lt_of_lt_of_le (hS k hk) hg.size
  refine ⟨fun i n w' => ∃ j : Nat, i = j ∧ j ≤ h.pipe.length ∧ n = h.pipe.length - j ∧ pipeLacks vars h.pipe = pipeLacks vars (h.pipe.drop j) ∧ Grow w w' ∧ b < w'.heap.size, h.pipe.length, ⟨0, rfl, by omega, by omega, by simp, hL0.g1 hb, hL0.mem b (by simp)⟩, ?_⟩
  rintro i n w1 ⟨j, rfl, hj, rfl, hf, hg1, hm1⟩
  refine br_dec (fun h1 => ⟨by omega, h1, ?_⟩) (fun h1 => ⟨hg1, .inl ⟨?_, rfl⟩⟩)
  · have hlt : j < h.pipe.length := by omega
    obtain ⟨ad, c, q1, q2, ⟨sa, rfl, q3⟩, q4⟩ := (calls_move hp (S' := S) (fun k hk => hg1.block k (hS k hk)) (fun _ h => h)).get (fun _ _ => M.niceCall.size) j hlt
    have hd : h.pipe.drop j = h.pipe[j] :: h.pipe.drop (j + 1) := List.drop_eq_getElem_cons hlt
    have hcs := hs _ (List.getElem_mem hlt)
    generalize h.pipe[j] = c at *
    have hal := hcs.1
    have hlen := q3.len
    refine ⟨ad, q1, c.name, sa, by simpa using q4, fun b1 hb1 w2 hL2 => ?_⟩
    have hz1 := hg1.size
    have hg2 : Grow w w2 := hg1.loc hL2 (by intro k hk; simp at hk; omega)
    have q32 : ∀ {w' : World}, Grow w w' → (∀ k, S k → w'.heap[k]? = w1.heap[k]?) → LstAt (M.argR w' S) w' S sa c.args := fun hg hk => q3.keep (fun _ _ h => h.keep hk) hk
    have same : ∀ {w' : World}, Grow w w' → ∀ k, S k → w'.heap[k]? = w1.heap[k]? := fun hg k hk => by rw [hg.block k (hS k hk), hg1.block k (hS k hk)]
    refine ⟨fun i n w' => ∃ q : Nat, i = q ∧ q ≤ c.args.length ∧ n = c.args.length - q ∧ c.args.any (lacks vars) = (c.args.drop q).any (lacks vars) ∧ Grow w w' ∧ b < w'.heap.size ∧ b1 < w'.heap.size, c.args.length, ⟨0, rfl, by omega, by omega, by simp, hg2, hL2.mem b (by simp), hL2.mem b1 (by simp)⟩, ?_⟩
    rintro i n w3 ⟨q, rfl, hq, rfl, hfq, hg3, hm3, hm31⟩
    refine br_dec (fun h2 => ⟨by omega, h2, ?_⟩) (fun h2 => ⟨inI64 (by omega) (by omega), h.pipe.length - (j + 1), by omega, j + 1, by omega, by omega, rfl, ?_, hg3, hm3⟩)
    · have hltq : q < c.args.length := by omega
      obtain ⟨ad2, cc, r1, r2, ⟨spp, rfl, r3⟩, r4⟩ := (q32 hg3 (same hg3)).get (fun _ _ => M.niceArg.size) q hltq
      have hdq : c.args.drop q = c.args[q] :: c.args.drop (q + 1) := List.drop_eq_getElem_cons hltq
      generalize c.args[q] = a at *
      refine ⟨ad2, r1, a.kind, a.name, spp, a.int, a.text, by simpa using r4, fun b2 hb2 w4 hL4 => ?_⟩
      have hz3 := hg3.size
      have hg4 : Grow w w4 := hg3.loc hL4 (by intro k hk; simp at hk; omega)
      have m4 := hL4.mem
      have next : ∀ {w5 : World}, Grow w w5 → b < w5.heap.size → b1 < w5.heap.size → lacks vars a = false → InI64 ((q : Int) + 1) ∧ ∃ m, m < c.args.length - q ∧ ∃ q' : Nat, (q : Int) + 1 = q' ∧ q' ≤ c.args.length ∧ m = c.args.length - q' ∧ c.args.any (lacks vars) = (c.args.drop q').any (lacks vars) ∧ Grow w w5 ∧ b < w5.heap.size ∧ b1 < w5.heap.size := by
        intro w5 hg5 m5 m51 hla
        exact ⟨inI64 (by omega) (by omega), c.args.length - (q + 1), by omega, q + 1, by omega, by omega, rfl, by rw [hfq, hdq, List.any_cons, hla, Bool.false_or], hg5, m5, m51⟩
      refine br_ndec (fun h3 => ?_) (fun h3 => br_dec (fun h4 => ?_) (fun h4 => ?_))
      · refine (need_spec true h.at_ 31 w4).mono ?_
        rintro _ _ ⟨rfl, ⟨_, rfl⟩ | ⟨e, _⟩⟩
        · exact .inl ⟨rfl, rfl, rfl, rfl, next hg4 (m4 b (by simp)) (m4 b1 (by simp)) (by rw [lacks, decide_eq_false h3]; rfl)⟩
        · cases e
      · refine (need_spec true h.at_ 31 w4).mono ?_
        rintro _ _ ⟨rfl, ⟨_, rfl⟩ | ⟨e, _⟩⟩
        · exact .inl ⟨rfl, rfl, rfl, rfl, next hg4 (m4 b (by simp)) (m4 b1 (by simp)) (by rw [lacks, decide_eq_false (p := a.name ≠ []) (fun e => e h4)]; simp)⟩
        · cases e
      · refine useR (indexString_spec vars a.name vs w4 (hv.keep (R' := M.strR) (w' := w4) (fun _ _ h => h) fun k hk => hg4.block k (hS k hk)) hvl) fun w5 hg5 => ⟨_, rfl, hg5.block _ (m4 b2 (by simp)), hg5.block _ (m4 b1 (by simp)), hg5.block _ (m4 b (by simp)), ?_⟩
        have hg45 := hg4.trans hg5
        refine (need_spec _ h.at_ 31 w5).mono ?_
        rintro _ _ ⟨rfl, ⟨e, rfl⟩ | ⟨e, rfl⟩⟩
        · exact .inl ⟨rfl, rfl, rfl, rfl, next hg45 (Nat.lt_of_lt_of_le (m4 b (by simp)) hg5.size) (Nat.lt_of_lt_of_le (m4 b1 (by simp)) hg5.size) (by rw [lacks, e]; simp)⟩
        · refine .inr ⟨_, rfl, hg45, .inr ⟨(h.at_, 31), ?_, rfl⟩⟩
          have hla : lacks vars a = true := by rw [lacks, e, decide_eq_true h3, decide_eq_true h4]; rfl
          have : pipeLacks vars h.pipe = true := by
            rw [hf, hd, pipeLacks, List.any_cons, hfq, hdq, List.any_cons, hla]; rfl
          rw [← hfl, if_pos this]
    · have : c.args.any (lacks vars) = false := by rw [hfq, List.drop_eq_nil_of_le (by omega)]; rfl
      rw [hf, hd, pipeLacks, List.any_cons, this, Bool.false_or]; rfl
  · have : pipeLacks vars h.pipe = false := by rw [hf, List.drop_eq_nil_of_le (by omega)]; rfl
    rw [← hfl, this]; rfl

end Go.Proofs.Ytpedoaeieabhoaa.V

/- Contracts: is a template there? (check). -/
namespace Go.Proofs.Ytpedoaeieabhoaa.V
open Go Go.Vc Go.Proofs
open Go.Vc (Bytes)

def hasDef (l : List M.Def) (s : Bytes) : Bool := l.any fun d => decide (d.name = s)

theorem lnodes1_spec (nm s : Bytes) (sb : Sl) (g : Nat) (w : World) (hg : g < w.heap.size) (hc : CellsAt w ((⟨g, 0, none⟩ : Addr).add 2) [.string (bs s)]) :
    Calls P F_check_looker_nodes_1 #[.agg #[.string (bs nm), .slice sb.a sb.len sb.cap], .pointer (some ⟨g, 0, none⟩)] w (Ret w (.bool (decide (nm = s)))) := by
  refine ok_check_looker_nodes_1 _ _ _ ?_
  unfold vc_check_looker_nodes_1
  intro b hb w0 hL
  have hg0 := hL.g1 hb
  exact ⟨s, hc.keep (by rw [add_block]; exact hg0.block g hg), Ret.bool rfl hg0⟩

theorem anyDef_spec (l : List M.Def) (s : Bytes) (sd : Sl) (g : Nat) (w : World) {S : Nat → Prop} (hl : LstAt (M.defR w S) w S sd l) (hS : ∀ k, S k → k < w.heap.size) (hs : l.length ≤ 1099511627776) (hg : g < w.heap.size) (hc : CellsAt w ((⟨g, 0, none⟩ : Addr).add 2) [.string (bs s)]) :
    Calls P F_slices_ContainsFunc_api_Def #[.slice sd.a sd.len sd.cap, .func (.func F_check_looker_nodes_1) #[] #[.pointer (some ⟨g, 0, none⟩)]] w (Ret w (.bool (hasDef l s))) := by
  refine ok_slices_ContainsFunc_api_Def _ _ _ _ ?_
  unfold vc_slices_ContainsFunc_api_Def
  have hlen := hl.len
  have : Calls P F_slices_IndexFunc_api_Def #[.slice sd.a sd.len sd.cap, .func (.func F_check_looker_nodes_1) #[] #[.pointer (some ⟨g, 0, none⟩)]] w (fun e w' => ∃ r : Int, e = .returned (.int .i64 r) ∧ decide (0 ≤ r) = hasDef l s ∧ Grow w w') := by
    refine ok_slices_IndexFunc_api_Def _ _ _ _ ?_
    unfold vc_slices_IndexFunc_api_Def
    refine ⟨fun i n w' => ∃ j : Nat, i = j ∧ j ≤ l.length ∧ n = l.length - j ∧ hasDef l s = hasDef (l.drop j) s ∧ Grow w w', l.length, ⟨0, rfl, by omega, by omega, by simp, Grow.refl _⟩, ?_⟩
    rintro i n w1 ⟨j, rfl, hj, rfl, hf, hgw⟩
    refine br_dec (fun h => ⟨by omega, h, ?_⟩) (fun h => ⟨-1, rfl, ?_, hgw⟩)
    · have hlt : j < l.length := by omega
      have hk : ∀ k, S k → w1.heap[k]? = w.heap[k]? := fun k hk => hgw.block k (hS k hk)
      obtain ⟨ad, c, q1, q2, ⟨sl, rfl, q3⟩, q4⟩ := (hl.keep (R' := M.defR w1 S) (w' := w1) (fun _ _ h => M.niceDef.keep h hk) hk).get (fun _ _ => M.niceDef.size) j hlt
      have hd : l.drop j = l[j] :: l.drop (j + 1) := List.drop_eq_getElem_cons hlt
      refine ⟨ad, q1, l[j].name, sl, by simpa using q4, rfl, ?_⟩
      rw [show ((#[] : Array Value).toList ++ [Value.agg #[Value.string (bs l[j].name), Value.slice sl.a sl.len sl.cap]] ++ (#[Value.pointer (some ⟨g, 0, none⟩)] : Array Value).toList).toArray = #[Value.agg #[Value.string (bs l[j].name), Value.slice sl.a sl.len sl.cap], Value.pointer (some ⟨g, 0, none⟩)] from rfl]
      refine useR (lnodes1_spec l[j].name s sl g w1 (Nat.lt_of_lt_of_le hg hgw.size) (hc.keep (by rw [add_block]; exact hgw.block g hg))) fun w2 hg2 => ⟨_, rfl, br_dec (fun h2 => ⟨j, rfl, ?_, hgw.trans hg2⟩) (fun h2 => ⟨inI64 (by omega) (by omega), l.length - (j + 1), by omega, j + 1, by omega, by omega, rfl, ?_, hgw.trans hg2⟩)⟩
      · rw [hf, hd, hasDef, List.any_cons, decide_eq_true h2, decide_eq_true (by omega)]; rfl
      · rw [hf, hd, hasDef, List.any_cons, decide_eq_false h2, Bool.false_or]; rfl
    · rw [hf, List.drop_eq_nil_of_le (by omega)]; rfl
  refine this.mono ?_
  rintro _ w1 ⟨r, rfl, h1, h2⟩
  exact ⟨r, rfl, Ret.bool h1 h2⟩

end Go.Proofs.Ytpedoaeieabhoaa.V

/- Contracts: what nodes need (check). -/
namespace Go.Proofs.Ytpedoaeieabhoaa.V
open Go Go.Vc Go.Proofs
open Go.Vc (Bytes)
open Go.Vc.M (cntN cntL)

theorem pipeLacks_eq (vars : List Bytes) (p : List M.CallM) : pipeLacks vars p = M.lacksP vars p := rfl

theorem clip_spec (s : Sl) (w : World) (h : s.len ≤ s.cap) : Calls P F_slices_Clip_string #[.slice s.a s.len s.cap] w (fun e w' => e = .returned (.slice s.a s.len s.len) ∧ w' = w) := by
  refine ok_slices_Clip_string _ ?_
  unfold vc_slices_Clip_string
  exact ⟨by omega, by omega, by omega, by rw [Int.toNat_natCast], rfl⟩

theorem lst_clip {w : World} {S : Nat → Prop} {s : Sl} {l : List Bytes} (h : LstAt M.strR w S s l) : LstAt M.strR w S ⟨s.a, s.len, s.len⟩ l := by
  have h0 := h.len
  obtain ⟨cs, h1, h2, h3, h4⟩ := h
  exact ⟨cs, h1, h2, by show l.length ≤ s.len; omega, h4⟩



def PipeSmall (h : M.Hd) : Prop := h.pipe.length ≤ 1099511627776
theorem allL_mem {p : M.Hd → Prop} : ∀ {l : List M.Node} {x : M.Node}, M.allL p l → x ∈ l → M.allN p x
  | [], _, _, h => by simp at h
  | y :: r, x, hs, h => by
    rw [M.allL] at hs
    rcases List.mem_cons.1 h with e | e
    · rw [e]; exact hs.1
    · exact allL_mem hs.2 e

theorem looker_spec (defs : List M.Def) (sd : Sl) (ka : Addr) (hdl : defs.length ≤ 1099511627776) : ∀ (n : Nat) (l : List M.Node), SizeOf.sizeOf l < n → ∀ (s vs : Sl) (vars : List Bytes) (w : World) (S : Nat → Prop),
    LstAt (M.nodeR w S) w S s l → LstAt M.strR w S vs vars → (∀ ad, vs.a = some ad → ad.block < w.heap.size) → LstAt (M.defR w S) w S sd defs → CellsAt w ka [.slice sd.a sd.len sd.cap] → ka.block < w.heap.size → (∀ k, S k → k < w.heap.size) → l.length ≤ 1099511627776 → smallL l → M.allL PipeSmall l → vars.length + cntL l ≤ 1000000 →
    Calls P F_check_looker_nodes #[.pointer (some ka), .slice s.a s.len s.cap, .slice vs.a vs.len vs.cap] w (Faulty w (M.needL (hasDef defs) vars l))
  | 0, _, h => by omega
  | n + 1, l, hsz => by
    intro s vs vars w S hl hv hvb hD hka hkb hS hll hsm hpm hct
    refine ok_check_looker_nodes _ _ _ ?_
    unfold vc_check_looker_nodes
    have hlen := hl.len
    have hvl := hv.len
    have hvle := hv.le
    refine (clip_spec vs w (by omega)).mono ?_
    rintro _ w0 ⟨rfl, hw0⟩
    rw [hw0]
    clear hw0 w0
    have hv' := lst_clip hv
    refine ⟨⟨vs.a, vs.len, vs.len⟩, rfl, fun vars1 i n w' => ∃ (j : Nat) (vs' : List Bytes), i = j ∧ j ≤ l.length ∧ n = l.length - j ∧ M.needL (hasDef defs) vars l = M.needL (hasDef defs) vs' (l.drop j) ∧ Grow w w' ∧ VarsAt w.heap.size w' (fun k => S k ∨ rng w.heap.size w'.heap.size k) vars1 vs' ∧ vs'.length + cntL (l.drop j) ≤ 1000000, l.length,
      ⟨0, vars, rfl, by omega, by omega, by simp, Grow.refl _, ⟨hv'.mono (fun _ _ h => h) fun k hk => .inl hk, .inl rfl, hvb⟩, by simpa using hct⟩, ?_⟩
    rintro vars1 i n' w1 ⟨j, vs', rfl, hj, rfl, hf, hgw, hva, hcn⟩
    refine br_dec (fun h => ⟨by omega, h, ?_⟩) (fun h => ?_)
    · have hlt : j < l.length := by omega
      have hSS : ∀ {w' : World}, Grow w w' → ∀ k, S k → k < w'.heap.size := fun hg k hk => Nat.lt_of_lt_of_le (hS k hk) hg.size
      have hnm : ∀ {w' : World}, Grow w w' → LstAt (M.nodeR w' S) w' S s l := fun hg => nodes_move hl (fun k hk => hg.block k (hS k hk)) (fun _ h => h)
      have hdm : ∀ {w' : World}, Grow w w' → LstAt (M.defR w' S) w' S sd defs := fun hg => hD.keep (fun _ _ h => M.niceDef.keep h fun k hk => hg.block k (hS k hk)) (fun k hk => hg.block k (hS k hk))
      obtain ⟨ad, c, q1, q2, q3, q4⟩ := (hnm hgw).get (fun _ _ => M.niceNode.size) j hlt
      have hd : l.drop j = l[j] :: l.drop (j + 1) := List.drop_eq_getElem_cons hlt
      have hxs := smallL_mem hsm (List.getElem_mem hlt)
      have hxp := allL_mem hpm (List.getElem_mem hlt)
      have hxz := List.sizeOf_lt_of_mem (List.getElem_mem hlt)
      generalize l[j] = x at *
      obtain ⟨hd0, b, e⟩ := x
      obtain ⟨sp, sb, se, rfl, p1, p2, p3⟩ := (M.nodeR_mk _ _ _ _ _ _).1 q3
      rw [smallN] at hxs
      rw [M.allN] at hxp
      obtain ⟨s1, s2, s3, s4⟩ := hxs
      obtain ⟨t1, t2, t3⟩ := hxp
      have z1 : SizeOf.sizeOf b < n := by simp at hxz; omega
      have z2 : SizeOf.sizeOf e < n := by simp at hxz; omega
      rw [hd, cntL, cntN] at hcn
      refine ⟨ad, q1, hd0.kind, hd0.text, hd0.name, sp, sb, se, hd0.at_, hd0.esc, hd0.unit, by simpa using q4, ?_⟩
      obtain ⟨g1, g2, g3, g4⟩ := copied (w := w1) (ws := [.int .i64 hd0.kind, .string (bs hd0.text), .string (bs hd0.name), .slice sp.a sp.len sp.cap, .slice sb.a sb.len sb.cap, .slice se.a se.len se.cap, .int .i64 hd0.at_, .int .i64 hd0.esc, .int .i64 hd0.unit]) (arr := #[Value.int .i64 0, Value.string (bs ([] : Bytes)), Value.string (bs ([] : Bytes)), Value.slice none 0 0, Value.slice none 0 0, Value.slice none 0 0, Value.int .i64 0, Value.int .i64 0, Value.int .i64 0]) (e := T_api_Node) rfl
      refine ⟨g1, hd0.kind, hd0.text, hd0.name, sp, sb, se, hd0.at_, hd0.esc, hd0.unit, g2, ?_⟩
      generalize setCells (w1.alloc (.cells #[Value.int .i64 0, Value.string (bs ([] : Bytes)), Value.string (bs ([] : Bytes)), Value.slice none 0 0, Value.slice none 0 0, Value.slice none 0 0, Value.int .i64 0, Value.int .i64 0, Value.int .i64 0] T_api_Node)) (Addr.mk w1.heap.size 0 none) [Value.int .i64 hd0.kind, Value.string (bs hd0.text), Value.string (bs hd0.name), Value.slice sp.a sp.len sp.cap, Value.slice sb.a sb.len sb.cap, Value.slice se.a se.len se.cap, Value.int .i64 hd0.at_, Value.int .i64 hd0.esc, Value.int .i64 hd0.unit] = wa at *
      have hga : Grow w wa := hgw.trans g3
      have hz1 := hgw.size
      -- the new block's cells, in any later world
      have cell : ∀ (i : Nat) (v : Value) {w' : World}, ([.int .i64 hd0.kind, .string (bs hd0.text), .string (bs hd0.name), .slice sp.a sp.len sp.cap, .slice sb.a sb.len sb.cap, .slice se.a se.len se.cap, .int .i64 hd0.at_, .int .i64 hd0.esc, .int .i64 hd0.unit] : List Value)[i]? = some v → w'.heap[w1.heap.size]? = wa.heap[w1.heap.size]? → CellsAt w' ⟨w1.heap.size, i, none⟩ [v] := by
        intro i v w' hi hk
        have g2' := g2.keep (w' := w') hk
        intro a u hu
        cases a with
        | zero =>
          have : v = u := by simpa using hu
          subst this
          have := g2' i v hi
          rw [addr_add, Nat.zero_add] at this
          rw [addr_add, Nat.add_zero]; exact this
        | succ a => simp at hu
      have hSa : ∀ k, (S k ∨ rng w.heap.size w1.heap.size k) → k < wa.heap.size := fun k hk => hk.elim (hSS hga k) fun h => by have := h.2; omega
      have hva1 := hva.1
      have hvlen := hva1.len
      have hSx : ∀ {w' : World}, Grow w1 w' → ∀ k, (S k ∨ rng w.heap.size w1.heap.size k) → w'.heap[k]? = w1.heap[k]? := fun hg k hk => hg.block k (hk.elim (hSS hgw k) fun h => h.2)
      have hvk : ∀ {w' : World}, Grow w1 w' → VarsAt w.heap.size w' (fun k => S k ∨ rng w.heap.size w'.heap.size k) vars1 vs' := fun {w'} hg => ⟨(hva.1.keep (fun _ _ h => h) (hSx hg)).mono (fun _ _ h => h) fun k hk => hk.imp id fun h => h.sub (Nat.le_refl _) hg.size, hva.2.1.imp id fun h => h.grow hg, fun ad had => Nat.lt_of_lt_of_le (hva.2.2 ad had) hg.size⟩
      have pn : ∀ {w' : World} {sl : Sl} {ls : List M.Node} (S' : Nat → Prop), (∀ k, S k → S' k) → Grow w1 w' → LstAt (M.nodeR w1 S) w1 S sl ls → LstAt (M.nodeR w' S') w' S' sl ls := fun S' hS' hg hp => nodes_move hp (fun k hk => hg.block k (hSS hgw k hk)) hS'
      have hnl : M.needL (hasDef defs) vars l = (match M.headFault (hasDef defs) vs' hd0 with
          | some x => some x
          | none => match M.needL (hasDef defs) (M.varsOf vs' hd0) b with
            | some x => some x
            | none => match M.needL (hasDef defs) (M.varsOf vs' hd0) e with
              | some x => some x
              | none => M.needL (hasDef defs) (M.varsOf vs' hd0) (l.drop (j + 1))) := by
        rw [hf, hd, M.needL, M.needN]
        cases M.headFault (hasDef defs) vs' hd0 with
        | some x => rfl
        | none =>
          cases M.needL (hasDef defs) (M.varsOf vs' hd0) b with
          | some x => rfl
          | none => cases M.needL (hasDef defs) (M.varsOf vs' hd0) e <;> rfl
      refine (cpipe_spec hd0 sp sb se vars1 vs' wa (S := fun k => S k ∨ rng w.heap.size w1.heap.size k) ?_ ?_ hSa s1 t1 (by omega)).mono ?_
      · exact calls_move p1 (fun k hk => g3.block k (hSS hgw k hk)) fun k hk => .inl hk
      · exact hva.1.keep (fun _ _ h => h) (hSx g3)
      rintro en w2 ⟨hg2, ⟨hn2, rfl⟩ | ⟨x, hx, rfl⟩⟩
      rotate_left
      · refine .inr ⟨_, rfl, hga.trans hg2, .inr ⟨x, ?_, rfl⟩⟩
        rw [hnl, M.headFault, ← pipeLacks_eq]
        by_cases hp : pipeLacks vs' hd0.pipe = true
        · rw [if_pos hp] at hx ⊢; exact hx
        · rw [if_neg hp] at hx; cases hx
      have hlk : M.lacksP vs' hd0.pipe ≠ true := by
        intro hp
        rw [pipeLacks_eq, if_pos hp] at hn2; cases hn2
      have hg12 := g3.trans hg2
      have hgw2 := hga.trans hg2
      have b2 : w2.heap[w1.heap.size]? = wa.heap[w1.heap.size]? := hg2.block _ (by omega)
      have hz2 := hg2.size
      refine .inl ⟨rfl, hd0.kind, cell 0 _ rfl b2, br_dec (fun h6 w3 hL3 => ?_) (fun h6 => br_dec (fun h7 => ?_) (fun h7 => ?_))⟩
      · -- a call
        have hg3 := hL3.grow0
        have hgw3 := hgw2.trans hg3
        have b3 : w3.heap[w1.heap.size]? = wa.heap[w1.heap.size]? := by rw [hg3.block _ (by omega), b2]
        have hz3 := hg3.size
        refine ⟨Nat.lt_of_lt_of_le hkb hgw3.size, sd, hka.keep (hgw3.block _ hkb), by show w1.heap.size < _; omega, hd0.at_, cell 6 _ rfl b3, ?_⟩
        refine useR (anyDef_spec defs hd0.name sd w1.heap.size w3 (hdm hgw3) (hSS hgw3) hdl (by omega) ?_) fun w4 hg4 => ⟨_, rfl, hg4.block, ?_⟩
        · rw [addr_add, Nat.zero_add]; exact cell 2 _ rfl b3
        have hgw4 := hgw3.trans hg4
        have hg14 := (hg12.trans hg3).trans hg4
        have b4 : w4.heap[w1.heap.size]? = wa.heap[w1.heap.size]? := by rw [hg4.block _ (by omega), b3]
        have hvo : M.varsOf vs' hd0 = vs' := by rw [M.varsOf, if_neg (by omega)]
        refine (need_spec _ hd0.at_ 71 w4).mono ?_
        rintro _ w4 ⟨rfl, ⟨hh, rfl⟩ | ⟨hh, rfl⟩⟩
        · have hhf : M.headFault (hasDef defs) vs' hd0 = none := by
            rw [M.headFault, if_neg hlk, if_neg]
            rintro ⟨_, h8⟩; rw [hh] at h8; cases h8
          rw [hhf, hvo] at hnl
          refine .inl ⟨rfl, sb, cell 4 _ rfl b4, ?_⟩
          have hv4 := hvk hg14
          refine (looker_spec defs sd ka hdl n b z1 sb vars1 vs' w4 _ (pn _ (fun k hk => .inl hk) hg14 p2) hv4.1 hv4.2.2 ((hdm hgw4).mono (fun _ _ h => M.niceDef.mono h fun k hk => .inl hk) fun k hk => .inl hk) (hka.keep (hgw4.block _ hkb)) (Nat.lt_of_lt_of_le hkb hgw4.size) (fun k hk => hk.elim (hSS hgw4 k) fun h => h.2) (by omega) s3 t2 (by omega)).mono ?_
          rintro en w5 ⟨hg5, ⟨hn5, rfl⟩ | ⟨x, hx, rfl⟩⟩
          · rw [hn5] at hnl
            have hgw5 := hgw4.trans hg5
            have hg15 := hg14.trans hg5
            have b5 : w5.heap[w1.heap.size]? = wa.heap[w1.heap.size]? := by rw [hg5.block _ (by have := hg4.size; omega), b4]
            refine .inl ⟨rfl, se, cell 5 _ rfl b5, ?_⟩
            have hv5 := hvk hg15
            refine (looker_spec defs sd ka hdl n e z2 se vars1 vs' w5 _ (pn _ (fun k hk => .inl hk) hg15 p3) hv5.1 hv5.2.2 ((hdm hgw5).mono (fun _ _ h => M.niceDef.mono h fun k hk => .inl hk) fun k hk => .inl hk) (hka.keep (hgw5.block _ hkb)) (Nat.lt_of_lt_of_le hkb hgw5.size) (fun k hk => hk.elim (hSS hgw5 k) fun h => h.2) (by omega) s4 t3 (by omega)).mono ?_
            rintro en w6 ⟨hg6, ⟨hn6, rfl⟩ | ⟨x, hx, rfl⟩⟩
            · rw [hn6] at hnl
              exact .inl ⟨rfl, inI64 (by omega) (by omega), l.length - (j + 1), by omega, j + 1, vs', by omega, hlt, rfl, hnl, hgw5.trans hg6, hvk (hg15.trans hg6), by omega⟩
            · rw [hx] at hnl; exact .inr ⟨_, rfl, hgw5.trans hg6, .inr ⟨x, hnl, rfl⟩⟩
          · rw [hx] at hnl; exact .inr ⟨_, rfl, hgw4.trans hg5, .inr ⟨x, hnl, rfl⟩⟩
        · refine .inr ⟨_, rfl, hgw4, .inr ⟨(hd0.at_, 71), ?_, rfl⟩⟩
          have hhf : M.headFault (hasDef defs) vs' hd0 = some (hd0.at_, 71) := by
            rw [M.headFault, if_neg hlk, if_pos ⟨h6, hh⟩]
          rw [hhf] at hnl; exact hnl
      · -- a variable
        have hvo : M.varsOf vs' hd0 = vs' ++ [hd0.name] := by rw [M.varsOf, if_pos h7]
        have hhf : M.headFault (hasDef defs) vs' hd0 = none := by
          rw [M.headFault, if_neg hlk, if_neg]
          rintro ⟨h8, _⟩; exact h6 h8
        rw [hhf, hvo] at hnl
        refine ⟨hd0.name, cell 2 _ rfl b2, fun bb hbb w8 hL8 => ?_⟩
        have hg8 := hL8.g1 hbb
        have hz8 := hg8.size
        have hm8 := hL8.mem bb (by simp)
        have hgw8 := hgw2.trans hg8
        have hg18 := hg12.trans hg8
        have b8 : w8.heap[w1.heap.size]? = wa.heap[w1.heap.size]? := by rw [hg8.block _ (by omega), b2]
        have hv8 := hvk hg18
        have hblk : vars1.cap = vars1.len ∨ ∀ ad, vars1.a = some ad → w.heap.size ≤ ad.block ∧ ad.block < w1.heap.size := hva.2.1.imp id fun hO ad had => ⟨(hO.lt had).2, (hO.lt had).1⟩
        refine ⟨strsV vs', hv8.pre (by omega), fun ad had => by have := hva.2.2 ad had; omega, fun sv w9 hr => ?_⟩
        obtain ⟨u1, u2, u3, u4⟩ := hv8.push hgw8.size hr
        have hgw9 : Grow w w9 := hgw8.and u3
        have hb9 : ∀ k, k < w8.heap.size → k < w.heap.size ∨ w1.heap.size ≤ k → w9.heap[k]? = w8.heap[k]? := fun k hk hk2 => u4 k hk (hblk.imp id fun hb ad had e => by have := hb ad had; omega)
        have b9 : w9.heap[w1.heap.size]? = wa.heap[w1.heap.size]? := by rw [hb9 _ (by omega) (by omega), b8]
        have pn9 : ∀ {w' : World} {sl : Sl} {ls : List M.Node} (S' : Nat → Prop), (∀ k, S k → S' k) → Grow w9 w' → LstAt (M.nodeR w1 S) w1 S sl ls → LstAt (M.nodeR w' S') w' S' sl ls := fun S' hS' hg hp => nodes_move hp (fun k hk => by rw [hg.block k (hSS hgw9 k hk), hgw9.block k (hS k hk), hgw.block k (hS k hk)]) hS'
        have hvk9 : ∀ {w' : World}, Grow w9 w' → VarsAt w.heap.size w' (fun k => S k ∨ rng w.heap.size w'.heap.size k) sv (vs' ++ [hd0.name]) := fun hg => (u1.grow hg).vars fun k hk => .inr hk
        refine ⟨sb, cell 4 _ rfl b9, ?_⟩
        have hv9 := hvk9 (Grow.refl w9)
        refine (looker_spec defs sd ka hdl n b z1 sb sv (vs' ++ [hd0.name]) w9 _ (pn9 _ (fun k hk => .inl hk) (Grow.refl _) p2) hv9.1 hv9.2.2 ((hdm hgw9).mono (fun _ _ h => M.niceDef.mono h fun k hk => .inl hk) fun k hk => .inl hk) (hka.keep (hgw9.block _ hkb)) (Nat.lt_of_lt_of_le hkb hgw9.size) (fun k hk => hk.elim (hSS hgw9 k) fun h => h.2) (by omega) s3 t2 (by simp; omega)).mono ?_
        rintro en w5 ⟨hg5, ⟨hn5, rfl⟩ | ⟨x, hx, rfl⟩⟩
        · rw [hn5] at hnl
          have hgw5 := hgw9.trans hg5
          have b5 : w5.heap[w1.heap.size]? = wa.heap[w1.heap.size]? := by rw [hg5.block _ (by omega), b9]
          refine .inl ⟨rfl, hg5.block _ (by omega), se, cell 5 _ rfl b5, ?_⟩
          have hv5 := hvk9 hg5
          refine (looker_spec defs sd ka hdl n e z2 se sv (vs' ++ [hd0.name]) w5 _ (pn9 _ (fun k hk => .inl hk) hg5 p3) hv5.1 hv5.2.2 ((hdm hgw5).mono (fun _ _ h => M.niceDef.mono h fun k hk => .inl hk) fun k hk => .inl hk) (hka.keep (hgw5.block _ hkb)) (Nat.lt_of_lt_of_le hkb hgw5.size) (fun k hk => hk.elim (hSS hgw5 k) fun h => h.2) (by omega) s4 t3 (by simp; omega)).mono ?_
          rintro en w6 ⟨hg6, ⟨hn6, rfl⟩ | ⟨x, hx, rfl⟩⟩
          · rw [hn6] at hnl
            exact .inl ⟨rfl, hg6.block _ (by have := hg5.size; omega), inI64 (by omega) (by omega), l.length - (j + 1), by omega, j + 1, _, by omega, hlt, rfl, hnl, hgw5.trans hg6, hvk9 (hg5.trans hg6), by simp; omega⟩
          · rw [hx] at hnl; exact .inr ⟨_, rfl, hgw5.trans hg6, .inr ⟨x, hnl, rfl⟩⟩
        · rw [hx] at hnl; exact .inr ⟨_, rfl, hgw9.trans hg5, .inr ⟨x, hnl, rfl⟩⟩
      · -- anything else
        have hvo : M.varsOf vs' hd0 = vs' := by rw [M.varsOf, if_neg h7]
        have hhf : M.headFault (hasDef defs) vs' hd0 = none := by
          rw [M.headFault, if_neg hlk, if_neg]
          rintro ⟨h8, _⟩; exact h6 h8
        rw [hhf, hvo] at hnl
        refine ⟨sb, cell 4 _ rfl b2, ?_⟩
        have hv2 := hvk hg12
        refine (looker_spec defs sd ka hdl n b z1 sb vars1 vs' w2 _ (pn _ (fun k hk => .inl hk) hg12 p2) hv2.1 hv2.2.2 ((hdm hgw2).mono (fun _ _ h => M.niceDef.mono h fun k hk => .inl hk) fun k hk => .inl hk) (hka.keep (hgw2.block _ hkb)) (Nat.lt_of_lt_of_le hkb hgw2.size) (fun k hk => hk.elim (hSS hgw2 k) fun h => h.2) (by omega) s3 t2 (by omega)).mono ?_
        rintro en w5 ⟨hg5, ⟨hn5, rfl⟩ | ⟨x, hx, rfl⟩⟩
        · rw [hn5] at hnl
          have hgw5 := hgw2.trans hg5
          have hg15 := hg12.trans hg5
          have b5 : w5.heap[w1.heap.size]? = wa.heap[w1.heap.size]? := by rw [hg5.block _ (by omega), b2]
          refine .inl ⟨rfl, se, cell 5 _ rfl b5, ?_⟩
          have hv5 := hvk hg15
          refine (looker_spec defs sd ka hdl n e z2 se vars1 vs' w5 _ (pn _ (fun k hk => .inl hk) hg15 p3) hv5.1 hv5.2.2 ((hdm hgw5).mono (fun _ _ h => M.niceDef.mono h fun k hk => .inl hk) fun k hk => .inl hk) (hka.keep (hgw5.block _ hkb)) (Nat.lt_of_lt_of_le hkb hgw5.size) (fun k hk => hk.elim (hSS hgw5 k) fun h => h.2) (by omega) s4 t3 (by omega)).mono ?_
          rintro en w6 ⟨hg6, ⟨hn6, rfl⟩ | ⟨x, hx, rfl⟩⟩
          · rw [hn6] at hnl
            exact .inl ⟨rfl, inI64 (by omega) (by omega), l.length - (j + 1), by omega, j + 1, vs', by omega, hlt, rfl, hnl, hgw5.trans hg6, hvk (hg15.trans hg6), by omega⟩
          · rw [hx] at hnl; exact .inr ⟨_, rfl, hgw5.trans hg6, .inr ⟨x, hnl, rfl⟩⟩
        · rw [hx] at hnl; exact .inr ⟨_, rfl, hgw2.trans hg5, .inr ⟨x, hnl, rfl⟩⟩
    · refine ⟨hgw, .inl ⟨?_, rfl⟩⟩
      rw [hf, List.drop_eq_nil_of_le (by omega), M.needL]

end Go.Proofs.Ytpedoaeieabhoaa.V

/- Contracts: whether templates have what they need (check.Check), where they may be. -/
namespace Go.Proofs.Ytpedoaeieabhoaa.V
open Go Go.Vc Go.Proofs
open Go.Vc (Bytes)
open Go.Vc.M (cntN cntL depthN depthL)

/-- A block of one cell. -/
def OneAt (w : World) (g : Nat) (v : Value) : Prop := ∃ e, w.heap[g]? = some (.cells #[v] e (0, 0))
theorem OneAt.keep {w w' : World} {g : Nat} {v : Value} (h : OneAt w g v) (hk : w'.heap[g]? = w.heap[g]?) : OneAt w' g v := by obtain ⟨e, h⟩ := h; exact ⟨e, by rw [hk]; exact h⟩
theorem OneAt.lt {w : World} {g : Nat} {v : Value} (h : OneAt w g v) : g < w.heap.size := by obtain ⟨e, h⟩ := h; exact heap_lt h
theorem OneAt.cell {w : World} {g : Nat} {v : Value} (h : OneAt w g v) : CellsAt w ⟨g, 0, none⟩ [v] := by obtain ⟨e, h⟩ := h; exact cells1 h rfl
theorem OneAt.store {w : World} {g : Nat} {v : Value} (h : OneAt w g v) : StoreOk w ⟨g, 0, none⟩ 1 := by obtain ⟨e, h⟩ := h; exact store1 h rfl
theorem OneAt.set {w : World} {g : Nat} {v : Value} (h : OneAt w g v) (u : Value) : OneAt (setCells w ⟨g, 0, none⟩ [u]) g u := by obtain ⟨e, h⟩ := h; exact ⟨e, set1_heap h⟩
theorem OneAt.other {w : World} {g g' : Nat} {v : Value} (h : OneAt w g v) (hne : g ≠ g') (u : Value) : OneAt (setCells w ⟨g', 0, none⟩ [u]) g v :=
  h.keep (setCellsFrom_other _ g hne _ _ _)
theorem one_alloc (w : World) (v : Value) (e : TypeId) : OneAt (w.alloc (.cells #[v] e)) w.heap.size v := ⟨e, by show (w.heap.push _)[w.heap.size]? = _; simp⟩
theorem bel_set {n : Nat} {w w' : World} (h : Bel n w w') {g o : Nat} (hg : n ≤ g) (vs : List Value) : Bel n w (setCells w' ⟨g, o, none⟩ vs) := by
  obtain ⟨e1, e2, e3, e4⟩ := setCellsFrom_env ⟨g, o, none⟩ vs 0 w'
  refine h.then ⟨e1, e2, e3, by rw [setCells, e4]; exact Nat.le_refl _, fun k hk => setCellsFrom_other _ k (by show k ≠ g; omega) _ _ _⟩

/-- What the closure and the results come to, behind a fault. -/
theorem check_throw {w w' : World} {g2 g3 : Nat} {u2 u3 : Value} (hg : Grow w w') (h2 : OneAt w' g2 u2) (h3 : OneAt w' g3 u3) (hn2 : w.heap.size ≤ g2) (hn3 : w.heap.size ≤ g3) (hne : g2 ≠ g3) (x : Int × Int) {tmps : Array Value}
    (hs : tmps.getD 2 undef = Value.pointer (some ⟨g2, 0, none⟩) ∧ tmps.getD 3 undef = Value.pointer (some ⟨g3, 0, none⟩) ∧ True) :
    Leaves P D_check_Check tmps (Ret w (.tuple #[.int .i64 x.1, .int .i64 x.2])) [{ target := .fn (.func F_check_Check_1) #[Value.pointer (some ⟨g2, 0, none⟩), Value.pointer (some ⟨g3, 0, none⟩)], args := #[] }] (.panicking (thrown x.1 x.2)) w' := by
  refine lr_check_Check ⟨g2, 0, none⟩ ⟨g3, 0, none⟩ _ _ _ _ hs ?_
  unfold vcr_check_Check_1
  intro b hb w1 hL
  have hg1 := hL.g1 hb
  have l2 := h2.lt
  have l3 := h3.lt
  have k2 := h2.keep (hg1.block _ l2)
  have k3 := h3.keep (hg1.block _ l3)
  refine ⟨k2.store, by show g2 ≠ b; omega, (k3.other hne.symm _).store, by show g3 ≠ b; omega, _, rfl, ?_⟩
  unfold vl_check_Check
  have m3 := (k3.other hne.symm (.int .i64 x.1)).set (.int .i64 x.2)
  have m2 := (k2.set (.int .i64 x.1)).other hne (.int .i64 x.2)
  exact ⟨_, m2.cell, _, m3.cell, rfl, bel_set (bel_set (hg.trans hg1) hn2 _) hn3 _⟩

theorem check_pass {w w' : World} {g2 g3 : Nat} {x y : Int} (hg : Bel w.heap.size w w') (h2 : OneAt w' g2 (.int .i64 x)) (h3 : OneAt w' g3 (.int .i64 y)) {tmps : Array Value}
    (hs : tmps.getD 2 undef = Value.pointer (some ⟨g2, 0, none⟩) ∧ tmps.getD 3 undef = Value.pointer (some ⟨g3, 0, none⟩) ∧ True) :
    Leaves P D_check_Check tmps (Ret w (.tuple #[.int .i64 x, .int .i64 y])) [{ target := .fn (.func F_check_Check_1) #[Value.pointer (some ⟨g2, 0, none⟩), Value.pointer (some ⟨g3, 0, none⟩)], args := #[] }] .returning w' := by
  refine ln_check_Check ⟨g2, 0, none⟩ ⟨g3, 0, none⟩ _ _ hs ?_
  unfold vcn_check_Check_1
  intro b hb w1 hL
  have hg1 := hL.g1 hb
  refine ⟨_, rfl, ?_⟩
  unfold vl_check_Check
  exact ⟨_, (h2.keep (hg1.block _ h2.lt)).cell, _, (h3.keep (hg1.block _ h3.lt)).cell, rfl, Grow.trans hg hg1⟩

structure DefOk (d : M.Def) : Prop where
  len : d.body.length ≤ 1099511627776
  small : smallL d.body
  pipes : M.allL PipeSmall d.body
  depth : depthL d.body ≤ 17
  may : M.eachL d.body = true
  cnt : cntL d.body ≤ 1000000

def faultOf (o : Option (Int × Int)) : Int × Int := o.getD (0, 0)

theorem check_spec (l : List M.Def) (s : Sl) (w : World) (S : Nat → Prop) (hl : LstAt (M.defR w S) w S s l) (hS : ∀ k, S k → k < w.heap.size) (hll : l.length ≤ 1099511627776) (h0 : ∃ d r, l = d :: r ∧ d.name = [] ∧ ∀ x ∈ r, x.name ≠ []) (hok : ∀ d ∈ l, DefOk d) :
    Calls P F_check_Check #[.slice s.a s.len s.cap] w (Ret w (.tuple #[.int .i64 (faultOf (M.checkDefs (hasDef l) l)).1, .int .i64 (faultOf (M.checkDefs (hasDef l) l)).2])) := by
  refine ok_check_Check _ ?_
  unfold vc_check_Check
  have hlen := hl.len
  obtain ⟨d0, r0, hl0, hn0, hnr⟩ := h0
  have hpos : 0 < l.length := by rw [hl0]; simp
  have ho2 := one_alloc w (.int .i64 0) T_int
  have hg0 := M.grow_alloc w (.cells #[Value.int .i64 0] T_int)
  have hz0 : (w.alloc (.cells #[Value.int .i64 0] T_int)).heap.size = w.heap.size + 1 := by show (w.heap.push _).size = _; simp
  generalize w.alloc (.cells #[Value.int .i64 0] T_int) = wa at *
  have ho3 := one_alloc wa (.int .i64 0) T_api_Errno
  have hg1 := M.grow_alloc wa (.cells #[Value.int .i64 0] T_api_Errno)
  have ho2 := ho2.keep (hg1.block _ ho2.lt)
  generalize wa.alloc (.cells #[Value.int .i64 0] T_api_Errno) = wb at *
  have hgb : Grow w wb := hg0.trans hg1
  generalize hg3 : wa.heap.size = g3 at *
  have hne : w.heap.size ≠ g3 := by omega
  have hdm : ∀ {w' : World}, Grow w w' → LstAt (M.defR w' S) w' S s l := fun hg => hl.keep (fun _ _ h => M.niceDef.keep h fun k hk => hg.block k (hS k hk)) (fun k hk => hg.block k (hS k hk))
  have hSS : ∀ {w' : World}, Grow w w' → ∀ k, S k → k < w'.heap.size := fun hg k hk => Nat.lt_of_lt_of_le (hS k hk) hg.size
  refine ⟨fun w' => w' = wb, br_dec (fun h => ⟨by omega, h, ?_⟩) (fun h => by omega), ?_⟩
  · obtain ⟨ad, c, q1, q2, ⟨sl, rfl, q3⟩, q4⟩ := (hdm hgb).get (fun _ _ => M.niceDef.size) 0 hpos
    have e0 : l[0] = d0 := by simp [hl0]
    rw [e0] at q4
    refine ⟨ad, q1, d0.name, q4.left (ys := [.slice sl.a sl.len sl.cap]), (need_spec _ 0 9 wb).mono ?_⟩
    rintro _ _ ⟨rfl, ⟨_, rfl⟩ | ⟨e, _⟩⟩
    · exact .inl ⟨rfl, rfl⟩
    · exact absurd hn0 (of_decide_eq_false e)
  rintro w2 hw2
  rw [hw2]
  refine ⟨fun i n w' => ∃ j : Nat, i = j ∧ j ≤ l.length ∧ n = l.length - j ∧ Grow wb w', l.length, ⟨0, rfl, by omega, by omega, Grow.refl _⟩, ?_⟩
  rintro i n w3 ⟨j, rfl, hj, rfl, hgw⟩
  have hgw3 := hgb.trans hgw
  refine br_dec (fun h => ⟨by omega, h, ?_⟩) (fun h => ?_)
  · have hlt : j < l.length := by omega
    obtain ⟨ad, c, q1, q2, ⟨sl, rfl, q3⟩, q4⟩ := (hdm hgw3).get (fun _ _ => M.niceDef.size) j hlt
    obtain ⟨d1, d2, d3, d4, d5, d6⟩ := hok _ (List.getElem_mem hlt)
    refine ⟨ad, q1, l[j].name, sl, q4, fun b hb => ?_⟩
    have next : ∀ {w' : World}, Grow wb w' → InI64 ((j : Int) + 1) ∧ ∃ m, m < l.length - j ∧ ∃ j' : Nat, (j : Int) + 1 = j' ∧ j' ≤ l.length ∧ m = l.length - j' ∧ Grow wb w' := fun hg => ⟨inI64 (by omega) (by omega), l.length - (j + 1), by omega, j + 1, by omega, by omega, rfl, hg⟩
    have hq : ∀ w4, LocB [b] w3 w4 → b < w4.heap.size ∧ Grow wb w4 := fun w4 hL => ⟨hL.mem b (by simp), hgw.trans (hL.g1 hb)⟩
    have dep : ∀ w4, Grow wb w4 → Calls P F_parse_Depth #[Value.slice sl.a sl.len sl.cap] w4 (Ret w4 (.int .i64 (depthL l[j].body : Nat))) := fun w4 hg =>
      depth_spec _ _ (Nat.lt_succ_self _) sl w4 S (nodes_move q3 (fun k hk => by rw [(hgb.trans hg).block k (hS k hk), hgw3.block k (hS k hk)]) (fun _ h => h)) (hSS (hgb.trans hg)) d1 d2 (by omega)
    have eac : ∀ w4, Grow wb w4 → Calls P F_check_each #[Value.slice sl.a sl.len sl.cap, .func (.func F_check_may) #[] #[]] w4 (Ret w4 (.bool (M.eachL l[j].body))) := fun w4 hg =>
      each_spec _ _ (Nat.lt_succ_self _) sl w4 S (nodes_move q3 (fun k hk => by rw [(hgb.trans hg).block k (hS k hk), hgw3.block k (hS k hk)]) (fun _ h => h)) (hSS (hgb.trans hg)) d1 d2
    refine br_dec (fun h1 w4 hL => ?_) (fun h1 w4 hL => ?_)
    · obtain ⟨m4, hg4⟩ := hq w4 hL
      refine (need_spec true 0 9 w4).mono ?_
      rintro _ w4 ⟨rfl, ⟨_, rfl⟩ | ⟨e, _⟩⟩
      · refine .inl ⟨rfl, rfl, useR (dep w4 hg4) fun w5 hg5 => ⟨_, rfl, hg5.block _ m4, br_dec (fun _ => ?_) (fun h2 => by omega)⟩⟩
        have hg5' := hg4.trans hg5
        have m5 := Nat.lt_of_lt_of_le m4 hg5.size
        refine useR (eac w5 hg5') fun w6 hg6 => .inl ⟨_, rfl, hg6.block _ m5, ?_⟩
        rw [d5]
        refine (need_spec true 0 9 w6).mono ?_
        rintro _ w6 ⟨rfl, ⟨_, rfl⟩ | ⟨e, _⟩⟩
        · exact .inl ⟨rfl, rfl, next (hg5'.trans hg6)⟩
        · cases e
      · cases e
    · obtain ⟨m4, hg4⟩ := hq w4 hL
      have hnn : l[j].name ≠ [] := by
        cases j with
        | zero => exact absurd rfl h1
        | succ j =>
          have : l[j + 1] ∈ r0 := by
            have : l[j + 1]? = r0[j]? := by rw [hl0]; simp
            rw [List.getElem?_eq_getElem hlt] at this
            exact List.mem_of_getElem? this.symm
          exact hnr _ this
      refine (need_spec _ 0 9 w4).mono ?_
      rintro _ w4 ⟨rfl, ⟨_, rfl⟩ | ⟨e, _⟩⟩
      · refine .inl ⟨rfl, rfl, useR (dep w4 hg4) fun w5 hg5 => ⟨_, rfl, hg5.block _ m4, br_dec (fun _ => ?_) (fun h2 => by omega)⟩⟩
        have hg5' := hg4.trans hg5
        have m5 := Nat.lt_of_lt_of_le m4 hg5.size
        refine useR (eac w5 hg5') fun w6 hg6 => .inl ⟨_, rfl, hg6.block _ m5, ?_⟩
        rw [d5]
        refine (need_spec true 0 9 w6).mono ?_
        rintro _ w6 ⟨rfl, ⟨_, rfl⟩ | ⟨e, _⟩⟩
        · exact .inl ⟨rfl, rfl, next (hg5'.trans hg6)⟩
        · cases e
      · rw [decide_eq_false hnn] at e; cases e
  · have hga := M.grow_alloc w3 (.cells #[Value.slice s.a s.len s.cap] T_check_looker)
    have hoa := one_alloc w3 (.slice s.a s.len s.cap) T_check_looker
    generalize w3.alloc (.cells #[Value.slice s.a s.len s.cap] T_check_looker) = wc at *
    have hgc := hgw3.trans hga
    have hk0 := hoa.lt
    refine ⟨fun i n w' => ∃ j : Nat, i = j ∧ j ≤ l.length ∧ n = l.length - j ∧ M.checkDefs (hasDef l) l = M.checkDefs (hasDef l) (l.drop j) ∧ Grow wc w', l.length, ⟨0, rfl, by omega, by omega, by simp, Grow.refl _⟩, ?_⟩
    rintro i n w4 ⟨j, rfl, hj, rfl, hf, hg4⟩
    have hgw4 := hgc.trans hg4
    have hgb4 : Grow wb w4 := (hgw.trans hga).trans hg4
    have l2 := ho2.lt
    have l3 := ho3.lt
    have p2 := ho2.keep (hgb4.block _ l2)
    have p3 := ho3.keep (hgb4.block _ l3)
    refine br_dec (fun h1 => ⟨by omega, h1, ?_⟩) (fun h1 => ?_)
    · have hlt : j < l.length := by omega
      obtain ⟨ad, c, q1, q2, ⟨sl, rfl, q3⟩, q4⟩ := (hdm hgw4).get (fun _ _ => M.niceDef.size) j hlt
      obtain ⟨d1, d2, d3, d4, d5, d6⟩ := hok _ (List.getElem_mem hlt)
      have hd : l.drop j = l[j] :: l.drop (j + 1) := List.drop_eq_getElem_cons hlt
      refine ⟨ad, q1, l[j].name, sl, q4, fun b hb w5 hL => ?_⟩
      have hg5 := hL.g1 hb
      have hgw5 := hgw4.trans hg5
      have m5 := hL.mem b (by simp)
      refine (looker_spec l s ⟨w3.heap.size, 0, none⟩ hll _ l[j].body (Nat.lt_succ_self _) sl ⟨none, 0, 0⟩ [] w5 S (nodes_move q3 (fun k hk => hg5.block k (hSS hgw4 k hk)) (fun _ h => h)) (LstAt.nil _ _) (fun _ h => by cases h) (hdm hgw5) (hoa.cell.keep ((hg4.trans hg5).block _ hk0)) (Nat.lt_of_lt_of_le hk0 (hg4.trans hg5).size) (hSS hgw5) d1 d2 d3 (by simpa using d6)).mono ?_
      rw [hd, M.checkDefs] at hf
      rintro en w6 ⟨hg6, ⟨hn, rfl⟩ | ⟨x, hx, rfl⟩⟩
      · rw [hn] at hf
        exact .inl ⟨rfl, hg6.block _ m5, inI64 (by omega) (by omega), l.length - (j + 1), by omega, j + 1, by omega, by omega, rfl, hf, (hg4.trans hg5).trans hg6⟩
      · rw [hx] at hf
        refine .inr ⟨_, rfl, fun tmps hs => ?_⟩
        rw [hf]
        have hg46 := hg5.trans hg6
        exact check_throw (hgw4.trans hg46) (p2.keep (hg46.block _ p2.lt)) (p3.keep (hg46.block _ p3.lt)) (Nat.le_refl _) (by omega) hne x hs
    · have hend : M.checkDefs (hasDef l) l = none := by rw [hf, List.drop_eq_nil_of_le (by omega), M.checkDefs]
      rw [hend]
      refine ⟨p2.store, (p3.other hne.symm _).store, fun tmps hs => ?_⟩
      exact check_pass (bel_set (bel_set hgw4 (Nat.le_refl _) _) (by omega) _) ((p2.set _).other hne _) ((p3.other hne.symm _).set _) hs

end Go.Proofs.Ytpedoaeieabhoaa.V

/- Contracts: the page's example (law 22). -/
namespace Go.Proofs.Ytpedoaeieabhoaa.V
open Go Go.Vc Go.Proofs
open Go.Vc (Bytes)
open Go.Vc.M (cntN cntL depthN depthL)

theorem lst_block {α : Type} {R : α → List Value → Prop} {w : World} {S : Nat → Prop} {g : Nat} {arr : Array Value} {e : TypeId} {l : List α} {cs : List (List Value)} (hb : w.heap[g]? = some (.cells arr e (0, 0))) (hS : S g) (hl : allR R l cs) (ha : arr.toList = cs.flatten) :
    LstAt R w S ⟨some ⟨g, 0, none⟩, l.length, l.length⟩ l := by
  refine ⟨cs, hl, rfl, Nat.le_refl _, .inr ⟨_, rfl, hS, CellsAt.of_block hb fun i v hi => ?_, fun i _ => ?_⟩⟩
  · rw [Nat.zero_add, ← Array.getElem?_toList, ha]; exact hi
  · rw [addr_add]; simp [World.frozen?, hb]

def aArg : M.ArgM := ⟨2, [120], [], 0, []⟩
def aCall : M.CallM := ⟨[], [aArg]⟩
def aHd : M.Hd := ⟨2, [], [], [aCall], 3, 0, 0⟩
def aNode : M.Node := .mk aHd [] []
def aDef : M.Def := ⟨[], [aNode]⟩

theorem block_at (w : World) (cs : Array Value) (e : TypeId) : (w.alloc (.cells cs e)).heap[w.heap.size]? = some (.cells cs e (0, 0)) := by
  show (w.heap.push _)[w.heap.size]? = _; simp
theorem block_size (w : World) (cs : Array Value) (e : TypeId) : (w.alloc (.cells cs e)).heap.size = w.heap.size + 1 := by
  show (w.heap.push _).size = _; simp

theorem aDef_ok : DefOk aDef := by
  refine ⟨by decide, ?_, ?_, by decide, by decide, by decide⟩
  · simp only [aDef, aNode, smallL, smallN, HdSmall, aHd]
    refine ⟨⟨?_, by simp, trivial, trivial⟩, trivial⟩
    intro c hc
    simp only [List.mem_singleton] at hc
    subst hc
    simp [CallSmall, aCall, aArg, ArgSmall]
  · simp only [aDef, aNode, M.allL, M.allN, PipeSmall, aHd]
    simp

theorem num_spec (x : Int) (w : World) : Calls P F_law22_num #[.int .i64 x] w (Ret w (.int .i64 x)) := by
  refine ok_law22_num _ ?_
  unfold vc_law22_num
  exact Ret.int rfl (Grow.refl _)

theorem alive_spec (w : World) : Calls P F_law22_alive #[] w (Ret w (.bool true)) := by
  refine ok_law22_alive ?_
  unfold vc_law22_alive
  have b1 := block_at w #[Value.int .i64 2, Value.string (bs [120]), Value.slice none 0 0, Value.int .i64 0, Value.string (bs ([] : Bytes))] T_api_Arg
  have z1 := block_size w #[Value.int .i64 2, Value.string (bs [120]), Value.slice none 0 0, Value.int .i64 0, Value.string (bs ([] : Bytes))] T_api_Arg
  have g1 := M.grow_alloc w (.cells #[Value.int .i64 2, Value.string (bs [120]), Value.slice none 0 0, Value.int .i64 0, Value.string (bs ([] : Bytes))] T_api_Arg)
  generalize w.alloc (.cells #[Value.int .i64 2, Value.string (bs [120]), Value.slice none 0 0, Value.int .i64 0, Value.string (bs ([] : Bytes))] T_api_Arg) = w1 at *
  have b2 := block_at w1 #[Value.string (bs ([] : Bytes)), Value.slice (some (Addr.mk w.heap.size 0 none)) 1 1] T_api_Call
  have z2 := block_size w1 #[Value.string (bs ([] : Bytes)), Value.slice (some (Addr.mk w.heap.size 0 none)) 1 1] T_api_Call
  have g2 := M.grow_alloc w1 (.cells #[Value.string (bs ([] : Bytes)), Value.slice (some (Addr.mk w.heap.size 0 none)) 1 1] T_api_Call)
  generalize w1.alloc (.cells #[Value.string (bs ([] : Bytes)), Value.slice (some (Addr.mk w.heap.size 0 none)) 1 1] T_api_Call) = w2 at *
  have b3 := block_at w2 #[Value.int .i64 2, Value.string (bs ([] : Bytes)), Value.string (bs ([] : Bytes)), Value.slice (some (Addr.mk w1.heap.size 0 none)) 1 1, Value.slice none 0 0, Value.slice none 0 0, Value.int .i64 3, Value.int .i64 0, Value.int .i64 0] T_api_Node
  have z3 := block_size w2 #[Value.int .i64 2, Value.string (bs ([] : Bytes)), Value.string (bs ([] : Bytes)), Value.slice (some (Addr.mk w1.heap.size 0 none)) 1 1, Value.slice none 0 0, Value.slice none 0 0, Value.int .i64 3, Value.int .i64 0, Value.int .i64 0] T_api_Node
  have g3 := M.grow_alloc w2 (.cells #[Value.int .i64 2, Value.string (bs ([] : Bytes)), Value.string (bs ([] : Bytes)), Value.slice (some (Addr.mk w1.heap.size 0 none)) 1 1, Value.slice none 0 0, Value.slice none 0 0, Value.int .i64 3, Value.int .i64 0, Value.int .i64 0] T_api_Node)
  generalize w2.alloc (.cells #[Value.int .i64 2, Value.string (bs ([] : Bytes)), Value.string (bs ([] : Bytes)), Value.slice (some (Addr.mk w1.heap.size 0 none)) 1 1, Value.slice none 0 0, Value.slice none 0 0, Value.int .i64 3, Value.int .i64 0, Value.int .i64 0] T_api_Node) = w3 at *
  have b4 := block_at w3 #[Value.string (bs ([] : Bytes)), Value.slice (some (Addr.mk w2.heap.size 0 none)) 1 1] T_api_Def
  have z4 := block_size w3 #[Value.string (bs ([] : Bytes)), Value.slice (some (Addr.mk w2.heap.size 0 none)) 1 1] T_api_Def
  have g4 := M.grow_alloc w3 (.cells #[Value.string (bs ([] : Bytes)), Value.slice (some (Addr.mk w2.heap.size 0 none)) 1 1] T_api_Def)
  generalize w3.alloc (.cells #[Value.string (bs ([] : Bytes)), Value.slice (some (Addr.mk w2.heap.size 0 none)) 1 1] T_api_Def) = w4 at *
  have c1 : w4.heap[w.heap.size]? = some (.cells #[Value.int .i64 2, Value.string (bs [120]), Value.slice none 0 0, Value.int .i64 0, Value.string (bs ([] : Bytes))] T_api_Arg (0, 0)) := by
    rw [g4.block _ (by omega), g3.block _ (by omega), g2.block _ (by omega), b1]
  have c2 : w4.heap[w1.heap.size]? = some (.cells #[Value.string (bs ([] : Bytes)), Value.slice (some (Addr.mk w.heap.size 0 none)) 1 1] T_api_Call (0, 0)) := by
    rw [g4.block _ (by omega), g3.block _ (by omega), b2]
  have c3 : w4.heap[w2.heap.size]? = some (.cells #[Value.int .i64 2, Value.string (bs ([] : Bytes)), Value.string (bs ([] : Bytes)), Value.slice (some (Addr.mk w1.heap.size 0 none)) 1 1, Value.slice none 0 0, Value.slice none 0 0, Value.int .i64 3, Value.int .i64 0, Value.int .i64 0] T_api_Node (0, 0)) := by
    rw [g4.block _ (by omega), b3]
  let S : Nat → Prop := rng w.heap.size w4.heap.size
  have l1 : LstAt (M.argR w4 S) w4 S ⟨some ⟨w.heap.size, 0, none⟩, 1, 1⟩ [aArg] := lst_block (cs := [_]) c1 ⟨by omega, by omega⟩ ⟨⟨⟨none, 0, 0⟩, rfl, LstAt.nil _ _⟩, trivial⟩ rfl
  have l2 : LstAt (M.callR w4 S) w4 S ⟨some ⟨w1.heap.size, 0, none⟩, 1, 1⟩ [aCall] := lst_block (cs := [_]) c2 ⟨by omega, by omega⟩ ⟨⟨⟨some ⟨w.heap.size, 0, none⟩, 1, 1⟩, rfl, l1⟩, trivial⟩ rfl
  have l3 : LstAt (M.nodeR w4 S) w4 S ⟨some ⟨w2.heap.size, 0, none⟩, 1, 1⟩ [aNode] := lst_block (cs := [_]) c3 ⟨by omega, by omega⟩ ⟨(M.nodeR_mk _ _ _ _ _ _).2 ⟨⟨some ⟨w1.heap.size, 0, none⟩, 1, 1⟩, ⟨none, 0, 0⟩, ⟨none, 0, 0⟩, rfl, l2, LstAt.nil _ _, LstAt.nil _ _⟩, trivial⟩ rfl
  have l4 : LstAt (M.defR w4 S) w4 S ⟨some ⟨w3.heap.size, 0, none⟩, 1, 1⟩ [aDef] := lst_block (cs := [_]) b4 ⟨by omega, by omega⟩ ⟨⟨⟨some ⟨w2.heap.size, 0, none⟩, 1, 1⟩, rfl, l3⟩, trivial⟩ rfl
  have hgw : Grow w w4 := ((g1.trans g2).trans g3).trans g4
  refine useR (check_spec [aDef] ⟨some ⟨w3.heap.size, 0, none⟩, 1, 1⟩ w4 S l4 (fun k hk => hk.2) (by simp) ⟨aDef, [], rfl, rfl, by simp⟩ (by simpa using aDef_ok)) fun w5 hg5 => ?_
  have hf : faultOf (M.checkDefs (hasDef [aDef]) [aDef]) = (3, 31) := by decide
  rw [hf]
  refine ⟨_, _, rfl, useR (num_spec _ w5) fun w6 hg6 => ⟨_, rfl, br_dec (fun _ => ?_) (fun h => absurd rfl h)⟩⟩
  exact Ret.bool rfl ((hgw.trans hg5).trans hg6)

end Go.Proofs.Ytpedoaeieabhoaa.V

/- The law CheckTexts, walked. -/
namespace Go.Proofs.Ytpedoaeieabhoaa.V
open Go Go.Vc Go.Proofs
open Go.Vc (Bytes)
open Go.Vc.M (cntN cntL depthN depthL)

theorem length_cnt : ∀ l : List M.Node, l.length ≤ cntL l
  | [] => Nat.le_refl _
  | .mk h b e :: r => by rw [cntL, cntN, List.length_cons]; have := length_cnt r; omega

theorem hd_small {s : Bytes} {h : M.Hd} {b e : List M.Node} (hg : M.NodeGood s h b e) : HdSmall h := by
  intro c hc
  obtain ⟨h1, h2⟩ := hg.args c hc
  refine ⟨by omega, fun a ha => ?_⟩
  have := (h2 a ha).1
  rw [M.argMayM] at this
  simp only [Bool.and_eq_true, decide_eq_true_eq] at this
  unfold ArgSmall
  omega
mutual
theorem smallN_of {s : Bytes} : ∀ x : M.Node, M.allP (M.NodeGood s) x → cntN x ≤ 1000000 → smallN x ∧ M.allN PipeSmall x
  | .mk h b e, hx, hc => by
    rw [M.allP] at hx
    rw [cntN] at hc
    obtain ⟨h1, h2, h3⟩ := hx
    have g1 := smallL_of b h2 (by omega)
    have g2 := smallL_of e h3 (by omega)
    have l1 := length_cnt b
    have l2 := length_cnt e
    rw [smallN, M.allN]
    refine ⟨⟨hd_small h1, by omega, g1.1, g2.1⟩, ?_, g1.2, g2.2⟩
    have := h1.len
    unfold PipeSmall
    omega
theorem smallL_of {s : Bytes} : ∀ l : List M.Node, M.allPL (M.NodeGood s) l → cntL l ≤ 1000000 → smallL l ∧ M.allL PipeSmall l
  | [], _, _ => by rw [smallL, M.allL]; exact ⟨trivial, trivial⟩
  | x :: r, hx, hc => by
    rw [M.allPL] at hx
    rw [cntL] at hc
    have g1 := smallN_of x hx.1 (by omega)
    have g2 := smallL_of r hx.2 (by omega)
    rw [smallL, M.allL]
    exact ⟨⟨g1.1, g2.1⟩, g1.2, g2.2⟩
end
theorem defOk_of {s : Bytes} {d : M.Def} (h : M.allPL (M.NodeGood s) d.body) (hd : depthL d.body ≤ 17) (hc : cntL d.body ≤ 1024) : DefOk d := by
  have g := smallL_of d.body h (by omega)
  have l := length_cnt d.body
  exact ⟨by omega, g.1, g.2, hd, M.eachL_of _ h, by omega⟩
theorem tot_mem : ∀ {l : List M.Def} {d : M.Def}, d ∈ l → cntL d.body ≤ M.totD l
  | x :: r, d, h => by
    rw [M.totD_cons]
    rcases List.mem_cons.1 h with e | e
    · rw [e]; omega
    · have := tot_mem e; omega
theorem checkTexts_spec (s : Bytes) (w : World) (hs : s.length ≤ 9223372036854775807) : Calls P F_law22_CheckTexts #[.string (bs s)] w (Ret w (.bool true)) := by
  refine ok_law22_CheckTexts _ ?_
  unfold vc_law22_CheckTexts
  refine useR (alive_spec w) fun w1 hg1 => ⟨true, rfl, br_not (fun h => by cases h) (fun _ => ?_)⟩
  refine (parse20_spec s w1).mono ?_
  rintro _ w2 ⟨sl, rfl, hl, hg2⟩
  have hgw2 := hg1.trans hg2
  refine ⟨sl, _, _, rfl, br_ndec (fun _ => Ret.bool rfl hgw2) (fun h0 => ?_)⟩
  obtain ⟨d, r, e1, e2, e3, e4, e5, e6, e7⟩ := M.check_law s h0
  have hdl := M.parseM_defs s
  generalize M.parseM s = pr at *
  refine useR (check_spec pr.1 sl w2 _ hl (fun k hk => hk.2) (by omega) ⟨d, r, e1, e2, e3⟩ fun d hd => ?_) fun w3 hg3 => ?_
  · have := tot_mem hd
    exact defOk_of (e5 d hd).1 (e5 d hd).2 (by omega)
  have hgw3 := hgw2.trans hg3
  have e6 := e6 (hasDef pr.1) pr.1
  have e7 := fun a b => e7 a b (hasDef pr.1) pr.1 (fun d hd => hd)
  generalize M.checkDefs (hasDef pr.1) pr.1 = o at *
  -- what is told of it
  have hfault : (faultOf o).2 = 0 ∨ ((faultOf o).2 = 31 ∧ M.HasAt s (faultOf o).1 123) ∨ (faultOf o).2 = 71 := by
    cases o with
    | none => exact .inl rfl
    | some x => exact .inr (e6 x (fun d hd => hd) rfl)
  have hclear : (36 : UInt8) ∉ s → (116 : UInt8) ∉ s → (faultOf o).2 = 0 := fun a b => by rw [e7 a b]; rfl
  generalize faultOf o = fo at *
  have tail : ∀ w', Grow w w' → br (decide (fo.2 = 0)) (Ret w (.bool true) (.returned (.bool true)) w') True := fun w' hg => br_dec (fun _ => Ret.bool rfl hg) (fun _ => trivial)
  refine ⟨_, _, rfl, fun i n w' => ∃ j : Nat, i = j ∧ j ≤ s.length ∧ n = s.length - j ∧ (∀ c ∈ s.take j, c ≠ 36 ∧ c ≠ 116) ∧ Grow w w', s.length, ⟨0, rfl, by omega, by omega, by simp, hgw3⟩, ?_⟩
  rintro i n w4 ⟨j, rfl, hj, rfl, hf, hg4⟩
  refine br_dec (fun h => ?_) (fun h => ?_)
  · have hlt : j < s.length := by omega
    have hb := byteAt_eq s j hlt
    have three : ∀ {w' : World}, Grow w w' → Calls P F_law22_num #[Value.int .i64 fo.2] w' (fun e_4 w_5 => ∃ r7 : Int, e_4 = Ending.returned (Value.int .i64 r7) ∧ 
          br (decide (r7 = 31))
            ((0 : Int) ≤ fo.1 ∧ fo.1 < (s.length : Int) ∧
            br (decide (byteAt s fo.1.toNat = 123))
              (Ret w (.bool true) (Ending.returned (Value.bool true)) w_5)
              (Calls P F_law22_num #[Value.int .i64 fo.2] w_5 (fun (e_5 : Ending) (w_6 : World) =>
                ∃ r8 : Int, e_5 = Ending.returned (Value.int .i64 r8) ∧ 
                Ret w (.bool true) (Ending.returned (Value.bool (decide (r8 = 71)))) w_6)))
            (Calls P F_law22_num #[Value.int .i64 fo.2] w_5 (fun (e_6 : Ending) (w_7 : World) =>
              ∃ r9 : Int, e_6 = Ending.returned (Value.int .i64 r9) ∧ 
              Ret w (.bool true) (Ending.returned (Value.bool (decide (r9 = 71)))) w_7))) ∨ fo.2 = 0 := by
      intro w' hg'
      by_cases hz : fo.2 = 0
      · exact .inr hz
      · refine .inl (useR (num_spec _ w') fun w5 hg5 => ⟨_, rfl, br_dec (fun h31 => ?_) (fun h31 => ?_)⟩)
        · rcases hfault with e | ⟨_, k, hk, hk2⟩ | e
          · exact absurd e hz
          · obtain ⟨hkl, hk3⟩ := List.getElem?_eq_some_iff.1 hk2
            refine ⟨by omega, by omega, br_dec (fun _ => Ret.bool rfl (hg'.trans hg5)) (fun hne => ?_)⟩
            rw [hk, Int.toNat_natCast, byteAt_eq s k hkl, hk3] at hne
            exact absurd rfl hne
          · omega
        · rcases hfault with e | ⟨e, _⟩ | e
          · exact absurd e hz
          · exact absurd e h31
          · exact useR (num_spec _ w5) fun w6 hg6 => ⟨_, rfl, Ret.bool (decide_eq_true e) ((hg'.trans hg5).trans hg6)⟩
    refine ⟨by omega, h, br_dec (fun _ => ?_) (fun h36 => ⟨by omega, h, br_dec (fun _ => ?_) (fun h116 => ?_)⟩)⟩
    · refine useR (num_spec _ w4) fun w5 hg5 => ⟨_, rfl, br_dec (fun _ => Ret.bool rfl (hg4.trans hg5)) (fun hz => (three (hg4.trans hg5)).resolve_right hz)⟩
    · refine useR (num_spec _ w4) fun w5 hg5 => ⟨_, rfl, br_dec (fun _ => Ret.bool rfl (hg4.trans hg5)) (fun hz => (three (hg4.trans hg5)).resolve_right hz)⟩
    · refine ⟨inI64 (by omega) (by omega), s.length - (j + 1), by omega, j + 1, by omega, by omega, rfl, ?_, hg4⟩
      rw [Int.toNat_natCast, hb] at h36 h116
      intro c hc
      rw [take_snoc hlt] at hc
      rcases List.mem_append.1 hc with e | e
      · exact hf c e
      · simp only [List.mem_singleton] at e
        rw [e]
        exact ⟨fun q => h36 (by rw [q]; rfl), fun q => h116 (by rw [q]; rfl)⟩
  · have hall : s.take j = s := List.take_of_length_le (by omega)
    rw [hall] at hf
    have hn := hclear (fun h => (hf _ h).1 rfl) (fun h => (hf _ h).2 rfl)
    refine useR (num_spec _ w4) fun w5 hg5 => ⟨_, rfl, Ret.bool (decide_eq_true hn) (hg4.trans hg5)⟩

end Go.Proofs.Ytpedoaeieabhoaa.V
