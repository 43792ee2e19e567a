/- Lemmas for the seat: the conditions of code, and contracts of functions, part 2. Condition: none. -/
import Derived.Test.YtpedoaeieabhoaaE1
import Derived.Recover
import Derived.ProofKit
import Derived.WalkKit
import Derived.Test.YtpedoaeieabhoaaProg
import Derived.KernelRfl

/- Slices that a function makes and grows: what they hold, and how appends and other steps keep it. -/
namespace Go.Vc
open Go

/-- The slice lies at the head of a block of its own, from block n₀ on; its elements' cells are these. -/
structure Own (n₀ : Nat) (w : World) (s : Sl) (sz : Nat) (cells : List Value) : Prop where
  len : cells.length = s.len * sz
  le : s.len ≤ s.cap
  base : (s.a = none ∧ s.cap = 0 ∧ cells = []) ∨
    ∃ (g : Nat) (e : TypeId) (c : Array Value), s.a = some ⟨g, 0, none⟩ ∧ n₀ ≤ g ∧ w.heap[g]? = some (.cells c e (0, 0)) ∧ c.size = s.cap * sz ∧ ∀ (i : Nat) (v : Value), cells[i]? = some v → c[i]? = some v

theorem Own.nil (n₀ : Nat) (w : World) (sz : Nat) : Own n₀ w ⟨none, 0, 0⟩ sz [] := ⟨by simp, Nat.le_refl _, .inl ⟨rfl, rfl, rfl⟩⟩

theorem CellsAt.of_block {w : World} {g off : Nat} {c : Array Value} {e : TypeId} {fz : Nat × Nat} {vs : List Value} (h : w.heap[g]? = some (.cells c e fz)) (hv : ∀ (i : Nat) (v : Value), vs[i]? = some v → c[off + i]? = some v) :
    CellsAt w ⟨g, off, none⟩ vs := by
  intro i v hi
  rw [addr_add]
  simp only [World.cell?, h, Option.isSome_none, Bool.false_eq_true, if_false]
  exact hv i v hi

theorem Own.cells {n₀ : Nat} {w : World} {s : Sl} {sz : Nat} {cells : List Value} (h : Own n₀ w s sz cells) : SlCells w s.a (s.len * sz) cells := by
  refine ⟨h.len, fun ad had => ?_, fun hn => ?_⟩
  · rcases h.base with ⟨h1, _, _⟩ | ⟨g, e, c, h1, _, h3, _, h5⟩
    · rw [h1] at had; cases had
    · rw [h1] at had
      cases had
      exact CellsAt.of_block h3 (by simpa using h5)
  · rcases h.base with ⟨_, _, h3⟩ | ⟨g, e, c, h1, _⟩
    · exact h3
    · rw [h1] at hn; cases hn

theorem Own.pre {n₀ : Nat} {w : World} {s : Sl} {sz : Nat} {cells : List Value} (h : Own n₀ w s sz cells) {bytes n : Nat} (hr : (2 * (s.len + n) + 1024) * bytes ≤ 281474976710656) : AppPre w s sz bytes n cells := by
  have hc := h.cells
  refine ⟨h.len, hc.some, hc.none, fun hle a ha => ?_, hr⟩
  rcases h.base with ⟨h1, _, _⟩ | ⟨g, e, c, h1, _, h3, h4, _⟩
  · rw [h1] at ha; cases ha
  · rw [h1] at ha
    cases ha
    intro i hi
    rw [addr_add, addr_add]
    have hlt : 0 + s.len * sz + i < c.size := by
      rw [h4]
      have : (s.len + n) * sz ≤ s.cap * sz := Nat.mul_le_mul_right sz hle
      rw [Nat.add_mul] at this
      omega
    refine ⟨⟨c[0 + s.len * sz + i], ?_⟩, ?_⟩
    · simp only [World.cell?, h3, Option.isSome_none, Bool.false_eq_true, if_false]
      exact getElem?_pos c _ hlt
    · simp [World.frozen?, h3]

/-- What an append to an owned slice gives. -/
structure Grown1 (n₀ : Nat) (w w' : World) (s s' : Sl) : Prop where
  bel : Bel n₀ w w'
  /-- all blocks but the slice's are as they were -/
  keep : ∀ k, k < w.heap.size → (∀ ad, s.a = some ad → ad.block ≠ k) → w'.heap[k]? = w.heap[k]?
  /-- where the new slice lies -/
  at_ : ∀ ad, s'.a = some ad → s.a = some ad ∨ ad.block = w.heap.size
  size : w.heap.size ≤ w'.heap.size

theorem Own.res {n₀ : Nat} {w w' : World} {s s' : Sl} {sz n : Nat} {e : TypeId} {vs cells : List Value} (h : Own n₀ w s sz cells) (hn : n₀ ≤ w.heap.size) (hv : vs.length = n * sz)
    (hr : AppRes w s sz e vs n cells s' w') : Own n₀ w' s' sz (cells ++ vs) ∧ Grown1 n₀ w w' s s' ∧ s'.len = s.len + n := by
  rcases hr with ⟨hle, rfl, rfl⟩ | ⟨hlt, c, rest, hc, hrl, rfl, rfl⟩
  · rcases h.base with ⟨h1, h2, h3⟩ | ⟨g, et, c, h1, hg, h3, h4, h5⟩
    · have hl0 : s.len = 0 := by have := h.le; omega
      have hn0 : n = 0 := by omega
      subst hn0
      have hvs : vs = [] := List.eq_nil_of_length_eq_zero (by simpa using hv)
      subst hvs
      refine ⟨⟨by simp [h3, hl0], by simp [hl0], .inl ⟨h1, h2, by simp [h3]⟩⟩, ?_, rfl⟩
      simp only [appIn, h1]
      exact ⟨RowKit.Below.refl _ _, fun _ _ _ => rfl, fun ad had => .inl (by rw [← had, h1]), Nat.le_refl _⟩
    · simp only [appIn, h1, addr_add, Nat.zero_add]
      have hsz : s.len * sz + n * sz ≤ c.size := by
        rw [h4, ← Nat.add_mul]
        exact Nat.mul_le_mul_right sz hle
      obtain ⟨c', hb, hs, hget⟩ := setCellsFrom_block g (s.len * sz) vs 0 w c et (0, 0) h3 (by omega)
      obtain ⟨e1, e2, e3, e4⟩ := setCellsFrom_env ⟨g, s.len * sz, none⟩ vs 0 w
      refine ⟨⟨?_, hle, .inr ⟨g, et, c', rfl, hg, hb, hs.trans h4, fun i v hi => ?_⟩⟩, ⟨⟨e1, e2, e3, by unfold setCells; rw [e4]; exact Nat.le_refl _, fun k hk => ?_⟩, fun k hk hne => ?_, fun ad had => .inl (h1.trans had), by unfold setCells; rw [e4]; exact Nat.le_refl _⟩, trivial⟩
      · rw [List.length_append, h.len, hv, Nat.add_mul]
      · have hi' : i < cells.length + vs.length := by
          rcases Nat.lt_or_ge i (cells ++ vs).length with h' | h'
          · simpa using h'
          · simp [List.getElem?_eq_none h'] at hi
        have hic : i < c'.size := by rw [hs]; have := h.len; omega
        have hg' := hget i
        rw [Array.getD_eq_getD_getElem?, getElem?_pos c' i hic, Option.getD_some] at hg'
        rw [getElem?_pos c' i hic, hg']
        by_cases hil : i < cells.length
        · rw [if_neg (by have := h.len; omega)]
          rw [List.getElem?_append_left hil] at hi
          have := h5 i v hi
          rw [Array.getD_eq_getD_getElem?, this]
          rfl
        · rw [if_pos (by have := h.len; omega)]
          rw [List.getElem?_append_right (by omega)] at hi
          have : i - (s.len * sz + 0) = i - cells.length := by have := h.len; omega
          rw [this, List.getD_eq_getElem?_getD, hi]
          rfl
      · exact setCellsFrom_other _ _ (by simp; omega) _ _ _
      · exact setCellsFrom_other ⟨g, s.len * sz, none⟩ k (fun e => hne ⟨g, 0, none⟩ h1 e.symm) _ _ _
  · refine ⟨⟨?_, hc, .inr ⟨w.heap.size, e, (cells ++ vs ++ rest).toArray, rfl, hn, ?_, ?_, fun i v hi => ?_⟩⟩, ⟨⟨rfl, rfl, rfl, by simp, fun k hk => ?_⟩, fun k hk _ => ?_, fun ad had => .inr ?_, by simp⟩, rfl⟩
    · rw [List.length_append, h.len, hv, Nat.add_mul]
    · show (w.heap.push _)[w.heap.size]? = _
      simp
    · have hl := h.len
      simp only [List.size_toArray, List.length_append, hl, hv, hrl]
      rw [← Nat.add_mul, ← Nat.add_mul]
      congr 1
      omega
    · rw [List.getElem?_toArray, List.append_assoc]
      rw [← List.append_assoc, List.getElem?_append_left]
      · exact hi
      · rcases Nat.lt_or_ge i (cells ++ vs).length with h' | h'
        · exact h'
        · rw [List.getElem?_eq_none h'] at hi; cases hi
    · exact RowKit.Below.heap_alloc w.drew _ _ (show k < w.drew.heap.size by simp; omega)
    · exact RowKit.Below.heap_alloc w.drew _ _ (show k < w.drew.heap.size by simpa using hk)
    · cases had; rfl

/-- A step that leaves the slice's block. -/
theorem Own.keep {n₀ : Nat} {w w' : World} {s : Sl} {sz : Nat} {cells : List Value} (h : Own n₀ w s sz cells) (hk : ∀ ad, s.a = some ad → w'.heap[ad.block]? = w.heap[ad.block]?) : Own n₀ w' s sz cells := by
  refine ⟨h.len, h.le, ?_⟩
  rcases h.base with h1 | ⟨g, e, c, h1, h2, h3, h4⟩
  · exact .inl h1
  · exact .inr ⟨g, e, c, h1, h2, by rw [hk _ h1]; exact h3, h4⟩
theorem Own.lt {n₀ : Nat} {w : World} {s : Sl} {sz : Nat} {cells : List Value} (h : Own n₀ w s sz cells) {ad : Addr} (ha : s.a = some ad) : ad.block < w.heap.size ∧ n₀ ≤ ad.block := by
  rcases h.base with ⟨h1, _⟩ | ⟨g, e, c, h1, h2, h3, h4⟩
  · rw [h1] at ha; cases ha
  · rw [h1] at ha
    cases ha
    exact ⟨heap_lt h3, h2⟩
theorem Own.grow {n₀ : Nat} {w w' : World} {s : Sl} {sz : Nat} {cells : List Value} (h : Own n₀ w s sz cells) (hg : Grow w w') : Own n₀ w' s sz cells :=
  h.keep fun _ ha => hg.block _ (h.lt ha).1
theorem Own.loc {n₀ : Nat} {w w' : World} {s : Sl} {sz : Nat} {cells : List Value} {B : List Nat} (h : Own n₀ w s sz cells) (hl : LocB B w w') (hB : ∀ ad, s.a = some ad → ad.block ∉ B) : Own n₀ w' s sz cells :=
  h.keep fun ad ha => hl.block _ (h.lt ha).1 (hB ad ha)
theorem Own.mono {n₀ n₁ : Nat} {w : World} {s : Sl} {sz : Nat} {cells : List Value} (h : Own n₀ w s sz cells) (hn : n₁ ≤ n₀) : Own n₁ w s sz cells := by
  refine ⟨h.len, h.le, ?_⟩
  rcases h.base with h1 | ⟨g, e, c, h1, h2, h3⟩
  · exact .inl h1
  · exact .inr ⟨g, e, c, h1, Nat.le_trans hn h2, h3⟩

end Go.Vc
namespace Go.Vc
open Go
theorem LocB.g1 {b : Nat} {w w' : World} (h : LocB [b] w w') (hb : w.heap.size ≤ b) : Grow w w' := h.bel (Nat.le_refl _) (by simpa using hb)
theorem LocB.g2 {b c : Nat} {w w' : World} (h : LocB [b, c] w w') (hb : w.heap.size ≤ b) (hc : w.heap.size ≤ c) : Grow w w' := h.bel (Nat.le_refl _) (by simpa using ⟨hb, hc⟩)
theorem LocB.g3 {b c d : Nat} {w w' : World} (h : LocB [b, c, d] w w') (hb : w.heap.size ≤ b) (hc : w.heap.size ≤ c) (hd : w.heap.size ≤ d) : Grow w w' := h.bel (Nat.le_refl _) (by simpa using ⟨hb, hc, hd⟩)
theorem LocB.below {B : List Nat} {n : Nat} {w w' : World} (h : LocB B w w') (hn : n ≤ w.heap.size) (hB : ∀ b, b ∈ B → n ≤ b) : Bel n w w' := h.bel hn hB
theorem Own.ne {n₀ : Nat} {w : World} {s : Sl} {sz b : Nat} {cells : List Value} (h : Own n₀ w s sz cells) (hb : w.heap.size ≤ b) : ∀ ad, s.a = some ad → ad.block ≠ b :=
  fun ad ha => by have := (h.lt ha).1; omega
theorem Own.nle {n₀ : Nat} {w : World} {s : Sl} {sz b : Nat} {cells : List Value} (h : Own n₀ w s sz cells) (hb : b < n₀) : ∀ ad, s.a = some ad → ad.block ≠ b :=
  fun ad ha => by have := (h.lt ha).2; omega
theorem bytesV_snoc (l : Bytes) (c : UInt8) : bytesV (l ++ [c]) = bytesV l ++ [.int .u8 (c.toNat : Int)] := by simp [bytesV]
theorem bytesV_length (l : Bytes) : (bytesV l).length = l.length := by simp [bytesV]
end Go.Vc
namespace Go.Vc
open Go
theorem Grow.and {a b c : World} (h : Grow a b) (k : Bel a.heap.size b c) : Grow a c := RowKit.Below.trans h k
end Go.Vc

/- Plain models: octets and texts. -/
namespace Go.Vc.M
open Go.Vc

def Blank (c : UInt8) : Prop := c.toNat = 32 ∨ c.toNat = 9 ∨ c.toNat = 10 ∨ c.toNat = 12 ∨ c.toNat = 13
instance (c : UInt8) : Decidable (Blank c) := by unfold Blank; infer_instance
def Letter (c : UInt8) : Prop := (97 ≤ c.toNat ∧ c.toNat ≤ 122) ∨ (65 ≤ c.toNat ∧ c.toNat ≤ 90)
instance (c : UInt8) : Decidable (Letter c) := by unfold Letter; infer_instance
def Digit (c : UInt8) : Prop := 48 ≤ c.toNat ∧ c.toNat ≤ 57
instance (c : UInt8) : Decidable (Digit c) := by unfold Digit; infer_instance
/-- What a name begins with; what it goes on with. -/
def Head (c : UInt8) : Prop := Letter c ∨ c.toNat = 95
instance (c : UInt8) : Decidable (Head c) := by unfold Head; infer_instance
def Inner (c : UInt8) : Prop := Head c ∨ Digit c
instance (c : UInt8) : Decidable (Inner c) := by unfold Inner; infer_instance

def blankB (c : UInt8) : Bool := decide (Blank c)
def headB (c : UInt8) : Bool := decide (Head c)
def innerB (c : UInt8) : Bool := decide (Inner c)

/-- A name. -/
def Name (s : Bytes) : Prop := s.length ≤ 32 ∧ ∃ c r, s = c :: r ∧ Head c ∧ ∀ d ∈ r, Inner d
def nameB : Bytes → Bool
  | [] => false
  | c :: r => headB c && r.all innerB && decide (r.length + 1 ≤ 32)
theorem nameB_iff (s : Bytes) : nameB s = true ↔ Name s := by
  cases s with
  | nil => simp [nameB, Name]
  | cons c r =>
    simp only [nameB, Bool.and_eq_true, headB, decide_eq_true_eq, List.all_eq_true, innerB, Name, List.length_cons]
    constructor
    · rintro ⟨⟨h1, h2⟩, h3⟩; exact ⟨h3, c, r, rfl, h1, h2⟩
    · rintro ⟨h3, c', r', he, h1, h2⟩; cases he; exact ⟨⟨h1, h2⟩, h3⟩

def find (p : Bytes) : Bytes → Option Nat
  | [] => if p = [] then some 0 else none
  | c :: r => if p <+: (c :: r) then some 0 else (find p r).map (· + 1)
def findI (p s : Bytes) : Int := match find p s with
  | some n => (n : Int)
  | none => -1

def trimL (s : Bytes) : Bytes := s.dropWhile blankB
def trimR (s : Bytes) : Bytes := (s.reverse.dropWhile blankB).reverse
def trim (s : Bytes) : Bytes := trimR (trimL s)

theorem find_cons_no {p : Bytes} {c : UInt8} {r : Bytes} (h : ¬ p <+: (c :: r)) : find p (c :: r) = (find p r).map (· + 1) := by simp [find, h]
theorem find_yes {p s : Bytes} (h : p <+: s) : find p s = some 0 := by
  cases s with
  | nil => have : p = [] := List.prefix_nil.1 h; simp [find, this]
  | cons c r => simp [find, h]
theorem find_short {p s : Bytes} (h : s.length < p.length) : find p s = none := by
  induction s with
  | nil => cases p with
    | nil => simp at h
    | cons => simp [find]
  | cons c r ih =>
    have hn : ¬ p <+: (c :: r) := fun hp => by have := hp.length_le; omega
    rw [find_cons_no hn, ih (by simp at h; omega)]
    rfl

/-- A number's digits. -/
def digitsVal (t : Bytes) : Nat := t.foldl (fun n c => n * 10 + (c.toNat - 48)) 0
def allDigits (t : Bytes) : Bool := t.all fun c => decide (Digit c)
/-- A number: its value, and an error (8 short, 33 syntax, 4 range). -/
def parseNum (s : Bytes) : Int × Int :=
  let below : Bool := decide (s.head? = some 45)
  let t := if below then s.drop 1 else s
  if t = [] then (0, 8)
  else if !allDigits t then (0, 33)
  else if decide (t.head? = some 48) && (below || decide (1 < t.length)) then (0, 33)
  else if below then (if digitsVal t ≤ 9223372036854775808 then (-(digitsVal t : Int), 0) else (0, 4))
  else if digitsVal t < 9223372036854775808 then ((digitsVal t : Int), 0) else (0, 4)

end Go.Vc.M

/- Plain models: pieces and words. -/
namespace Go.Vc
open Go

theorem useR {P : Program} {f : FuncId} {args : Array Value} {w : World} {v : Value} {Q : Ending → World → Prop} (h : Calls P f args w (Ret w v)) (k : ∀ w', Grow w w' → Q (.returned v) w') : Calls P f args w Q :=
  h.mono fun e w' he => by obtain ⟨rfl, hg⟩ := he; exact k w' hg

theorem LocB.two {B : List Nat} {n : Nat} {w w' : World} (h : LocB B w w') (hn : n ≤ w.heap.size) (hB : ∀ b, b ∈ B → n ≤ b) : Bel n w w' := h.bel hn hB

namespace M
theorem headB_t {c : UInt8} (h : Letter c ∨ c.toNat = 95) : headB c = true := decide_eq_true h
theorem headB_f {c : UInt8} (h : ¬ Letter c) (h' : ¬ c.toNat = 95) : headB c = false := decide_eq_false (fun k => k.elim h h')
theorem innerB_t {c : UInt8} (h : (Letter c ∨ c.toNat = 95) ∨ Digit c) : innerB c = true := decide_eq_true h
theorem innerB_f {c : UInt8} (h : ¬ Letter c) (h' : ¬ c.toNat = 95) (h'' : ¬ Digit c) : innerB c = false := decide_eq_false (fun k => k.elim (fun k => k.elim h h') h'')
theorem innerB_head {c : UInt8} (h : headB c = true) : innerB c = true := decide_eq_true (.inl (of_decide_eq_true h))
theorem innerB_digit {c : UInt8} (h : Digit c) : innerB c = true := decide_eq_true (.inr h)
theorem innerB_no {c : UInt8} (h : headB c = false) (h' : ¬ Digit c) : innerB c = false := decide_eq_false (fun k => k.elim (of_decide_eq_false h) h')

/-- How many of the first octets are so. -/
def spanL (p : UInt8 → Bool) : Bytes → Nat
  | [] => 0
  | c :: r => if p c then spanL p r + 1 else 0
theorem spanL_le (p : UInt8 → Bool) : ∀ s : Bytes, spanL p s ≤ s.length
  | [] => Nat.le_refl _
  | c :: r => by
    unfold spanL
    split
    · have := spanL_le p r; simp; omega
    · simp
theorem spanL_yes {p : UInt8 → Bool} {s : Bytes} {k : Nat} (h : k < s.length) (hp : p s[k] = true) : spanL p (s.drop k) = spanL p (s.drop (k + 1)) + 1 := by
  rw [drop_cons h, spanL, if_pos hp]
theorem spanL_no {p : UInt8 → Bool} {s : Bytes} {k : Nat} (h : k < s.length) (hp : p s[k] = false) : spanL p (s.drop k) = 0 := by
  rw [drop_cons h, spanL, if_neg (by simp [hp])]
theorem spanL_end {p : UInt8 → Bool} {s : Bytes} {k : Nat} (h : s.length ≤ k) : spanL p (s.drop k) = 0 := by
  rw [List.drop_eq_nil_of_le h, spanL]
theorem spanL_drop_le (p : UInt8 → Bool) (s : Bytes) (k : Nat) (hk : k ≤ s.length) : k + spanL p (s.drop k) ≤ s.length := by
  have := spanL_le p (s.drop k); simp at this; omega

/-- Where the end is, without the blanks behind a place. -/
def backTo (s : Bytes) (lo : Nat) : Nat → Nat
  | 0 => 0
  | n + 1 => if lo < n + 1 ∧ blankB (s.getD n 0) = true then backTo s lo n else n + 1
theorem backTo_le (s : Bytes) (lo : Nat) : ∀ n, backTo s lo n ≤ n
  | 0 => Nat.le_refl _
  | n + 1 => by
    unfold backTo
    split
    · have := backTo_le s lo n; omega
    · exact Nat.le_refl _
theorem le_backTo (s : Bytes) (lo : Nat) : ∀ n, lo ≤ n → lo ≤ backTo s lo n
  | 0, h => h
  | n + 1, h => by
    unfold backTo
    split
    · exact le_backTo s lo n (by omega)
    · exact h
def backM (s : Bytes) : Bytes := s.take (backTo s 0 s.length)
def trimM (s : Bytes) : Bytes := (s.take (backTo s (spanL blankB s) s.length)).drop (spanL blankB s)

/-- A name's length; 0: there is none. -/
def nameLen : Bytes → Nat
  | [] => 0
  | c :: r => if headB c then spanL innerB r + 1 else 0
theorem nameLen_le (s : Bytes) : nameLen s ≤ s.length := by
  cases s with
  | nil => exact Nat.le_refl _
  | cons c r =>
    simp only [nameLen]
    split
    · have := spanL_le innerB r; simp; omega
    · simp

/-- . and names: how long, and an error. -/
def dotsF : Nat → Bytes → Nat × Int
  | 0, _ => (0, 0)
  | f + 1, r =>
    if 1 < r.length ∧ r.head? = some 46 then
      let n := nameLen (r.drop 1)
      if n = 0 then (0, 33)
      else if 32 < n then (0, 5)
      else let d := dotsF f (r.drop (1 + n)); (1 + n + d.1, d.2)
    else (0, 0)
def dots (r : Bytes) : Nat × Int := dotsF r.length r
theorem dotsF_le : ∀ (f : Nat) (r : Bytes), (dotsF f r).1 ≤ r.length
  | 0, _ => Nat.zero_le _
  | f + 1, r => by
    unfold dotsF
    split
    · simp only
      split
      · exact Nat.zero_le _
      · split
        · exact Nat.zero_le _
        · have h1 := dotsF_le f (r.drop (1 + nameLen (r.drop 1)))
          have h2 := nameLen_le (r.drop 1)
          simp at h1 h2 ⊢
          omega
    · exact Nat.zero_le _

def escB (d : UInt8) : Bool := d.toNat = 110 || d.toNat = 116 || d.toNat = 92 || d.toNat = 34
def unesc (d : UInt8) : UInt8 := if d.toNat = 110 then 10 else if d.toNat = 116 then 9 else d
/-- A text from behind its " on, which stands at a place: it, where it ends, an error and its place. -/
def strM (at_ : Int) : Bytes → Int → Bytes → Bytes × Int × Int × Int
  | [], _, _ => ([], 0, 33, at_)
  | c :: r, i, acc =>
    if c.toNat = 34 then (if 4096 < acc.length then ([], 0, 5, at_) else (acc, i + 1, 0, 0))
    else if c.toNat = 10 then ([], 0, 33, i)
    else if c.toNat = 92 then
      match r with
      | [] => ([], 0, 33, i)
      | d :: r' => if escB d then strM at_ r' (i + 2) (acc ++ [unesc d]) else ([], 0, 33, i)
    else strM at_ r (i + 1) (acc ++ [c])

/-- Where }} stands behind a place; none: nowhere. -/
def closesF : Nat → Bytes → Bool → Option Nat
  | 0, _, _ => none
  | f + 1, r, q => match r with
    | [] => none
    | c :: r' =>
      if q = true ∧ c.toNat = 92 then (closesF f (r'.drop 1) q).map (· + 2)
      else if c.toNat = 34 then (closesF f r' (!q)).map (· + 1)
      else if q = false ∧ [125, 125] <+: c :: r' then some 0
      else (closesF f r' q).map (· + 1)
def closes (r : Bytes) : Option Nat := closesF r.length r false
theorem closesF_le : ∀ (f : Nat) (r : Bytes) (q : Bool) (n : Nat), closesF f r q = some n → n + 2 ≤ r.length ∧ [125, 125] <+: r.drop n
  | 0, _, _, _, h => by simp [closesF] at h
  | f + 1, [], _, _, h => by simp [closesF] at h
  | f + 1, c :: r', q, n, h => by
    simp only [closesF] at h
    split at h
    · obtain ⟨m, hm, rfl⟩ := Option.map_eq_some_iff.1 h
      have := closesF_le f _ _ _ hm
      cases r' with
      | nil => simp at this
      | cons d r'' => simp at this ⊢; exact ⟨by omega, this.2⟩
    · split at h
      · obtain ⟨m, hm, rfl⟩ := Option.map_eq_some_iff.1 h
        have := closesF_le f _ _ _ hm
        simp; exact ⟨by omega, this.2⟩
      · split at h
        · rename_i h3
          cases h
          exact ⟨by have := h3.2.length_le; simp at this ⊢; omega, h3.2⟩
        · obtain ⟨m, hm, rfl⟩ := Option.map_eq_some_iff.1 h
          have := closesF_le f _ _ _ hm
          simp; exact ⟨by omega, this.2⟩

/-- A place ahead, as the code tells it. -/
def optI (j : Nat) : Option Nat → Int
  | some m => ((j + m : Nat) : Int)
  | none => -1
theorem optI_map (j d : Nat) (o : Option Nat) : optI j (o.map (· + d)) = optI (j + d) o := by
  cases o <;> simp [optI]; omega
def closesI (s : Bytes) (k : Nat) : Int := optI k (closes (s.drop k))
def beginB : Bytes → Bool
  | [] => false
  | c :: _ => headB c
def nameI (s : Bytes) (k : Nat) : Int := if nameLen (s.drop k) = 0 then 0 else ((k + nameLen (s.drop k) : Nat) : Int)
theorem nameLen_no {s : Bytes} (h : beginB s = false) : nameLen s = 0 := by
  cases s with
  | nil => rfl
  | cons c r => simp only [nameLen]; rw [if_neg]; intro h2; rw [beginB, h2] at h; cases h
theorem begin_lt {s : Bytes} {k : Nat} (h : beginB (s.drop k) = true) : ∃ hk : k < s.length, headB s[k] = true := by
  rcases Nat.lt_or_ge k s.length with hk | hk
  · rw [drop_cons hk] at h; exact ⟨hk, h⟩
  · rw [List.drop_eq_nil_of_le hk] at h; cases h

theorem nameLen_pos (s : Bytes) : beginB s = decide (0 < nameLen s) := by
  cases s with
  | nil => rfl
  | cons c r =>
    rw [beginB, nameLen]
    by_cases h : headB c = true
    · simp [h]
    · simp [h]
theorem contains_esc (d : UInt8) : ([110, 116, 92, 34] : Bytes).contains d = escB d := by
  rw [Bool.eq_iff_iff]
  simp [escB, ← UInt8.toNat_inj, or_assoc]
theorem strM_nil (a i : Int) (acc : Bytes) : strM a [] i acc = ([], 0, 33, a) := by simp [strM]
theorem strM_cons (a i : Int) (c : UInt8) (r acc : Bytes) : strM a (c :: r) i acc =
    (if c.toNat = 34 then (if 4096 < acc.length then ([], 0, 5, a) else (acc, i + 1, 0, 0))
    else if c.toNat = 10 then ([], 0, 33, i)
    else if c.toNat = 92 then
      match r with
      | [] => ([], 0, 33, i)
      | d :: r' => if escB d then strM a r' (i + 2) (acc ++ [unesc d]) else ([], 0, 33, i)
    else strM a r (i + 1) (acc ++ [c])) := by
  cases r <;> simp [strM]

/-- One word from a place on: its kind, its text, how long it is (of a text: where it ends), an error and its place. -/
structure Wd where
  kind : Int
  text : Bytes
  to_ : Int
  err : Int
  place : Int

def numErr (t : Bytes) : Int := let e := (parseNum t).2; if e = 4 then 4 else if e ≠ 0 then 33 else 0

/-- A word that is not a text: its kind, its length, an error. -/
def plainWord (c : UInt8) (r : Bytes) : Int × Nat × Int :=
  if headB c then (1, nameLen (c :: r), if 32 < nameLen (c :: r) then 5 else 0)
  else if c.toNat = 46 then (if 0 < nameLen r then (2, (dots (c :: r)).1, (dots (c :: r)).2) else (2, 1, 0))
  else if c.toNat = 36 then
    (if 32 < nameLen r then (3, 1 + nameLen r, 5) else (3, 1 + nameLen r + (dots (r.drop (nameLen r))).1, (dots (r.drop (nameLen r))).2))
  else if c.toNat = 45 ∨ Digit c then (4, 1 + spanL (fun c => decide (Digit c)) r, numErr (c :: r.take (spanL (fun c => decide (Digit c)) r)))
  else if [58, 61] <+: c :: r then (6, 2, 0)
  else if c.toNat ≠ 124 then (6, 1, 33)
  else (6, 1, 0)

theorem plainWord_le (c : UInt8) (r : Bytes) : (plainWord c r).2.1 ≤ (c :: r).length := by
  rw [plainWord]
  have h1 := nameLen_le (c :: r)
  have h2 := nameLen_le r
  have h3 := dotsF_le (c :: r).length (c :: r)
  have h4 := dotsF_le (r.drop (nameLen r)).length (r.drop (nameLen r))
  have h5 := spanL_le (fun c => decide (Digit c)) r
  have h6 : [58, 61] <+: c :: r → 2 ≤ (c :: r).length := fun h => h.length_le
  simp only [List.length_cons, List.length_drop] at *
  unfold dots
  simp only [List.length_cons, List.length_drop]
  split
  · exact h1
  · split
    · split
      · exact h3
      · simp only; omega
    · split
      · split
        · simp only; omega
        · simp only; omega
      · split
        · simp only; omega
        · split
          · rename_i h; simp only; exact h6 h
          · split <;> (simp only; omega)

/-- A word at a place of a text. -/
def wordAt (s : Bytes) (k : Nat) : Wd := match s.drop k with
  | [] => ⟨6, [], 0, 33, k⟩
  | c :: r =>
    if c.toNat = 34 ∧ headB c = false then
      let x := strM k r (k + 1) []
      ⟨5, x.1, x.2.1, x.2.2.1, x.2.2.2⟩
    else
      let p := plainWord c r
      if p.2.2 ≠ 0 then ⟨p.1, [], 0, p.2.2, k⟩ else ⟨p.1, (c :: r).take p.2.1, k + p.2.1, 0, 0⟩

structure W where
  kind : Int
  text : Bytes
  at_ : Int

/-- A text's words: or an error and its place. -/
def wordsF (s : Bytes) (base : Int) : Nat → Nat → List W → List W × Int × Int
  | 0, _, acc => (acc, base, 0)
  | f + 1, k, acc =>
    if k < s.length then
      let x := wordAt s k
      if x.err ≠ 0 then ([], base + x.place, x.err)
      else wordsF s base f (x.to_.toNat + spanL blankB (s.drop x.to_.toNat)) (acc ++ [⟨x.kind, x.text, base + k⟩])
    else (acc, base, 0)
def words (s : Bytes) (base : Int) : List W × Int × Int := wordsF s base s.length (spanL blankB s) []

end M
end Go.Vc

/- Plain models: numbers. -/
namespace Go.Vc.M
open Go Go.Vc

def dv (n : Nat) (t : Bytes) : Nat := t.foldl (fun n c => n * 10 + (c.toNat - 48)) n
theorem dv_cons (n : Nat) (c : UInt8) (t : Bytes) : dv n (c :: t) = dv (n * 10 + (c.toNat - 48)) t := by unfold dv; rw [List.foldl_cons]
theorem digits_cons {c : UInt8} {t : Bytes} (h : allDigits (c :: t) = true) : (48 ≤ c.toNat ∧ c.toNat ≤ 57) ∧ allDigits t = true := by
  rw [allDigits, List.all_cons, Bool.and_eq_true] at h
  exact ⟨of_decide_eq_true h.1, h.2⟩
theorem dv_lt (t : Bytes) : ∀ n : Nat, allDigits t = true → dv n t < (n + 1) * 10 ^ t.length := by
  induction t with
  | nil => intro n _; simp [dv]
  | cons c t ih =>
    intro n h
    have h' := digits_cons h
    have := ih (n * 10 + (c.toNat - 48)) h'.2
    rw [dv_cons, List.length_cons, Nat.pow_succ]
    refine Nat.lt_of_lt_of_le this ?_
    rw [← Nat.mul_assoc, Nat.mul_right_comm]
    exact Nat.mul_le_mul_right _ (by omega)
theorem le_dv (t : Bytes) : ∀ n : Nat, n * 10 ^ t.length ≤ dv n t := by
  induction t with
  | nil => intro n; simp [dv]
  | cons c t ih =>
    intro n
    have := ih (n * 10 + (c.toNat - 48))
    rw [dv_cons, List.length_cons, Nat.pow_succ]
    refine Nat.le_trans ?_ this
    rw [← Nat.mul_assoc, Nat.mul_right_comm]
    exact Nat.mul_le_mul_right _ (by omega)
theorem dv_long {t : Bytes} (hd : allDigits t = true) (h0 : ∀ c, t.head? = some c → c.toNat ≠ 48) (hl : 19 < t.length) : 9223372036854775808 < digitsVal t := by
  cases t with
  | nil => simp at hl
  | cons c r =>
    have hc := h0 c rfl
    have hd' := digits_cons hd
    have h1 := le_dv r (0 * 10 + (c.toNat - 48))
    have h2 : 10 ^ 19 ≤ 10 ^ r.length := Nat.pow_le_pow_right (by omega) (by simp at hl; omega)
    have h3 : 1 * 10 ^ r.length ≤ (0 * 10 + (c.toNat - 48)) * 10 ^ r.length := Nat.mul_le_mul_right _ (by omega)
    show _ < dv 0 (c :: r)
    rw [dv_cons]
    omega
theorem dv_short {t : Bytes} (hd : allDigits t = true) (hl : t.length ≤ 19) : digitsVal t < 10000000000000000000 := by
  have h1 := dv_lt t 0 hd
  have h2 : 10 ^ t.length ≤ 10 ^ 19 := Nat.pow_le_pow_right (by omega) hl
  show dv 0 t < _
  omega

theorem wrap_u64 {z : Int} (h : 0 ≤ z) (h' : z < 18446744073709551616) : IntKind.u64.wrap z = z := by
  simp [IntKind.wrap, IntKind.signed, IntKind.bits]; omega
theorem wrap_u8 {z : Int} (h : 0 ≤ z) (h' : z < 256) : IntKind.u8.wrap z = z := by
  simp [IntKind.wrap, IntKind.signed, IntKind.bits]; omega
theorem wrap_neg {u : Int} (h : 0 ≤ u) (h' : u ≤ 9223372036854775808) : IntKind.i64.wrap (IntKind.u64.wrap (0 - u)) = - u := by
  simp [IntKind.wrap, IntKind.signed, IntKind.bits]; omega
theorem wrap_pos {u : Int} (h : 0 ≤ u) (h' : u < 9223372036854775808) : IntKind.i64.wrap u = u := by
  simp [IntKind.wrap, IntKind.signed, IntKind.bits]; omega

end Go.Vc.M

/- Plain laws of words. -/
namespace Go.Vc.M
open Go Go.Vc

theorem strM_ok (a : Int) : ∀ (n : Nat) (r : Bytes) (i : Nat) (acc : Bytes), r.length ≤ n →
    ((strM a r i acc).2.2.1 = 0 → ∃ m : Nat, (strM a r i acc).2.1 = m ∧ i < m ∧ m ≤ i + r.length) ∧
    ((strM a r i acc).2.2.2 = 0 ∨ (strM a r i acc).2.2.2 = a ∨ ∃ m : Nat, (strM a r i acc).2.2.2 = m ∧ m ≤ i + r.length)
  | n, [], i, acc, _ => by simp [strM_nil]
  | 0, c :: r, _, _, h => by simp at h
  | n + 1, c :: r, i, acc, h => by
    rw [strM_cons]
    rw [List.length_cons] at *
    split
    · split
      · exact ⟨fun h => absurd h (by simp), .inr (.inl rfl)⟩
      · exact ⟨fun _ => ⟨i + 1, by simp, by omega, by omega⟩, .inl rfl⟩
    · split
      · exact ⟨fun h => absurd h (by simp), .inr (.inr ⟨i, rfl, by omega⟩)⟩
      · split
        · cases r with
          | nil => exact ⟨fun h => absurd h (by simp), .inr (.inr ⟨i, rfl, by omega⟩)⟩
          | cons d r' =>
            simp only
            split
            · have := strM_ok a n r' (i + 2) (acc ++ [unesc d]) (by rw [List.length_cons] at h; omega)
              rw [show ((i + 2 : Nat) : Int) = (i : Int) + 2 by omega] at this
              refine ⟨fun e => ?_, ?_⟩
              · obtain ⟨m, h1, h2, h3⟩ := this.1 e
                exact ⟨m, h1, by omega, by rw [List.length_cons]; omega⟩
              · rcases this.2 with h1 | h1 | ⟨m, h1, h2⟩
                · exact .inl h1
                · exact .inr (.inl h1)
                · exact .inr (.inr ⟨m, h1, by rw [List.length_cons]; omega⟩)
            · exact ⟨fun h => absurd h (by simp), .inr (.inr ⟨i, rfl, by omega⟩)⟩
        · have := strM_ok a n r (i + 1) (acc ++ [c]) (by omega)
          rw [show ((i + 1 : Nat) : Int) = (i : Int) + 1 by omega] at this
          refine ⟨fun e => ?_, ?_⟩
          · obtain ⟨m, h1, h2, h3⟩ := this.1 e
            exact ⟨m, h1, by omega, by omega⟩
          · rcases this.2 with h1 | h1 | ⟨m, h1, h2⟩
            · exact .inl h1
            · exact .inr (.inl h1)
            · exact .inr (.inr ⟨m, h1, by omega⟩)

theorem plainWord_pos (c : UInt8) (r : Bytes) (h : (plainWord c r).2.2 = 0) : 0 < (plainWord c r).2.1 := by
  rw [plainWord] at *
  split
  · rename_i h1; simp only [nameLen]; rw [if_pos h1]; omega
  · rename_i h1
    rw [if_neg h1] at h
    split
    · rename_i h2
      rw [if_pos h2] at h
      split
      · rename_i h3
        rw [if_pos h3] at h
        simp only at h ⊢
        unfold dots at *
        rw [List.length_cons] at *
        have hl := nameLen_le r
        have hc : (1 : Nat) < (c :: r).length ∧ (c :: r).head? = some 46 := ⟨by rw [List.length_cons]; omega, by rw [List.head?_cons, UInt8.toNat_inj.1 (show c.toNat = (46 : UInt8).toNat from h2)]⟩
        rw [dotsF, if_pos hc] at h ⊢
        simp only [List.drop_succ_cons, List.drop_zero] at h ⊢
        rw [if_neg (by omega)] at h ⊢
        split
        · rename_i h4; rw [if_pos h4] at h; simp at h
        · simp only; omega
      · exact Nat.one_pos
    · rename_i h2
      rw [if_neg h2] at h
      split
      · rename_i h3
        rw [if_pos h3] at h
        split
        · simp only; omega
        · simp only; omega
      · split
        · simp only; omega
        · split
          · simp only; omega
          · split <;> (simp only; omega)

theorem wordAt_ok (s : Bytes) (k : Nat) (hk : k < s.length) :
    ((wordAt s k).err = 0 → ∃ m : Nat, (wordAt s k).to_ = m ∧ k < m ∧ m ≤ s.length) ∧ 0 ≤ (wordAt s k).place ∧ (wordAt s k).place ≤ s.length := by
  have hd : s.drop k = s[k] :: s.drop (k + 1) := drop_cons hk
  have hl : (s.drop (k + 1)).length = s.length - (k + 1) := List.length_drop
  rw [wordAt, hd]
  simp only
  split
  · have := strM_ok k _ (s.drop (k + 1)) (k + 1) [] (Nat.le_refl _)
    rw [show ((k + 1 : Nat) : Int) = (k : Int) + 1 by omega] at this
    refine ⟨fun e => ?_, ?_⟩
    · obtain ⟨m, h1, h2, h3⟩ := this.1 e
      have h4 : k < m ∧ m ≤ s.length := by clear h1 e this; omega
      exact ⟨m, h1, h4.1, h4.2⟩
    · have h5 := this.2
      clear this
      rcases h5 with h1 | h1 | ⟨m, h1, h2⟩ <;> (simp only [h1]; clear h1; omega)
  · split
    · rename_i h; exact ⟨fun e => absurd e h, by simp only; omega, by simp only; omega⟩
    · rename_i h
      have h1 := plainWord_pos s[k] (s.drop (k + 1)) (by simpa using h)
      have h2 := plainWord_le s[k] (s.drop (k + 1))
      rw [List.length_cons] at h2
      exact ⟨fun _ => ⟨k + (plainWord s[k] (s.drop (k + 1))).2.1, by simp, by omega, by omega⟩, by simp, by simp⟩

/-- A word's cells. -/
def wV (x : W) : List Value := [.int .i64 x.kind, .string (bs x.text), .int .i64 x.at_]
def wsV (l : List W) : List Value := l.flatMap wV
theorem wsV_snoc (l : List W) (x : W) : wsV (l ++ [x]) = wsV l ++ wV x := by simp [wsV]
theorem wsV_length (l : List W) : (wsV l).length = l.length * 3 := by
  induction l with
  | nil => rfl
  | cons x r ih => simp only [wsV, List.flatMap_cons, List.length_append, wV, List.length_cons, List.length_nil] at *; omega

end Go.Vc.M

/- Plain models: pieces. -/
namespace Go.Vc.M
open Go Go.Vc

theorem find_le {p : Bytes} : ∀ {s : Bytes} {k : Nat}, find p s = some k → k + p.length ≤ s.length
  | [], k, h => by
    simp only [find] at h
    split at h
    · rename_i hp; cases h; simp [hp]
    · cases h
  | c :: r, k, h => by
    simp only [find] at h
    split at h
    · rename_i hp; cases h; have := hp.length_le; omega
    · obtain ⟨m, hm, rfl⟩ := Option.map_eq_some_iff.1 h
      have := find_le hm
      rw [List.length_cons]; omega
theorem find_pre {p : Bytes} : ∀ {s : Bytes} {k : Nat}, find p s = some k → p <+: s.drop k
  | [], k, h => by
    simp only [find] at h
    split at h
    · rename_i hp; cases h; simp [hp]
    · cases h
  | c :: r, k, h => by
    simp only [find] at h
    split at h
    · rename_i hp; cases h; exact hp
    · obtain ⟨m, hm, rfl⟩ := Option.map_eq_some_iff.1 h
      rw [List.drop_succ_cons]; exact find_pre hm

def fromAt (s : Bytes) (trim : Bool) (at_ open_ : Nat) : Nat := if trim = true then min (at_ + spanL blankB (s.drop at_)) open_ else at_
def gather (s text : Bytes) (place : Int) (from_ open_ : Nat) : Bytes × Int :=
  if from_ < open_ then (text ++ (s.take open_).drop from_, if text = [] then (from_ : Int) else place) else (text, place)
def bodyAt (s : Bytes) (inner : Nat) : Nat := if [45] <+: s.drop inner then inner + 1 + spanL blankB (s.drop (inner + 1)) else inner + spanL blankB (s.drop inner)
/-- An action's end, and whether it is a remark. -/
def actionAt (s : Bytes) (inner : Nat) : Option (Bool × Nat) :=
  if [47, 42] <+: s.drop (bodyAt s inner) then
    match find [42, 47] (s.drop (bodyAt s inner + 2)) with
    | none => none
    | some k => (closes (s.drop (bodyAt s inner + 2 + k + 2))).map fun d => (true, bodyAt s inner + 2 + k + 2 + d)
  else (closes (s.drop inner)).map fun d => (false, inner + d)
def cutL (t : Bytes) : Bool := decide (1 < t.length) && (decide (t.head? = some 45) && blankB (t.getD 1 0))
def cutR (t : Bytes) : Bool := decide (1 < t.length) && (decide (t.getD (t.length - 1) 0 = 45) && blankB (t.getD (t.length - 2) 0))
def lead (t : Bytes) : Bytes := if cutL t = true then t.drop 1 else t
def tail (t : Bytes) : Bytes := if cutR t = true then t.take (t.length - 1) else t
def put1 (out : List W) (text : Bytes) (place : Int) : List W := if text = [] then out else out ++ [⟨1, text, place⟩]

def itemsF (s : Bytes) : Nat → List W → Bytes → Int → Bool → Nat → List W × Int × Int
  | 0, out, text, place, _, _ => (put1 out text place, s.length, 0)
  | f + 1, out, text, place, trim, at_ =>
    match find [123, 123] (s.drop at_) with
    | none => (put1 out (gather s text place (fromAt s trim at_ s.length) s.length).1 (gather s text place (fromAt s trim at_ s.length) s.length).2, s.length, 0)
    | some n =>
      match actionAt s (at_ + n + 2) with
      | none => ([], ((at_ + n : Nat) : Int), 8)
      | some x => itemsF s f
          (if x.1 = true then out else put1 out (if cutL ((s.take x.2).drop (at_ + n + 2)) = true then backM (gather s text place (fromAt s trim at_ (at_ + n)) (at_ + n)).1 else (gather s text place (fromAt s trim at_ (at_ + n)) (at_ + n)).1) (gather s text place (fromAt s trim at_ (at_ + n)) (at_ + n)).2 ++ [⟨2, trimM (tail (lead ((s.take x.2).drop (at_ + n + 2)))), ((at_ + n : Nat) : Int)⟩])
          (if x.1 = true then (if cutL ((s.take x.2).drop (at_ + n + 2)) = true then backM (gather s text place (fromAt s trim at_ (at_ + n)) (at_ + n)).1 else (gather s text place (fromAt s trim at_ (at_ + n)) (at_ + n)).1) else [])
          (gather s text place (fromAt s trim at_ (at_ + n)) (at_ + n)).2
          (cutR (lead ((s.take x.2).drop (at_ + n + 2))))
          (x.2 + 2)
/-- A text's pieces: or an error and its place. -/
def items (s : Bytes) : List W × Int × Int := if 16384 < s.length then ([], 0, 5) else itemsF s (s.length + 1) [] [] 0 false 0

theorem actionAt_le {s : Bytes} {inner : Nat} (hi : inner ≤ s.length) {x : Bool × Nat} (h : actionAt s inner = some x) : inner ≤ x.2 ∧ x.2 + 2 ≤ s.length := by
  rw [actionAt] at h
  have hb : inner ≤ bodyAt s inner := by rw [bodyAt]; split <;> omega
  split at h
  · split at h
    · cases h
    · rename_i k hk
      obtain ⟨d, hd, rfl⟩ := Option.map_eq_some_iff.1 h
      have h1 := (closesF_le _ _ _ _ hd).1
      rw [List.length_drop] at h1
      simp only
      omega
  · obtain ⟨d, hd, rfl⟩ := Option.map_eq_some_iff.1 h
    have h1 := (closesF_le _ _ _ _ hd).1
    rw [List.length_drop] at h1
    simp only
    omega
theorem bodyAt_le {s : Bytes} {inner : Nat} (hi : inner ≤ s.length) : bodyAt s inner ≤ s.length := by
  rw [bodyAt]
  split
  · rename_i h
    have := h.length_le
    rw [List.length_drop] at this
    exact spanL_drop_le blankB s (inner + 1) (by simp at this; omega)
  · exact spanL_drop_le blankB s inner hi
theorem gather_len {s text : Bytes} {place : Int} {from_ open_ : Nat} (h : open_ ≤ s.length) : (gather s text place from_ open_).1.length ≤ text.length + (open_ - from_) := by
  rw [gather]
  split
  · simp only [List.length_append, List.length_drop, List.length_take]; omega
  · simp only; omega
theorem fromAt_le {s : Bytes} {trim : Bool} {at_ open_ : Nat} (h : at_ ≤ open_) : at_ ≤ fromAt s trim at_ open_ := by
  rw [fromAt]; split <;> omega
theorem put1_len (out : List W) (text : Bytes) (place : Int) : (put1 out text place).length ≤ out.length + 1 := by
  rw [put1]; split <;> simp
theorem backM_len (s : Bytes) : (backM s).length ≤ s.length := by rw [backM]; simp; omega
theorem tail_len (t : Bytes) : (tail t).length ≤ t.length := by rw [tail]; split <;> simp
theorem lead_len (t : Bytes) : (lead t).length ≤ t.length := by rw [lead]; split <;> simp

end Go.Vc.M

/- Lists and trees in memory. -/
namespace Go.Vc
open Go

theorem cell?_keep {w w' : World} {a : Addr} (h : w'.heap[a.block]? = w.heap[a.block]?) : w'.cell? a = w.cell? a := by simp only [World.cell?, h]
theorem frozen?_keep {w w' : World} {a : Addr} (h : w'.heap[a.block]? = w.heap[a.block]?) : w'.frozen? a = w.frozen? a := by simp only [World.frozen?, h]

theorem add_block (a : Addr) (i : Nat) : (a.add i).block = a.block := by
  unfold Addr.add; split <;> rfl
theorem CellsAt.keep {w w' : World} {a : Addr} {vs : List Value} (h : CellsAt w a vs) (hk : w'.heap[a.block]? = w.heap[a.block]?) : CellsAt w' a vs := by
  intro i v hi
  rw [cell?_keep (w := w) (by rw [add_block]; exact hk)]
  exact h i v hi
theorem CellsAt.left {w : World} {a : Addr} {xs ys : List Value} (h : CellsAt w a (xs ++ ys)) : CellsAt w a xs := by
  intro i v hi
  refine h i v ?_
  rw [List.getElem?_append_left]
  · exact hi
  · rcases Nat.lt_or_ge i xs.length with h' | h'
    · exact h'
    · rw [List.getElem?_eq_none h'] at hi; cases hi
theorem addr_add_add (a : Addr) (i j : Nat) : (a.add i).add j = a.add (i + j) := by
  unfold Addr.add
  by_cases hi : i = 0
  · subst hi; simp
  · by_cases hj : j = 0
    · subst hj; simp
    · simp [hi, hj, Nat.add_assoc]
theorem CellsAt.right {w : World} {a : Addr} {xs ys : List Value} (h : CellsAt w a (xs ++ ys)) : CellsAt w (a.add xs.length) ys := by
  intro i v hi
  rw [addr_add_add]
  refine h _ v ?_
  rw [List.getElem?_append_right (Nat.le_add_right _ _), Nat.add_sub_cancel_left]
  exact hi

/-- A slice in these blocks, of n elements with these cells, that may be written. -/
def SlAt (w : World) (S : Nat → Prop) (sl : Sl) (n : Nat) (cells : List Value) : Prop :=
  sl.len = n ∧ n ≤ sl.cap ∧ (n = 0 ∨ ∃ ad, sl.a = some ad ∧ S ad.block ∧ CellsAt w ad cells ∧ ∀ i, i < cells.length → w.frozen? (ad.add i) = false)

theorem SlAt.nil (w : World) (S : Nat → Prop) (cells : List Value) : SlAt w S ⟨none, 0, 0⟩ 0 cells := ⟨rfl, Nat.le_refl _, .inl rfl⟩
theorem SlAt.keep {w w' : World} {S : Nat → Prop} {sl : Sl} {n : Nat} {cells : List Value} (h : SlAt w S sl n cells) (hk : ∀ k, S k → w'.heap[k]? = w.heap[k]?) : SlAt w' S sl n cells := by
  obtain ⟨h1, h2, h3⟩ := h
  refine ⟨h1, h2, h3.elim .inl fun ⟨ad, h4, h5, h6, h7⟩ => .inr ⟨ad, h4, h5, h6.keep (hk _ h5), fun i hi => ?_⟩⟩
  rw [frozen?_keep (w := w) (by rw [add_block]; exact hk _ h5)]
  exact h7 i hi
theorem SlAt.mono {w : World} {S S' : Nat → Prop} {sl : Sl} {n : Nat} {cells : List Value} (h : SlAt w S sl n cells) (hk : ∀ k, S k → S' k) : SlAt w S' sl n cells := by
  obtain ⟨h1, h2, h3⟩ := h
  exact ⟨h1, h2, h3.elim .inl fun ⟨ad, h4, h5, h6⟩ => .inr ⟨ad, h4, hk _ h5, h6⟩⟩
theorem Own.slAt {n₀ : Nat} {w : World} {s : Sl} {sz : Nat} {cells : List Value} {S : Nat → Prop} (h : Own n₀ w s sz cells) (hS : ∀ ad, s.a = some ad → S ad.block) : SlAt w S s s.len cells := by
  refine ⟨rfl, h.le, ?_⟩
  rcases h.base with ⟨h1, h2, h3⟩ | ⟨g, e, c, h1, h2, h3, h4, h5⟩
  · exact .inl (by have := h.le; omega)
  · refine .inr ⟨_, h1, hS _ h1, CellsAt.of_block h3 (by simpa using h5), fun i _ => ?_⟩
    rw [addr_add]; simp [World.frozen?, h3]

/-- Each of them so, one by one. -/
def allR {α : Type} (R : α → List Value → Prop) : List α → List (List Value) → Prop
  | [], [] => True
  | x :: l, c :: cs => R x c ∧ allR R l cs
  | _, _ => False
theorem allR.length {α : Type} {R : α → List Value → Prop} : ∀ {l : List α} {cs : List (List Value)}, allR R l cs → cs.length = l.length
  | [], [], _ => rfl
  | _ :: _, _ :: _, h => by rw [List.length_cons, List.length_cons, allR.length h.2]
theorem allR.imp {α : Type} {R R' : α → List Value → Prop} (hR : ∀ x c, R x c → R' x c) : ∀ {l : List α} {cs : List (List Value)}, allR R l cs → allR R' l cs
  | [], [], _ => trivial
  | _ :: _, _ :: _, h => ⟨hR _ _ h.1, allR.imp hR h.2⟩
theorem allR.snoc {α : Type} {R : α → List Value → Prop} {x : α} {c : List Value} (hx : R x c) : ∀ {l : List α} {cs : List (List Value)}, allR R l cs → allR R (l ++ [x]) (cs ++ [c])
  | [], [], _ => ⟨hx, trivial⟩
  | _ :: _, _ :: _, h => ⟨h.1, allR.snoc hx h.2⟩
theorem allR.get {α : Type} {R : α → List Value → Prop} {sz : Nat} (hsz : ∀ x c, R x c → c.length = sz) : ∀ {l : List α} {cs : List (List Value)} {i : Nat} {x : α}, allR R l cs → l[i]? = some x →
    ∃ c xs ys, R x c ∧ cs.flatten = xs ++ (c ++ ys) ∧ xs.length = i * sz
  | [], _, _, _, _, hi => by simp at hi
  | y :: l, c :: cs, 0, x, h, hi => by
    cases hi
    exact ⟨c, [], cs.flatten, h.1, by simp, by simp⟩
  | y :: l, c :: cs, i + 1, x, h, hi => by
    obtain ⟨d, xs, ys, h1, h2, h3⟩ := allR.get hsz h.2 (by simpa using hi)
    refine ⟨d, c ++ xs, ys, h1, by simp [h2], ?_⟩
    rw [List.length_append, h3, hsz _ _ h.1, Nat.add_mul]
    omega
theorem allR.flat {α : Type} {R : α → List Value → Prop} {sz : Nat} (hsz : ∀ x c, R x c → c.length = sz) : ∀ {l : List α} {cs : List (List Value)}, allR R l cs → cs.flatten.length = l.length * sz
  | [], [], _ => by simp
  | _ :: l, c :: cs, h => by
    rw [List.flatten_cons, List.length_append, allR.flat hsz h.2, hsz _ _ h.1, List.length_cons, Nat.add_mul]
    omega
theorem allR.drop {α : Type} {R : α → List Value → Prop} : ∀ (k : Nat) {l : List α} {cs : List (List Value)}, allR R l cs → allR R (l.drop k) (cs.drop k)
  | 0, _, _, h => h
  | _ + 1, [], [], _ => trivial
  | k + 1, _ :: _, _ :: _, h => allR.drop k h.2
theorem allR.take {α : Type} {R : α → List Value → Prop} : ∀ (k : Nat) {l : List α} {cs : List (List Value)}, allR R l cs → allR R (l.take k) (cs.take k)
  | 0, _, _, _ => trivial
  | _ + 1, [], [], _ => trivial
  | k + 1, _ :: _, _ :: _, h => ⟨h.1, allR.take k h.2⟩

/-- A list in memory. -/
def LstAt {α : Type} (R : α → List Value → Prop) (w : World) (S : Nat → Prop) (sl : Sl) (l : List α) : Prop :=
  ∃ cs, allR R l cs ∧ SlAt w S sl l.length cs.flatten
theorem LstAt.len {α : Type} {R : α → List Value → Prop} {w : World} {S : Nat → Prop} {sl : Sl} {l : List α} (h : LstAt R w S sl l) : sl.len = l.length := by obtain ⟨cs, _, h⟩ := h; exact h.1
theorem LstAt.le {α : Type} {R : α → List Value → Prop} {w : World} {S : Nat → Prop} {sl : Sl} {l : List α} (h : LstAt R w S sl l) : l.length ≤ sl.cap := by obtain ⟨cs, _, h⟩ := h; exact h.2.1
theorem LstAt.nil {α : Type} {R : α → List Value → Prop} (w : World) (S : Nat → Prop) : LstAt R w S ⟨none, 0, 0⟩ ([] : List α) := ⟨[], trivial, SlAt.nil _ _ _⟩
theorem LstAt.keep {α : Type} {R R' : α → List Value → Prop} {w w' : World} {S : Nat → Prop} {sl : Sl} {l : List α} (h : LstAt R w S sl l) (hR : ∀ x c, R x c → R' x c) (hk : ∀ k, S k → w'.heap[k]? = w.heap[k]?) : LstAt R' w' S sl l := by
  obtain ⟨cs, h1, h2⟩ := h; exact ⟨cs, h1.imp hR, h2.keep hk⟩
theorem LstAt.mono {α : Type} {R R' : α → List Value → Prop} {w : World} {S S' : Nat → Prop} {sl : Sl} {l : List α} (h : LstAt R w S sl l) (hR : ∀ x c, R x c → R' x c) (hk : ∀ k, S k → S' k) : LstAt R' w S' sl l := by
  obtain ⟨cs, h1, h2⟩ := h; exact ⟨cs, h1.imp hR, h2.mono hk⟩
theorem LstAt.get {α : Type} {R : α → List Value → Prop} {w : World} {S : Nat → Prop} {sl : Sl} {l : List α} {sz : Nat} (h : LstAt R w S sl l) (hsz : ∀ x c, R x c → c.length = sz) (i : Nat) (hi : i < l.length) :
    ∃ ad c, sl.a = some ad ∧ S ad.block ∧ R l[i] c ∧ CellsAt w (ad.add (i * sz)) c := by
  obtain ⟨cs, h1, h2, h3, h4⟩ := h
  rcases h4 with h4 | ⟨ad, h4, h5, h6, _⟩
  · omega
  · obtain ⟨c, xs, ys, g1, g2, g3⟩ := h1.get hsz (List.getElem?_eq_getElem hi)
    rw [g2] at h6
    refine ⟨ad, c, h4, h5, g1, ?_⟩
    rw [← g3]
    exact h6.right.left
theorem LstAt.sub {α : Type} {R : α → List Value → Prop} {w : World} {S : Nat → Prop} {sl : Sl} {l : List α} {sz : Nat} (h : LstAt R w S sl l) (hsz : ∀ x c, R x c → c.length = sz) (a b : Nat) (hab : a ≤ b) (hb : b ≤ l.length) (_hsp : 0 < sz) :
    LstAt R w S ⟨cutA sl.a a sl.cap sz, b - a, sl.cap - a⟩ ((l.drop a).take (b - a)) := by
  have hl := h.len
  have hle := h.le
  obtain ⟨cs, h1, h2, h3, h4⟩ := h
  have hlen : ((l.drop a).take (b - a)).length = b - a := by rw [List.length_take, List.length_drop]; omega
  refine ⟨(cs.drop a).take (b - a), (h1.drop a).take _, hlen.symm, by rw [hlen]; show b - a ≤ sl.cap - a; omega, ?_⟩
  rcases h4 with h4 | ⟨ad, h4, h5, h6, h7⟩
  · exact .inl (by rw [hlen]; omega)
  · by_cases hz : b - a = 0
    · exact .inl (by rw [hlen]; exact hz)
    · refine .inr ⟨ad.add (a * sz), ?_, by rw [add_block]; exact h5, ?_⟩
      · show cutA sl.a a sl.cap sz = _
        rw [cutA, if_neg (by omega), h4]; rfl
      · have e1 : cs.flatten = (cs.take a).flatten ++ (((cs.drop a).take (b - a)).flatten ++ ((cs.drop a).drop (b - a)).flatten) := by
          rw [← List.flatten_append, List.take_append_drop, ← List.flatten_append, List.take_append_drop]
        have e2 : (cs.take a).flatten.length = a * sz := by
          rw [(h1.take a).flat hsz, List.length_take]; congr 1; omega
        rw [e1] at h6 h7
        refine ⟨by rw [← e2]; exact h6.right.left, fun i hi => ?_⟩
        rw [addr_add_add, ← e2]
        exact h7 _ (by rw [List.length_append, List.length_append]; omega)

/-- A list that is being made at the head of a slice of one's own. -/
theorem Own.lst {α : Type} {R : α → List Value → Prop} {n₀ : Nat} {w : World} {s : Sl} {sz : Nat} {cs : List (List Value)} {l : List α} {S : Nat → Prop} (h : Own n₀ w s sz cs.flatten) (hl : allR R l cs) (hsz : ∀ x c, R x c → c.length = sz) (hz : 0 < sz) (hS : ∀ ad, s.a = some ad → S ad.block) :
    LstAt R w S s l := by
  have h1 := h.len
  rw [hl.flat hsz] at h1
  have h2 : l.length = s.len := Nat.eq_of_mul_eq_mul_right hz h1
  exact ⟨cs, hl, by rw [h2]; exact h.slAt hS⟩

end Go.Vc

/- Lists that a function builds. -/
namespace Go.Vc
open Go

def rng (lo hi : Nat) (k : Nat) : Prop := lo ≤ k ∧ k < hi

/-- How elements lie in memory. -/
structure Nice {α : Type} (R : World → (Nat → Prop) → α → List Value → Prop) (sz : Nat) : Prop where
  keep : ∀ {w w' : World} {S : Nat → Prop} {x : α} {c : List Value}, R w S x c → (∀ k, S k → w'.heap[k]? = w.heap[k]?) → R w' S x c
  mono : ∀ {w : World} {S S' : Nat → Prop} {x : α} {c : List Value}, R w S x c → (∀ k, S k → S' k) → R w S' x c
  size : ∀ {w : World} {S : Nat → Prop} {x : α} {c : List Value}, R w S x c → c.length = sz
  pos : 0 < sz

/-- A list under way: in blocks from n₀ on, its slice's block apart from its elements', and none of these. -/
def Bld {α : Type} (R : World → (Nat → Prop) → α → List Value → Prop) (n₀ : Nat) (w : World) (s : Sl) (sz : Nat) (l : List α) (B : List Nat) : Prop :=
  ∃ (S : Nat → Prop) (cs : List (List Value)), Own n₀ w s sz cs.flatten ∧ allR (R w S) l cs ∧ (∀ k, S k → rng n₀ w.heap.size k ∧ (∀ ad, s.a = some ad → ad.block ≠ k) ∧ k ∉ B) ∧ (∀ ad, s.a = some ad → ad.block ∉ B)

section
variable {α : Type} {R : World → (Nat → Prop) → α → List Value → Prop} {n₀ : Nat} {w w' : World} {s : Sl} {sz : Nat} {l : List α} {B : List Nat}

theorem Bld.nil (R : World → (Nat → Prop) → α → List Value → Prop) (n₀ : Nat) (w : World) (sz : Nat) (B : List Nat) : Bld R n₀ w ⟨none, 0, 0⟩ sz [] B :=
  ⟨fun _ => False, [], Own.nil _ _ _, trivial, fun _ h => h.elim, fun _ h => by cases h⟩
theorem Bld.own (h : Bld R n₀ w s sz l B) : ∃ cells, Own n₀ w s sz cells := by obtain ⟨S, cs, h1, _⟩ := h; exact ⟨_, h1⟩
theorem Bld.len (hR : Nice R sz) (h : Bld R n₀ w s sz l B) : s.len = l.length := by
  obtain ⟨S, cs, h1, h2, _⟩ := h
  have h3 := h1.len
  rw [h2.flat (fun _ _ => hR.size)] at h3
  exact (Nat.eq_of_mul_eq_mul_right hR.pos h3).symm
theorem Bld.ne (h : Bld R n₀ w s sz l B) {b : Nat} (hb : w.heap.size ≤ b) : ∀ ad, s.a = some ad → ad.block ≠ b := by
  obtain ⟨cells, h1⟩ := h.own; exact h1.ne hb
theorem Bld.neB (h : Bld R n₀ w s sz l B) {b : Nat} (hb : b ∈ B) : ∀ ad, s.a = some ad → ad.block ≠ b := by
  obtain ⟨S, cs, _, _, _, h4⟩ := h
  exact fun ad had e => h4 ad had (e ▸ hb)
/-- A step that leaves all blocks that were there, but for these. -/
theorem Bld.keep (hR : Nice R sz) (h : Bld R n₀ w s sz l B) (hk : ∀ k, k < w.heap.size → k ∉ B → w'.heap[k]? = w.heap[k]?) (hs : w.heap.size ≤ w'.heap.size) : Bld R n₀ w' s sz l B := by
  obtain ⟨S, cs, h1, h2, h3, h4⟩ := h
  refine ⟨S, cs, h1.keep fun ad had => hk _ (h1.lt had).1 (h4 ad had), h2.imp fun x c hx => hR.keep hx fun k hS => hk k (h3 k hS).1.2 (h3 k hS).2.2, fun k hS => ⟨⟨(h3 k hS).1.1, Nat.lt_of_lt_of_le (h3 k hS).1.2 hs⟩, (h3 k hS).2⟩, h4⟩
theorem Bld.grow (hR : Nice R sz) (h : Bld R n₀ w s sz l B) (hg : Grow w w') : Bld R n₀ w' s sz l B := h.keep hR (fun k hk _ => hg.block k hk) hg.size
theorem Bld.loc (hR : Nice R sz) {B' : List Nat} (h : Bld R n₀ w s sz l B) (hL : LocB B' w w') (hB : ∀ b, b ∈ B' → b ∈ B ∨ w.heap.size ≤ b) : Bld R n₀ w' s sz l B :=
  h.keep hR (fun k hk hn => hL.block k hk fun hb => (hB k hb).elim hn (fun e => by omega)) hL.size
theorem Bld.more (h : Bld R n₀ w s sz l B) {b : Nat} (hb : w.heap.size ≤ b) : Bld R n₀ w s sz l (b :: B) := by
  obtain ⟨S, cs, h1, h2, h3, h4⟩ := h
  refine ⟨S, cs, h1, h2, fun k hS => ⟨(h3 k hS).1, (h3 k hS).2.1, fun hm => ?_⟩, fun ad had hm => ?_⟩
  · rcases List.mem_cons.1 hm with e | e
    · have := (h3 k hS).1.2; omega
    · exact (h3 k hS).2.2 e
  · rcases List.mem_cons.1 hm with e | e
    · exact h1.ne hb ad had e
    · exact h4 ad had e
theorem Bld.less (h : Bld R n₀ w s sz l B) {B' : List Nat} (hB : ∀ b, b ∈ B' → b ∈ B) : Bld R n₀ w s sz l B' := by
  obtain ⟨S, cs, h1, h2, h3, h4⟩ := h
  exact ⟨S, cs, h1, h2, fun k hS => ⟨(h3 k hS).1, (h3 k hS).2.1, fun hm => (h3 k hS).2.2 (hB _ hm)⟩, fun ad had hm => h4 ad had (hB _ hm)⟩
theorem Bld.pre (h : Bld R n₀ w s sz l B) {bytes n : Nat} (hr : (2 * (s.len + n) + 1024) * bytes ≤ 281474976710656) : ∃ old, AppPre w s sz bytes n old ∧ ∃ (S : Nat → Prop) (cs : List (List Value)), old = cs.flatten ∧ Own n₀ w s sz cs.flatten ∧ allR (R w S) l cs ∧ (∀ k, S k → rng n₀ w.heap.size k ∧ (∀ ad, s.a = some ad → ad.block ≠ k) ∧ k ∉ B) ∧ (∀ ad, s.a = some ad → ad.block ∉ B) := by
  obtain ⟨S, cs, h1, h2, h3, h4⟩ := h
  exact ⟨_, h1.pre hr, S, cs, rfl, h1, h2, h3, h4⟩
/-- One more. -/
theorem Bld.push (hR : Nice R sz) {e : TypeId} {old c : List Value} {x : α} {s' : Sl} {S' : Nat → Prop}
    (h : ∃ (S : Nat → Prop) (cs : List (List Value)), old = cs.flatten ∧ Own n₀ w s sz cs.flatten ∧ allR (R w S) l cs ∧ (∀ k, S k → rng n₀ w.heap.size k ∧ (∀ ad, s.a = some ad → ad.block ≠ k) ∧ k ∉ B) ∧ (∀ ad, s.a = some ad → ad.block ∉ B))
    (hn : n₀ ≤ w.heap.size) (hB : ∀ b, b ∈ B → b < w.heap.size) (hx : R w S' x c) (hS' : ∀ k, S' k → rng n₀ w.heap.size k ∧ (∀ ad, s.a = some ad → ad.block ≠ k) ∧ k ∉ B) (hr : AppRes w s sz e c 1 old s' w') :
    Bld R n₀ w' s' sz (l ++ [x]) B ∧ Grown1 n₀ w w' s s' ∧ s'.len = s.len + 1 := by
  obtain ⟨S, cs, rfl, h1, h2, h3, h4⟩ := h
  obtain ⟨hO, hG, hl⟩ := h1.res hn (by rw [hR.size hx]; omega) hr
  refine ⟨⟨fun k => S k ∨ S' k, cs ++ [c], by simpa using hO, ?_, ?_, ?_⟩, hG, hl⟩
  · refine allR.snoc (hR.mono (hR.keep hx fun k hk => hG.keep k (hS' k hk).1.2 (hS' k hk).2.1) fun k hk => .inr hk) (h2.imp fun x c hx => hR.mono (hR.keep hx fun k hk => hG.keep k (h3 k hk).1.2 (h3 k hk).2.1) fun k hk => .inl hk)
  · have both : ∀ k, S k ∨ S' k → rng n₀ w.heap.size k ∧ (∀ ad, s.a = some ad → ad.block ≠ k) ∧ k ∉ B := fun k hk => hk.elim (h3 k) (hS' k)
    intro k hk
    obtain ⟨g1, g2, g3⟩ := both k hk
    refine ⟨⟨g1.1, Nat.lt_of_lt_of_le g1.2 hG.size⟩, fun ad had => ?_, g3⟩
    rcases hG.at_ ad had with e | e
    · exact g2 ad e
    · have := g1.2; omega
  · intro ad had hm
    rcases hG.at_ ad had with e | e
    · exact h4 ad e hm
    · have := hB _ hm; omega
/-- What it is in the end. -/
theorem Bld.lst (hR : Nice R sz) (h : Bld R n₀ w s sz l B) : LstAt (R w (rng n₀ w.heap.size)) w (rng n₀ w.heap.size) s l := by
  obtain ⟨S, cs, h1, h2, h3, h4⟩ := h
  exact h1.lst (h2.imp fun x c hx => hR.mono hx fun k hk => (h3 k hk).1) (fun _ _ => hR.size) hR.pos fun ad had => ⟨(h1.lt had).2, (h1.lt had).1⟩
end

end Go.Vc
namespace Go.Vc
open Go
theorem Grow.loc {a b c : World} {B : List Nat} (h : Grow a b) (hL : LocB B b c) (hB : ∀ k, k ∈ B → a.heap.size ≤ k) : Grow a c := h.and (hL.below h.size hB)
theorem rng.sub {a b c d k : Nat} (h : rng a b k) (h1 : c ≤ a) (h2 : b ≤ d) : rng c d k := ⟨Nat.le_trans h1 h.1, Nat.lt_of_lt_of_le h.2 h2⟩
end Go.Vc

/- Lists under way: one element read, one cell of it written. -/
namespace Go.Vc
open Go

theorem allR.append {α : Type} {R : α → List Value → Prop} : ∀ {l m : List α} {cs ds : List (List Value)}, allR R l cs → allR R m ds → allR R (l ++ m) (cs ++ ds)
  | [], _, [], _, _, h => h
  | _ :: _, _, _ :: _, _, h, k => ⟨h.1, allR.append h.2 k⟩
theorem allR.split {α : Type} {R : α → List Value → Prop} : ∀ {l : List α} {cs : List (List Value)} (i : Nat) (hi : i < l.length), allR R l cs →
    ∃ xs c ys, cs = xs ++ c :: ys ∧ xs.length = i ∧ R l[i] c ∧ allR R (l.take i) xs ∧ allR R (l.drop (i + 1)) ys
  | [], _, _, hi, _ => by simp at hi
  | x :: l, c :: cs, 0, _, h => ⟨[], c, cs, rfl, rfl, h.1, trivial, h.2⟩
  | x :: l, c :: cs, i + 1, hi, h => by
    obtain ⟨xs, d, ys, h1, h2, h3, h4, h5⟩ := allR.split i (by simpa using hi) h.2
    exact ⟨c :: xs, d, ys, by rw [h1]; rfl, by rw [List.length_cons, h2], by simpa using h3, ⟨h.1, h4⟩, h5⟩

theorem Own.write {n₀ : Nat} {w : World} {s : Sl} {sz : Nat} {cells : List Value} (h : Own n₀ w s sz cells) {ad : Addr} (ha : s.a = some ad) {i : Nat} (hi : i < cells.length) (v : Value) :
    Own n₀ (setCells w (ad.add i) [v]) s sz (cells.set i v) ∧ StoreOk w (ad.add i) 1 := by
  rcases h.base with ⟨h1, _⟩ | ⟨g, e, c, h1, h2, h3, h4, h5⟩
  · rw [h1] at ha; cases ha
  rw [h1] at ha
  cases ha
  rw [addr_add, Nat.zero_add]
  have hic : i < c.size := by
    have := h5 i cells[i] (List.getElem?_eq_getElem hi)
    rcases Nat.lt_or_ge i c.size with h' | h'
    · exact h'
    · rw [Array.getElem?_eq_none h'] at this; cases this
  have hb : (setCells w ⟨g, i, none⟩ [v]).heap[g]? = some (.cells (c.setIfInBounds i v) e (0, 0)) := by
    rw [setCells, setCellsFrom, setCellsFrom, addr_add, Nat.add_zero]
    exact heap_setCell_same h3
  refine ⟨⟨by rw [List.length_set]; exact h.len, h.le, .inr ⟨g, e, _, h1, h2, hb, by simpa using h4, fun j u hj => ?_⟩⟩, fun j hj => ?_⟩
  · rw [Array.getElem?_setIfInBounds]
    rw [List.getElem?_set] at hj
    by_cases hij : i = j
    · subst hij
      rw [if_pos rfl, if_pos hi] at hj
      rw [if_pos rfl, if_pos hic]
      exact hj
    · rw [if_neg hij] at hj ⊢
      exact h5 j u hj
  · have hj0 : j = 0 := by omega
    subst hj0
    rw [addr_add]
    refine ⟨⟨c[i], ?_⟩, by simp [World.frozen?, h3]⟩
    simp [World.cell?, h3, hic]

section
variable {α : Type} {R : World → (Nat → Prop) → α → List Value → Prop} {n₀ : Nat} {w w' : World} {s : Sl} {sz : Nat} {l : List α} {B : List Nat}

/-- One element, and one cell of it written. -/
theorem Bld.cell (hR : Nice R sz) (h : Bld R n₀ w s sz l B) (i : Nat) (hi : i < l.length) : ∃ (ad : Addr) (S : Nat → Prop) (c : List Value), s.a = some ad ∧ ad.block ∉ B ∧ rng n₀ w.heap.size ad.block ∧ R w S l[i] c ∧ (∀ k, S k → rng n₀ w.heap.size k ∧ ad.block ≠ k ∧ k ∉ B) ∧ CellsAt w (ad.add (i * sz)) c ∧
    ∀ (off : Nat) (v : Value) (x' : α) (S' : Nat → Prop), off < sz → (∀ k, S' k → rng n₀ w.heap.size k ∧ ad.block ≠ k ∧ k ∉ B) → R w S' x' (c.set off v) → StoreOk w ((ad.add (i * sz)).add off) 1 ∧ Bld R n₀ (setCells w ((ad.add (i * sz)).add off) [v]) s sz (l.set i x') B := by
  obtain ⟨S, cs, h1, h2, h3, h4⟩ := h
  obtain ⟨xs, c, ys, rfl, hxl, hc, hx, hy⟩ := allR.split i hi h2
  have hXl : xs.flatten.length = i * sz := by
    rw [hx.flat (fun _ _ => hR.size), List.length_take]; congr 1; omega
  have hcl := hR.size hc
  have hfl : (xs ++ c :: ys).flatten = xs.flatten ++ (c ++ ys.flatten) := by simp
  obtain ⟨ad, had⟩ : ∃ ad, s.a = some ad := by
    rcases h1.base with ⟨_, _, h⟩ | ⟨g, _, _, h, _⟩
    · have : (xs ++ c :: ys).flatten.length = 0 := by rw [h]; rfl
      rw [hfl, List.length_append, List.length_append, hcl] at this
      have hp := hR.pos
      omega
    · exact ⟨_, h⟩
  have hlt := h1.lt had
  refine ⟨ad, S, c, had, h4 ad had, ⟨hlt.2, hlt.1⟩, hc, fun k hk => ⟨(h3 k hk).1, (h3 k hk).2.1 ad had, (h3 k hk).2.2⟩, ?_, ?_⟩
  · have := h1.cells.some ad had
    rw [hfl] at this
    rw [← hXl]
    exact this.right.left
  · intro off v x' S' ho hS' hx'
    rw [addr_add_add]
    have hlen : i * sz + off < (xs ++ c :: ys).flatten.length := by
      rw [hfl, List.length_append, List.length_append]; omega
    obtain ⟨hO, hst⟩ := h1.write had hlen v
    have hset : ((xs ++ c :: ys).flatten).set (i * sz + off) v = (xs ++ c.set off v :: ys).flatten := by
      rw [hfl, List.set_append_right _ _ (by omega), hXl, Nat.add_sub_cancel_left, List.set_append_left _ _ (by omega)]
      simp
    rw [hset] at hO
    have hkeep : ∀ k, ad.block ≠ k → (setCells w (ad.add (i * sz + off)) [v]).heap[k]? = w.heap[k]? := fun k hk => setCellsFrom_other _ k (by rw [add_block]; exact fun e => hk e.symm) _ _ _
    have hsz : (setCells w (ad.add (i * sz + off)) [v]).heap.size = w.heap.size := (setCellsFrom_env _ _ _ _).2.2.2
    have hls : l.set i x' = l.take i ++ x' :: l.drop (i + 1) := by
      rw [List.set_eq_take_append_cons_drop, if_pos hi]
    refine ⟨hst, fun k => S k ∨ S' k, _, hO, ?_, fun k hk => ?_, h4⟩
    · rw [hls]
      have hold : ∀ x d, R w S x d → R (setCells w (ad.add (i * sz + off)) [v]) (fun k => S k ∨ S' k) x d := fun x d hd => hR.mono (hR.keep hd fun k hk => hkeep k ((h3 k hk).2.1 ad had)) fun k hk => .inl hk
      exact (hx.imp hold).append ⟨hR.mono (hR.keep hx' fun k hk => hkeep k (hS' k hk).2.1) fun k hk => .inr hk, hy.imp hold⟩
    · rw [hsz]
      rcases hk with hk | hk
      · exact h3 k hk
      · exact ⟨(hS' k hk).1, fun ad' had' => by rw [had] at had'; cases had'; exact (hS' k hk).2.1, (hS' k hk).2.2⟩
end

end Go.Vc

/- Plain models: pipelines, and how they lie in memory. -/
namespace Go.Vc.M
open Go Go.Vc

structure ArgM where
  kind : Int
  name : Bytes
  path : List Bytes
  int : Int
  text : Bytes
structure CallM where
  name : Bytes
  args : List ArgM

def strR (p : Bytes) (c : List Value) : Prop := c = [.string (bs p)]
def argR (w : World) (S : Nat → Prop) (x : ArgM) (c : List Value) : Prop :=
  ∃ sl : Sl, c = [.int .i64 x.kind, .string (bs x.name), .slice sl.a sl.len sl.cap, .int .i64 x.int, .string (bs x.text)] ∧ LstAt strR w S sl x.path
def callR (w : World) (S : Nat → Prop) (x : CallM) (c : List Value) : Prop :=
  ∃ sl : Sl, c = [.string (bs x.name), .slice sl.a sl.len sl.cap] ∧ LstAt (argR w S) w S sl x.args
def wR (x : W) (c : List Value) : Prop := c = wV x

theorem argR.keep {w w' : World} {S : Nat → Prop} {x : ArgM} {c : List Value} (h : argR w S x c) (hk : ∀ k, S k → w'.heap[k]? = w.heap[k]?) : argR w' S x c := by
  obtain ⟨sl, h1, h2⟩ := h; exact ⟨sl, h1, h2.keep (fun _ _ h => h) hk⟩
theorem argR.mono {w : World} {S S' : Nat → Prop} {x : ArgM} {c : List Value} (h : argR w S x c) (hk : ∀ k, S k → S' k) : argR w S' x c := by
  obtain ⟨sl, h1, h2⟩ := h; exact ⟨sl, h1, h2.mono (fun _ _ h => h) hk⟩
theorem callR.keep {w w' : World} {S : Nat → Prop} {x : CallM} {c : List Value} (h : callR w S x c) (hk : ∀ k, S k → w'.heap[k]? = w.heap[k]?) : callR w' S x c := by
  obtain ⟨sl, h1, h2⟩ := h; exact ⟨sl, h1, h2.keep (fun _ _ h => h.keep hk) hk⟩
theorem callR.mono {w : World} {S S' : Nat → Prop} {x : CallM} {c : List Value} (h : callR w S x c) (hk : ∀ k, S k → S' k) : callR w S' x c := by
  obtain ⟨sl, h1, h2⟩ := h; exact ⟨sl, h1, h2.mono (fun _ _ h => h.mono hk) hk⟩
theorem argR.size (w : World) (S : Nat → Prop) (x : ArgM) (c : List Value) (h : argR w S x c) : c.length = 5 := by obtain ⟨sl, rfl, _⟩ := h; rfl
theorem callR.size (w : World) (S : Nat → Prop) (x : CallM) (c : List Value) (h : callR w S x c) : c.length = 2 := by obtain ⟨sl, rfl, _⟩ := h; rfl
theorem strR.size (x : Bytes) (c : List Value) (h : strR x c) : c.length = 1 := by rw [h]; rfl
theorem wR.size (x : W) (c : List Value) (h : wR x c) : c.length = 3 := by rw [h]; rfl
theorem wsV_eq (l : List W) : wsV l = (l.map wV).flatten := by rw [wsV, List.flatMap_def]
theorem allR_map (l : List W) : allR wR l (l.map wV) := by
  induction l with
  | nil => trivial
  | cons x l ih => exact ⟨rfl, ih⟩
/-- Words in memory. -/
theorem Own.words {n₀ : Nat} {w : World} {s : Sl} {l : List W} {S : Nat → Prop} (h : Own n₀ w s 3 (wsV l)) (hS : ∀ ad, s.a = some ad → S ad.block) : LstAt wR w S s l :=
  Own.lst (by rw [← wsV_eq]; exact h) (allR_map l) wR.size (by omega) hS

/-- How many arguments a function has. -/
def arity (s : Bytes) : Int × Int × Bool :=
  if s = [108, 101, 110] ∨ s = [110, 111, 116] ∨ s = [117, 112, 112, 101, 114] ∨ s = [108, 111, 119, 101, 114] then (1, 1, true)
  else if s = [101, 113] ∨ s = [108, 116] ∨ s = [97, 110, 100] ∨ s = [111, 114] ∨ s = [106, 111, 105, 110] ∨ s = [100, 101, 102, 97, 117, 108, 116] ∨ s = [105, 110, 100, 101, 120] then (2, 2, true)
  else if s = [112, 114, 105, 110, 116] then (1, 8, true)
  else (0, 0, false)
def constB (s : Bytes) : Bool := decide (s = [116, 114, 117, 101] ∨ s = [102, 97, 108, 115, 101] ∨ s = [110, 105, 108])

def pathF : Bytes → Bool → List Bytes → Bytes → List Bytes
  | [], _, out, now => if now = [] then out else out ++ [now]
  | c :: r, first, out, now => if c.toNat = 46 then pathF r false (if first = true then out else out ++ [now]) [] else pathF r false out (now ++ [c])
def pathM (s : Bytes) : List Bytes × Int := if 16 < (pathF s true [] []).length then ([], 42) else (pathF s true [] [], 0)

def notDot (c : UInt8) : Bool := !decide (c.toNat = 46)
def headLen (t : Bytes) : Nat := 1 + spanL notDot (t.drop 1)
/-- A word as an argument. -/
def argM (x : W) : ArgM × Int :=
  if x.kind = 1 then
    (if x.text = [116, 114, 117, 101] then (⟨5, [], [], 0, []⟩, 0)
    else if x.text = [102, 97, 108, 115, 101] then (⟨6, [], [], 0, []⟩, 0)
    else if x.text = [110, 105, 108] then (⟨7, [], [], 0, []⟩, 0)
    else (⟨0, [], [], 0, []⟩, 33))
  else if x.kind = 2 then (⟨1, [], (pathM x.text).1, 0, []⟩, (pathM x.text).2)
  else if x.kind = 3 then (⟨2, (x.text.take (headLen x.text)).drop 1, (pathM (x.text.drop (headLen x.text))).1, 0, []⟩, (pathM (x.text.drop (headLen x.text))).2)
  else if x.kind = 4 then (⟨3, [], [], (parseNum x.text).1, []⟩, 0)
  else if x.kind = 5 then (⟨4, [], [], 0, x.text⟩, 0)
  else (⟨0, [], [], 0, []⟩, 33)

/-- Words as arguments; an error's place and it. -/
def argsM : List W → List ArgM → List ArgM × Int × Int
  | [], acc => (acc, 0, 0)
  | x :: r, acc => if (argM x).2 ≠ 0 then ([], x.at_, (argM x).2) else argsM r (acc ++ [(argM x).1])
def bump (ahead : Bool) (n : Nat) : Int := if ahead = true then (n : Int) + 1 else n
def callM (l : List W) (ahead : Bool) : CallM × Int × Int :=
  match l with
  | [] => (⟨[], []⟩, 0, 33)
  | x :: r =>
    if x.kind ≠ 1 ∨ constB x.text = true then
      if ahead = true then (⟨[], []⟩, x.at_, 33)
      else if (argM x).2 ≠ 0 then (⟨[], []⟩, x.at_, (argM x).2)
      else match r with
        | y :: _ => (⟨[], []⟩, y.at_, 33)
        | [] => (⟨[], [(argM x).1]⟩, 0, 0)
    else if (arity x.text).2.2 = false then (⟨[], []⟩, x.at_, 31)
    else if (argsM r []).2.2 ≠ 0 then (⟨[], []⟩, (argsM r []).2.1, (argsM r []).2.2)
    else if bump ahead (argsM r []).1.length < (arity x.text).1 ∨ (arity x.text).2.1 < bump ahead (argsM r []).1.length then (⟨[], []⟩, x.at_, 3)
    else (⟨x.text, (argsM r []).1⟩, 0, 0)

theorem callM_cons (x : W) (r : List W) (ahead : Bool) : callM (x :: r) ahead =
    if x.kind ≠ 1 ∨ constB x.text = true then
      if ahead = true then (⟨[], []⟩, x.at_, 33)
      else if (argM x).2 ≠ 0 then (⟨[], []⟩, x.at_, (argM x).2)
      else match r with
        | y :: _ => (⟨[], []⟩, y.at_, 33)
        | [] => (⟨[], [(argM x).1]⟩, 0, 0)
    else if (arity x.text).2.2 = false then (⟨[], []⟩, x.at_, 31)
    else if (argsM r []).2.2 ≠ 0 then (⟨[], []⟩, (argsM r []).2.1, (argsM r []).2.2)
    else if bump ahead (argsM r []).1.length < (arity x.text).1 ∨ (arity x.text).2.1 < bump ahead (argsM r []).1.length then (⟨[], []⟩, x.at_, 3)
    else (⟨x.text, (argsM r []).1⟩, 0, 0) := by
  cases r <;> rfl

def spanW : List W → Nat
  | [] => 0
  | x :: r => if x.kind = 6 then 0 else spanW r + 1
def headAt : List W → Int
  | [] => 0
  | x :: _ => x.at_
def pipeF (at_ : Int) : Nat → List W → List CallM → List CallM × Int × Int
  | 0, _, _ => ([], at_, 33)
  | f + 1, l, out =>
    if spanW l = 0 then ([], headAt l, 33)
    else if (callM (l.take (spanW l)) (decide (0 < out.length))).2.2 ≠ 0 then ([], (callM (l.take (spanW l)) (decide (0 < out.length))).2.1, (callM (l.take (spanW l)) (decide (0 < out.length))).2.2)
    else if out.length = 16 then ([], headAt l, 3)
    else match l.drop (spanW l) with
      | [] => (out ++ [(callM (l.take (spanW l)) (decide (0 < out.length))).1], at_, 0)
      | x :: r => if x.text ≠ [124] then ([], x.at_, 33) else if r = [] then ([], at_, 33) else pipeF at_ f r (out ++ [(callM (l.take (spanW l)) (decide (0 < out.length))).1])
/-- Words as a pipeline. -/
def pipeM (l : List W) (at_ : Int) : List CallM × Int × Int := if l = [] then ([], at_, 8) else pipeF at_ l.length l []

theorem spanW_le : ∀ l : List W, spanW l ≤ l.length
  | [] => Nat.le_refl _
  | x :: r => by
    rw [spanW]; split
    · omega
    · have := spanW_le r; rw [List.length_cons]; omega

end Go.Vc.M
namespace Go.Vc.M
open Go Go.Vc
theorem niceStr : Nice (fun _ _ => strR) 1 := ⟨fun h _ => h, fun h _ => h, fun h => strR.size _ _ h, by omega⟩
theorem niceArg : Nice argR 5 := ⟨fun h hk => h.keep hk, fun h hk => h.mono hk, fun h => argR.size _ _ _ _ h, by omega⟩
theorem niceCall : Nice callR 2 := ⟨fun h hk => h.keep hk, fun h hk => h.mono hk, fun h => callR.size _ _ _ _ h, by omega⟩
theorem pathF_len : ∀ (s : Bytes) (f : Bool) (out : List Bytes) (now : Bytes), (pathF s f out now).length ≤ out.length + s.length + 1
  | [], _, out, now => by rw [pathF]; split <;> simp
  | c :: r, f, out, now => by
    rw [pathF]
    split
    · refine Nat.le_trans (pathF_len r _ _ _) ?_
      split <;> (simp; try omega)
    · refine Nat.le_trans (pathF_len r _ _ _) ?_
      simp; try omega
end Go.Vc.M
namespace Go.Vc.M
open Go Go.Vc
/-- What every word keeps. -/
def WOk (x : W) : Prop := x.text.length ≤ 1099511627776 ∧ (x.kind = 3 → x.text ≠ [])
/-- Words are there to be read. -/
theorem words_read {w : World} {S : Nat → Prop} {l : Sl} {ls : List W} (hl : LstAt wR w S l ls) (hS : ∀ k, S k → k < w.heap.size) {w' : World} (hg : Grow w w') (i : Nat) (hi : i < ls.length) :
    ∃ ad, l.a = some ad ∧ ad.block < w.heap.size ∧ CellsAt w' (ad.add (i * 3)) [.int .i64 ls[i].kind, .string (bs ls[i].text), .int .i64 ls[i].at_] ∧ CellsAt w' (ad.add (i * 3)) [.int .i64 ls[i].kind] ∧ CellsAt w' ((ad.add (i * 3)).add 1) [.string (bs ls[i].text)] ∧ CellsAt w' ((ad.add (i * 3)).add 2) [.int .i64 ls[i].at_] := by
  obtain ⟨ad, c, h1, h2, h3, h4⟩ := hl.get wR.size i hi
  have h5 := hS _ h2
  cases h3
  have h6 := h4.keep (w' := w') (by rw [add_block]; exact hg.block _ h5)
  refine ⟨ad, h1, h5, h6, ?_, ?_, ?_⟩
  · exact CellsAt.left (ys := [.string (bs ls[i].text), .int .i64 ls[i].at_]) h6
  · exact CellsAt.left (ys := [.int .i64 ls[i].at_]) (CellsAt.right (xs := [.int .i64 ls[i].kind]) (ys := [.string (bs ls[i].text), .int .i64 ls[i].at_]) h6)
  · exact CellsAt.right (xs := [.int .i64 ls[i].kind, .string (bs ls[i].text)]) (ys := [.int .i64 ls[i].at_]) h6
/-- A block of one's own, new. -/
theorem one_new {w w1 : World} {B : List Nat} {vs : List Value} {arr : Array Value} {e : TypeId} (ha : arr = vs.toArray) (hL : LocB B (w.alloc (.cells arr e)) w1) (hB : w.heap.size ∉ B) : CellsAt w1 ⟨w.heap.size, 0, none⟩ vs ∧ (∀ i, w1.frozen? ((⟨w.heap.size, 0, none⟩ : Addr).add i) = false) ∧ w.heap.size < w1.heap.size := by
  have hb : w1.heap[w.heap.size]? = some (.cells arr e (0, 0)) := by
    rw [hL.block _ (by show _ < (w.heap.push _).size; simp) hB]
    show (w.heap.push _)[w.heap.size]? = _
    simp
  refine ⟨CellsAt.of_block hb fun i v hi => by rw [ha]; simpa using hi, fun i => ?_, ?_⟩
  · rw [addr_add]; simp [World.frozen?, hb]
  · have h := hL.size
    have : (w.alloc (.cells arr e)).heap.size = w.heap.size + 1 := by show (w.heap.push _).size = _; simp
    omega
theorem grow_alloc (w : World) (o : Obj) : Grow w (w.alloc o) := by
  refine ⟨rfl, rfl, rfl, by show _ ≤ (w.heap.push _).size; simp, fun k hk => ?_⟩
  show (w.heap.push _)[k]? = _
  rw [Array.getElem?_push_lt hk]
  exact (Array.getElem?_eq_getElem hk).symm
end Go.Vc.M
namespace Go.Vc.M
open Go Go.Vc
theorem spanW_stop {l : List W} {k : Nat} (h : k < l.length) (hx : l[k].kind = 6) : spanW (l.drop k) = 0 := by
  rw [List.drop_eq_getElem_cons h, spanW, if_pos hx]
theorem spanW_go {l : List W} {k : Nat} (h : k < l.length) (hx : ¬ l[k].kind = 6) : spanW (l.drop k) = spanW (l.drop (k + 1)) + 1 := by
  rw [List.drop_eq_getElem_cons h, spanW, if_neg hx]
theorem headAt_drop {l : List W} {k : Nat} (h : k < l.length) : headAt (l.drop k) = l[k].at_ := by
  rw [List.drop_eq_getElem_cons h, headAt]
end Go.Vc.M

/- Plain models: trees, and the reader of templates. -/
namespace Go.Vc.M
open Go Go.Vc

structure Hd where
  kind : Int
  text : Bytes
  name : Bytes
  pipe : List CallM
  at_ : Int
  esc : Int
  unit : Int
inductive Node where
  | mk (h : Hd) (body els : List Node)
def Node.hd : Node → Hd
  | .mk h _ _ => h

mutual
def nodeR (w : World) (S : Nat → Prop) : Node → List Value → Prop
  | .mk h b e, c => ∃ slp slb sle : Sl, c = [.int .i64 h.kind, .string (bs h.text), .string (bs h.name), .slice slp.a slp.len slp.cap, .slice slb.a slb.len slb.cap, .slice sle.a sle.len sle.cap, .int .i64 h.at_, .int .i64 h.esc, .int .i64 h.unit] ∧
      LstAt (callR w S) w S slp h.pipe ∧ (∃ cs, nodesR w S b cs ∧ SlAt w S slb b.length cs.flatten) ∧ (∃ cs, nodesR w S e cs ∧ SlAt w S sle e.length cs.flatten)
def nodesR (w : World) (S : Nat → Prop) : List Node → List (List Value) → Prop
  | [], [] => True
  | x :: l, c :: cs => nodeR w S x c ∧ nodesR w S l cs
  | _, _ => False
end
theorem nodesR_eq (w : World) (S : Nat → Prop) : ∀ (l : List Node) (cs : List (List Value)), nodesR w S l cs ↔ allR (nodeR w S) l cs
  | [], [] => by simp [nodesR, allR]
  | [], _ :: _ => by simp [nodesR, allR]
  | _ :: _, [] => by simp [nodesR, allR]
  | x :: l, c :: cs => by simp [nodesR, allR, nodesR_eq w S l cs]
theorem nodesAt_eq (w : World) (S : Nat → Prop) (sl : Sl) (l : List Node) : (∃ cs, nodesR w S l cs ∧ SlAt w S sl l.length cs.flatten) ↔ LstAt (nodeR w S) w S sl l := by
  simp only [LstAt, nodesR_eq]
theorem nodeR_mk (w : World) (S : Nat → Prop) (h : Hd) (b e : List Node) (c : List Value) : nodeR w S (.mk h b e) c ↔ ∃ slp slb sle : Sl, c = [.int .i64 h.kind, .string (bs h.text), .string (bs h.name), .slice slp.a slp.len slp.cap, .slice slb.a slb.len slb.cap, .slice sle.a sle.len sle.cap, .int .i64 h.at_, .int .i64 h.esc, .int .i64 h.unit] ∧
      LstAt (callR w S) w S slp h.pipe ∧ LstAt (nodeR w S) w S slb b ∧ LstAt (nodeR w S) w S sle e := by
  rw [nodeR]
  simp only [nodesAt_eq]
mutual
theorem nodeR_move {w w' : World} {S S' : Nat → Prop} (hk : ∀ k, S k → w'.heap[k]? = w.heap[k]?) (hS : ∀ k, S k → S' k) : ∀ (x : Node) (c : List Value), nodeR w S x c → nodeR w' S' x c
  | .mk h b e, c, hx => by
    rw [nodeR] at hx ⊢
    obtain ⟨slp, slb, sle, h1, h2, ⟨cb, h3, h4⟩, ce, h5, h6⟩ := hx
    exact ⟨slp, slb, sle, h1, (h2.keep (fun _ _ h => h.keep hk) hk).mono (fun _ _ h => h.mono hS) hS, ⟨cb, nodesR_move hk hS b cb h3, (h4.keep hk).mono hS⟩, ce, nodesR_move hk hS e ce h5, (h6.keep hk).mono hS⟩
theorem nodesR_move {w w' : World} {S S' : Nat → Prop} (hk : ∀ k, S k → w'.heap[k]? = w.heap[k]?) (hS : ∀ k, S k → S' k) : ∀ (l : List Node) (cs : List (List Value)), nodesR w S l cs → nodesR w' S' l cs
  | [], [], _ => by rw [nodesR]; trivial
  | [], _ :: _, h => by simp [nodesR] at h
  | _ :: _, [], h => by simp [nodesR] at h
  | x :: l, c :: cs, h => by
    rw [nodesR] at h ⊢
    exact ⟨nodeR_move hk hS x c h.1, nodesR_move hk hS l cs h.2⟩
end
theorem nodeR_size {w : World} {S : Nat → Prop} {x : Node} {c : List Value} (h : nodeR w S x c) : c.length = 9 := by
  cases x with
  | mk hd b e => rw [nodeR] at h; obtain ⟨_, _, _, rfl, _⟩ := h; rfl
theorem niceNode : Nice nodeR 9 := ⟨fun h hk => nodeR_move hk (fun _ h => h) _ _ h, fun h hk => nodeR_move (fun _ _ => rfl) hk _ _ h, nodeR_size, by omega⟩

structure Def where
  name : Bytes
  body : List Node
def defR (w : World) (S : Nat → Prop) (x : Def) (c : List Value) : Prop := ∃ sl : Sl, c = [.string (bs x.name), .slice sl.a sl.len sl.cap] ∧ LstAt (nodeR w S) w S sl x.body
theorem niceDef : Nice defR 2 := ⟨fun h hk => by obtain ⟨sl, h1, h2⟩ := h; exact ⟨sl, h1, h2.keep (fun _ _ h => niceNode.keep h hk) hk⟩, fun h hk => by obtain ⟨sl, h1, h2⟩ := h; exact ⟨sl, h1, h2.mono (fun _ _ h => niceNode.mono h hk) hk⟩, fun h => by obtain ⟨sl, rfl, _⟩ := h; rfl, by omega⟩

/-- What the reader has before it and has made. -/
structure St where
  l : List W
  size : Nat
  defs : List Def
/-- An action's words. -/
structure Piece where
  words : List W
  head : Bytes
  at_ : Int
abbrev Res (α : Type) := Except (Int × Int) α

def wordsP (x : W) : Res Piece :=
  if (words x.text x.at_).2.2 ≠ 0 then .error ((words x.text x.at_).2.1, (words x.text x.at_).2.2)
  else match (words x.text x.at_).1 with
    | [] => .error (x.at_, 33)
    | y :: r => .ok ⟨y :: r, if y.kind = 1 then y.text else [], x.at_⟩
def countM (st : St) (at_ : Int) : Res St := if st.size = 1024 then .error (at_, 3) else .ok { st with size := st.size + 1 }
def pipeP (pc : Piece) (from_ : Nat) : Res (List CallM) :=
  if (pipeM (pc.words.drop from_) pc.at_).2.2 ≠ 0 then .error ((pipeM (pc.words.drop from_) pc.at_).2.1, (pipeM (pc.words.drop from_) pc.at_).2.2) else .ok (pipeM (pc.words.drop from_) pc.at_).1
def calledM (pc : Piece) : Res Bytes :=
  match pc.words with
  | _ :: y :: _ => if y.kind ≠ 5 then .error (pc.at_, 33) else if nameB y.text = false then .error (pc.at_, 31) else .ok y.text
  | _ => .error (pc.at_, 33)
def isSet (pc : Piece) : Option Bytes :=
  match pc.words with
  | x :: y :: _ => if x.kind = 3 ∧ y.kind = 6 ∧ y.text = [58, 61] then some (x.text.drop 1) else none
  | _ => none
/-- A node of one action, but for its count. -/
def singleP (pc : Piece) : Res Node :=
  if pc.head = [116, 101, 109, 112, 108, 97, 116, 101] then
    match calledM pc with
    | .error e => .error e
    | .ok s => if 2 < pc.words.length then
        match pipeP pc 2 with
        | .error e => .error e
        | .ok p => .ok (.mk ⟨6, [], s, p, pc.at_, 0, 0⟩ [] [])
      else .ok (.mk ⟨6, [], s, [], pc.at_, 0, 0⟩ [] [])
  else match isSet pc with
    | some s => if nameB s = false then .error (pc.at_, 33) else
        match pipeP pc 2 with
        | .error e => .error e
        | .ok p => .ok (.mk ⟨7, [], s, p, pc.at_, 0, 0⟩ [] [])
    | none =>
        match pipeP pc 0 with
        | .error e => .error e
        | .ok p => .ok (.mk ⟨2, [], [], p, pc.at_, 0, 0⟩ [] [])
def singleM (pc : Piece) (st : St) : Res (Node × St) :=
  match countM st pc.at_ with
  | .error e => .error e
  | .ok st1 => match singleP pc with
    | .error e => .error e
    | .ok n => .ok (n, st1)

def addText (l : List Node) (t : Bytes) : List Node :=
  match l.getLast? with
  | some (.mk h b e) => l.dropLast ++ [.mk { h with text := h.text ++ t } b e]
  | none => l
def lastText (l : List Node) : Bool :=
  match l.getLast? with
  | some (.mk h _ _) => decide (h.kind = 1)
  | none => false
def wEnd : Bytes := [101, 110, 100]
def wElse : Bytes := [101, 108, 115, 101]
def wIf : Bytes := [105, 102]
def wDefine : Bytes := [100, 101, 102, 105, 110, 101]
def wRange : Bytes := [114, 97, 110, 103, 101]
def wWith : Bytes := [119, 105, 116, 104]
def noPiece : Piece := ⟨[], [], 0⟩
def dup (l : List Def) (s : Bytes) : Bool := l.any fun d => decide (d.name = s)
def setBody (l : List Def) (k : Nat) (b : List Node) : List Def := match l[k]? with
  | some d => l.set k ⟨d.name, b⟩
  | none => l
/-- else, and what follows it: an if. -/
def elseIf (pc : Piece) : Res Bool :=
  match pc.words with
  | _ :: y :: _ => if y.kind ≠ 1 ∨ y.text ≠ wIf then .error (pc.at_, 33) else .ok true
  | _ => .ok false

mutual
def nodesF (len : Int) : Nat → Nat → St → List Node → Res (List Node × Piece × St)
  | 0, _, _, _ => .error (0, 0)
  | f + 1, deep, st, out =>
    match st.l with
    | [] => if 0 < deep then .error (len, 8) else .ok (out, noPiece, st)
    | x :: r =>
      if x.kind = 1 ∧ lastText out = true then nodesF len f deep { st with l := r } (addText out x.text)
      else if x.kind = 1 then
        match countM { st with l := r } x.at_ with
        | .error e => .error e
        | .ok st1 => nodesF len f deep st1 (out ++ [.mk ⟨1, x.text, [], [], x.at_, 0, 0⟩ [] []])
      else match wordsP x with
        | .error e => .error e
        | .ok pc =>
          if pc.head = wEnd ∨ pc.head = wElse then
            (if deep = 0 ∨ (pc.head = wEnd ∧ 1 < pc.words.length) then .error (pc.at_, 33) else .ok (out, pc, { st with l := r }))
          else if pc.head = wDefine then
            (if 0 < deep then .error (pc.at_, 33) else
              match defineF len f pc { st with l := r } with
              | .error e => .error e
              | .ok st1 => nodesF len f deep st1 out)
          else
            match (if pc.head = wIf then blockF len f 3 pc 1 deep { st with l := r }
              else if pc.head = wRange then blockF len f 4 pc 1 deep { st with l := r }
              else if pc.head = wWith then blockF len f 5 pc 1 deep { st with l := r }
              else singleM pc { st with l := r }) with
            | .error e => .error e
            | .ok (n, st1) => nodesF len f deep st1 (out ++ [n])
def blockF (len : Int) : Nat → Int → Piece → Nat → Nat → St → Res (Node × St)
  | 0, _, _, _, _, _ => .error (0, 0)
  | f + 1, kind, pc, from_, deep, st =>
    match countM st pc.at_ with
    | .error e => .error e
    | .ok st1 =>
      match pipeP pc from_ with
      | .error e => .error e
      | .ok pi =>
        if 16 ≤ deep then .error (pc.at_, 42) else
        match nodesF len f (deep + 1) st1 [] with
        | .error e => .error e
        | .ok (body, en, st2) =>
          if en.head = wElse then
            match elseIf en with
            | .error e => .error e
            | .ok true =>
              if 16 ≤ deep + 1 then .error (en.at_, 42) else
              match blockF len f 3 en 2 (deep + 1) st2 with
              | .error e => .error e
              | .ok (x, st3) => .ok (.mk ⟨kind, [], [], pi, pc.at_, 0, 0⟩ body [x], st3)
            | .ok false =>
              match nodesF len f (deep + 1) st2 [] with
              | .error e => .error e
              | .ok (els, en2, st3) => if en2.head ≠ wEnd then .error (en2.at_, 33) else .ok (.mk ⟨kind, [], [], pi, pc.at_, 0, 0⟩ body els, st3)
          else if en.head ≠ wEnd then .error (en.at_, 33) else .ok (.mk ⟨kind, [], [], pi, pc.at_, 0, 0⟩ body [], st2)
def defineF (len : Int) : Nat → Piece → St → Res St
  | 0, _, _ => .error (0, 0)
  | f + 1, pc, st =>
    match calledM pc with
    | .error e => .error e
    | .ok s =>
      if pc.words.length ≠ 2 then .error (pc.at_, 33)
      else if dup st.defs s = true then .error (pc.at_, 6)
      else match nodesF len f 1 { st with defs := st.defs ++ [⟨s, []⟩] } [] with
        | .error e => .error e
        | .ok (l, en, st1) => if en.head ≠ wEnd then .error (en.at_, 33) else .ok { st1 with defs := setBody st1.defs st.defs.length l }
end
/-- A text's templates; or where it is wrong, and how. -/
def parseM (s : Bytes) : List Def × Int × Int :=
  if (items s).2.2 ≠ 0 then ([], (items s).2.1, (items s).2.2)
  else match nodesF s.length (2 * (items s).1.length + 1) 0 ⟨(items s).1, 0, [⟨[], []⟩]⟩ [] with
    | .error e => ([], e.1, e.2)
    | .ok (out, _, st) => (setBody st.defs 0 out, s.length, 0)

end Go.Vc.M
namespace Go.Vc.M
open Go Go.Vc
theorem calledM_short (pc : Piece) (h : pc.words.length < 2) : calledM pc = .error (pc.at_, 33) := by
  obtain ⟨ws, hd, a⟩ := pc
  match ws, h with
  | [], _ => rfl
  | [_], _ => rfl
  | _ :: _ :: _, h => simp at h; omega
theorem calledM_long (pc : Piece) (h : 1 < pc.words.length) : calledM pc = if pc.words[1].kind ≠ 5 then .error (pc.at_, 33) else if nameB pc.words[1].text = false then .error (pc.at_, 31) else .ok pc.words[1].text := by
  obtain ⟨ws, hd, a⟩ := pc
  match ws, h with
  | [], h => simp at h
  | [_], h => simp at h
  | _ :: _ :: _, _ => rfl
theorem isSet_short (pc : Piece) (h : pc.words.length < 2) : isSet pc = none := by
  obtain ⟨ws, hd, a⟩ := pc
  match ws, h with
  | [], _ => rfl
  | [_], _ => rfl
  | _ :: _ :: _, h => simp at h; omega
theorem isSet_long (pc : Piece) (h : 1 < pc.words.length) : isSet pc = if pc.words[0].kind = 3 ∧ pc.words[1].kind = 6 ∧ pc.words[1].text = [58, 61] then some (pc.words[0].text.drop 1) else none := by
  obtain ⟨ws, hd, a⟩ := pc
  match ws, h with
  | [], h => simp at h
  | [_], h => simp at h
  | _ :: _ :: _, _ => rfl
theorem elseIf_short (pc : Piece) (h : pc.words.length < 2) : elseIf pc = .ok false := by
  obtain ⟨ws, hd, a⟩ := pc
  match ws, h with
  | [], _ => rfl
  | [_], _ => rfl
  | _ :: _ :: _, h => simp at h; omega
theorem elseIf_long (pc : Piece) (h : 1 < pc.words.length) : elseIf pc = if pc.words[1].kind ≠ 1 ∨ pc.words[1].text ≠ wIf then .error (pc.at_, 33) else .ok true := by
  obtain ⟨ws, hd, a⟩ := pc
  match ws, h with
  | [], h => simp at h
  | [_], h => simp at h
  | _ :: _ :: _, _ => rfl
end Go.Vc.M

/- Plain laws: words and pieces are small. -/
namespace Go.Vc.M
open Go Go.Vc

theorem strM_text (a : Int) : ∀ (n : Nat) (r : Bytes) (i : Int) (acc : Bytes), r.length ≤ n → (strM a r i acc).1.length ≤ acc.length + r.length
  | n, [], i, acc, _ => by rw [strM_nil]; simp
  | 0, c :: r, _, _, h => by simp at h
  | n + 1, c :: r, i, acc, h => by
    rw [strM_cons]
    rw [List.length_cons] at *
    split
    · split
      · simp
      · simp only; omega
    · split
      · simp
      · split
        · cases r with
          | nil => simp
          | cons d r' =>
            simp only
            split
            · have := strM_text a n r' (i + 2) (acc ++ [unesc d]) (by rw [List.length_cons] at h; omega)
              rw [List.length_append] at this
              rw [List.length_cons]
              simp at this
              omega
            · simp
        · have := strM_text a n r (i + 1) (acc ++ [c]) (by omega)
          rw [List.length_append] at this
          simp at this
          omega
theorem plainWord_kind (c : UInt8) (r : Bytes) : (plainWord c r).1 = 1 ∨ (plainWord c r).1 = 2 ∨ (plainWord c r).1 = 3 ∨ (plainWord c r).1 = 4 ∨ (plainWord c r).1 = 6 := by
  rw [plainWord]
  split
  · simp
  · split
    · split <;> simp
    · split
      · split <;> simp
      · split
        · simp
        · split
          · simp
          · split <;> simp
theorem wordAt_text (s : Bytes) (k : Nat) (hk : k < s.length) : (wordAt s k).text.length ≤ s.length ∧ ((wordAt s k).err = 0 → (wordAt s k).kind = 3 → (wordAt s k).text ≠ []) := by
  have hd : s.drop k = s[k] :: s.drop (k + 1) := drop_cons hk
  have hl : (s.drop (k + 1)).length = s.length - (k + 1) := List.length_drop
  rw [wordAt, hd]
  simp only
  split
  · have := strM_text k _ (s.drop (k + 1)) (k + 1) [] (Nat.le_refl _)
    simp at this
    exact ⟨by simp only; omega, fun _ h => absurd h (by simp)⟩
  · split
    · rename_i h; exact ⟨by simp, fun e => absurd e h⟩
    · rename_i h
      have h1 := plainWord_pos s[k] (s.drop (k + 1)) (by simpa using h)
      refine ⟨by simp only [List.length_take, List.length_cons]; omega, fun _ _ e => ?_⟩
      simp only at e
      obtain ⟨m, hm⟩ : ∃ m, (plainWord s[k] (s.drop (k + 1))).2.1 = m + 1 := ⟨_, (Nat.succ_pred_eq_of_pos h1).symm⟩
      rw [hm, List.take_succ_cons] at e
      cases e
theorem wordsF_ok (s : Bytes) (base : Int) (hs : s.length ≤ 1099511627776) : ∀ (f k : Nat) (acc : List W), (∀ x ∈ acc, WOk x) → acc.length ≤ k → k ≤ s.length →
    (∀ x ∈ (wordsF s base f k acc).1, WOk x) ∧ (wordsF s base f k acc).1.length ≤ s.length
  | 0, k, acc, h, hl, hk => by rw [wordsF]; exact ⟨h, by simp only; omega⟩
  | f + 1, k, acc, h, hl, hk => by
    rw [wordsF]
    split
    · rename_i hlt
      have h1 := wordAt_ok s k hlt
      have h2 := wordAt_text s k hlt
      simp only
      split
      · exact ⟨by simp, by simp⟩
      · rename_i he
        obtain ⟨m, hm1, hm2, hm3⟩ := h1.1 (by simpa using he)
        have h3 := spanL_drop_le blankB s m hm3
        rw [hm1, Int.toNat_natCast]
        refine wordsF_ok s base hs f _ _ ?_ ?_ h3
        · intro x hx
          rcases List.mem_append.1 hx with hx | hx
          · exact h x hx
          · simp at hx
            subst hx
            exact ⟨by show (wordAt s k).text.length ≤ _; omega, h2.2 (by simpa using he)⟩
        · simp; omega
    · exact ⟨h, by simp only; omega⟩
theorem words_ok (s : Bytes) (base : Int) (hs : s.length ≤ 1099511627776) : (∀ x ∈ (words s base).1, WOk x) ∧ (words s base).1.length ≤ s.length := by
  rw [words]
  exact wordsF_ok s base hs _ _ _ (by simp) (by simp) (spanL_le _ _)
/-- What holds of every piece of words. -/
structure POk (pc : Piece) : Prop where
  ne : pc.words ≠ []
  ok : ∀ x ∈ pc.words, WOk x
  len : pc.words.length ≤ 1099511627776
theorem wordsP_ok {x : W} (hs : x.text.length ≤ 1099511627776) {pc : Piece} (h : wordsP x = .ok pc) : POk pc ∧ pc.at_ = x.at_ := by
  rw [wordsP] at h
  split at h
  · cases h
  · split at h
    · cases h
    · rename_i y r hw
      cases h
      have := words_ok x.text x.at_ hs
      rw [hw] at this
      exact ⟨⟨by simp, this.1, Nat.le_trans this.2 hs⟩, rfl⟩

end Go.Vc.M

/- Plain laws: what the reader leaves of its pieces. -/
namespace Go.Vc.M
open Go Go.Vc

theorem countM_ok {st st1 : St} {a : Int} (h : countM st a = .ok st1) : st1.l = st.l ∧ st1.defs = st.defs := by
  rw [countM] at h
  split at h
  · cases h
  · cases h; exact ⟨rfl, rfl⟩
theorem singleP_text {pc : Piece} {n : Node} (h : singleP pc = .ok n) : n.hd.text = [] := by
  rw [singleP] at h
  repeat' (split at h)
  all_goals first | (cases h; done) | (cases h; rfl)
theorem singleM_ok {st st1 : St} {pc : Piece} {n : Node} (h : singleM pc st = .ok (n, st1)) : st1.l = st.l ∧ st1.defs = st.defs ∧ n.hd.text = [] := by
  rw [singleM] at h
  split at h
  · cases h
  · rename_i st2 h2
    split at h
    · cases h
    · rename_i n2 h3
      cases h
      exact ⟨(countM_ok h2).1, (countM_ok h2).2, singleP_text h3⟩

theorem setBody_len (l : List Def) (k : Nat) (b : List Node) : (setBody l k b).length = l.length := by
  rw [setBody]; split <;> simp
theorem addText_snoc (init : List Node) (h : Hd) (b e : List Node) (t : Bytes) : addText (init ++ [.mk h b e]) t = init ++ [.mk { h with text := h.text ++ t } b e] := by simp [addText]
theorem lastText_snoc (init : List Node) (h : Hd) (b e : List Node) : lastText (init ++ [.mk h b e]) = decide (h.kind = 1) := by simp [lastText]

structure NL (len : Int) (f : Nat) : Prop where
  n : ∀ deep st out l en st', nodesF len f deep st out = .ok (l, en, st') → (st'.l <:+ st.l ∧ st.defs.length ≤ st'.defs.length) ∧ (0 < deep → st'.defs = st.defs ∧ st'.l.length < st.l.length ∧ ∃ x, x ∈ st.l ∧ wordsP x = .ok en)
  b : ∀ kind pc from_ deep st n st', blockF len f kind pc from_ deep st = .ok (n, st') → st'.l <:+ st.l ∧ st'.defs = st.defs ∧ n.hd.text = []
  d : ∀ pc st st', defineF len f pc st = .ok st' → st'.l <:+ st.l ∧ st'.defs.length = st.defs.length + 1

theorem NL.zero (len : Int) : NL len 0 := ⟨(fun _ _ _ _ _ _ h => by rw [nodesF] at h; cases h), (fun _ _ _ _ _ _ _ h => by rw [blockF] at h; cases h), (fun _ _ _ h => by rw [defineF] at h; cases h)⟩

theorem NL.succ {len : Int} {f : Nat} (ih : NL len f) : NL len (f + 1) := by
  refine ⟨fun deep st out l en st' h => ?_, fun kind pc from_ deep st n st' h => ?_, fun pc st st' h => ?_⟩
  · rw [nodesF] at h
    have go : ∀ (x : W) (r : List W) (st1 : St) (out1 : List Node), st.l = x :: r → (st1.l <:+ r ∧ st.defs.length ≤ st1.defs.length) → (0 < deep → st1.defs = st.defs) → nodesF len f deep st1 out1 = .ok (l, en, st') → (st'.l <:+ st.l ∧ st.defs.length ≤ st'.defs.length) ∧ (0 < deep → st'.defs = st.defs ∧ st'.l.length < st.l.length ∧ ∃ x, x ∈ st.l ∧ wordsP x = .ok en) := by
      intro x r st1 out1 hl ⟨h1, hdl⟩ hd h2
      obtain ⟨⟨g1, g3⟩, g2⟩ := ih.n _ _ _ _ _ _ h2
      have h3 := h1.trans (List.suffix_cons x r)
      refine ⟨⟨by rw [hl]; exact g1.trans h3, Nat.le_trans hdl g3⟩, fun hp => ?_⟩
      obtain ⟨k1, k2, y, k3, k4⟩ := g2 hp
      refine ⟨k1.trans (hd hp), ?_, y, ?_, k4⟩
      · have := h1.length_le
        rw [hl, List.length_cons]; omega
      · rw [hl]; exact h3.subset k3
    split at h
    · split at h
      · cases h
      · rename_i hl hd
        cases h
        exact ⟨⟨List.suffix_refl _, Nat.le_refl _⟩, fun h => absurd h hd⟩
    · rename_i x r hl
      split at h
      · exact go x r { st with l := r } _ hl ⟨List.suffix_refl _, Nat.le_refl _⟩ (fun _ => rfl) h
      · split at h
        · split at h
          · cases h
          · rename_i st1 hc
            obtain ⟨c1, c2⟩ := countM_ok hc
            exact go x r _ _ hl ⟨by rw [c1]; exact List.suffix_refl _, by rw [c2]; exact Nat.le_refl _⟩ (fun _ => c2) h
        · split at h
          · cases h
          · rename_i pc hw
            split at h
            · split at h
              · cases h
              · cases h
                rw [hl]
                exact ⟨⟨List.suffix_cons x r, Nat.le_refl _⟩, fun _ => ⟨rfl, by simp, x, by simp, hw⟩⟩
            · split at h
              · split at h
                · cases h
                · rename_i hd
                  split at h
                  · cases h
                  · rename_i st1 hc
                    exact go x r _ _ hl ⟨(ih.d _ _ _ hc).1, by rw [(ih.d _ _ _ hc).2]; exact Nat.le_succ _⟩ (fun hp => absurd hp hd) h
              · split at h
                · cases h
                · rename_i n st1 hc
                  have hst : st1.l <:+ r ∧ st1.defs = st.defs := by
                    repeat' (split at hc)
                    · have := ih.b _ _ _ _ _ _ _ hc; exact ⟨this.1, this.2.1⟩
                    · have := ih.b _ _ _ _ _ _ _ hc; exact ⟨this.1, this.2.1⟩
                    · have := ih.b _ _ _ _ _ _ _ hc; exact ⟨this.1, this.2.1⟩
                    · have := singleM_ok hc; exact ⟨by rw [this.1]; exact List.suffix_refl _, this.2.1⟩
                  exact go x r _ _ hl ⟨hst.1, by rw [hst.2]; exact Nat.le_refl _⟩ (fun _ => hst.2) h
  · rw [blockF] at h
    split at h
    · cases h
    · rename_i st1 hc
      obtain ⟨c1, c2⟩ := countM_ok hc
      split at h
      · cases h
      · split at h
        · cases h
        · split at h
          · cases h
          · rename_i body en st2 hn
            obtain ⟨⟨n1, _⟩, n2⟩ := ih.n _ _ _ _ _ _ hn
            obtain ⟨n2, _⟩ := n2 (by omega)
            rw [c1] at n1
            rw [c2] at n2
            split at h
            · split at h
              · cases h
              · split at h
                · cases h
                · split at h
                  · cases h
                  · rename_i x st3 hb
                    cases h
                    obtain ⟨b1, b2, _⟩ := ih.b _ _ _ _ _ _ _ hb
                    exact ⟨b1.trans n1, b2.trans n2, rfl⟩
              · split at h
                · cases h
                · rename_i els en2 st3 hn2
                  obtain ⟨⟨m1, _⟩, m2⟩ := ih.n _ _ _ _ _ _ hn2
                  obtain ⟨m2, _⟩ := m2 (by omega)
                  split at h
                  · cases h
                  · cases h
                    exact ⟨m1.trans n1, m2.trans n2, rfl⟩
            · split at h
              · cases h
              · cases h
                exact ⟨n1, n2, rfl⟩
  · rw [defineF] at h
    split at h
    · cases h
    · split at h
      · cases h
      · split at h
        · cases h
        · split at h
          · cases h
          · rename_i l en st1 hn
            obtain ⟨⟨n1, _⟩, n2⟩ := ih.n _ _ _ _ _ _ hn
            obtain ⟨n2, _⟩ := n2 (by omega)
            split at h
            · cases h
            · cases h
              refine ⟨n1, ?_⟩
              simp only [setBody_len, n2, List.length_append, List.length_cons, List.length_nil]
theorem nl (len : Int) : ∀ f, NL len f
  | 0 => NL.zero len
  | f + 1 => (nl len f).succ

def ItOk (x : W) : Prop := x.text.length ≤ 16384 ∧ 0 ≤ x.at_ ∧ x.at_ ≤ 16384
def sumT (l : List W) : Nat := (l.map fun x => x.text.length).sum
theorem sumT_cons (x : W) (r : List W) : sumT (x :: r) = x.text.length + sumT r := by simp [sumT]
theorem sumT_suffix {l r : List W} (h : l <:+ r) : sumT l ≤ sumT r := by
  obtain ⟨t, rfl⟩ := h
  simp [sumT]

end Go.Vc.M

/- Plain laws: pieces of a text. -/
namespace Go.Vc.M
open Go Go.Vc

theorem trimM_len (s : Bytes) : (trimM s).length ≤ s.length := by
  rw [trimM, List.length_drop, List.length_take]; omega
/-- What every piece of this text keeps. -/
def PieceOk (s : Bytes) (x : W) : Prop := x.text.length ≤ s.length ∧ 0 ≤ x.at_ ∧ x.at_ ≤ s.length ∧ (x.kind = 1 ∨ x.kind = 2)
theorem put1_ok {s : Bytes} {out : List W} {text : Bytes} {place : Int} (h : ∀ x ∈ out, PieceOk s x) (ht : text.length ≤ s.length) (hp : 0 ≤ place ∧ place ≤ s.length) : ∀ x ∈ put1 out text place, PieceOk s x := by
  rw [put1]
  split
  · exact h
  · intro x hx
    rcases List.mem_append.1 hx with hx | hx
    · exact h x hx
    · simp at hx; subst hx; exact ⟨ht, hp.1, hp.2, .inl rfl⟩
theorem fromAt_open (s : Bytes) (trim : Bool) (at_ open_ : Nat) (h : at_ ≤ open_) : fromAt s trim at_ open_ ≤ open_ := by
  rw [fromAt]; split <;> omega
theorem gather_ok {s text : Bytes} {place : Int} {from_ open_ : Nat} (ho : open_ ≤ s.length) (_hf : from_ ≤ open_) (hp : 0 ≤ place ∧ place ≤ s.length) : 0 ≤ (gather s text place from_ open_).2 ∧ (gather s text place from_ open_).2 ≤ s.length := by
  rw [gather]
  split
  · simp only
    split
    · omega
    · exact hp
  · exact hp
theorem itemsF_ok (s : Bytes) : ∀ (f : Nat) (out : List W) (text : Bytes) (place : Int) (trim : Bool) (at_ : Nat), (∀ x ∈ out, PieceOk s x) → out.length ≤ 2 * at_ → text.length ≤ at_ → (0 ≤ place ∧ place ≤ s.length) → at_ ≤ s.length →
    (∀ x ∈ (itemsF s f out text place trim at_).1, PieceOk s x) ∧ (itemsF s f out text place trim at_).1.length ≤ 2 * s.length + 1
  | 0, out, text, place, trim, at_, ho, hl, ht, hp, ha => by
    rw [itemsF]
    have := put1_len out text place
    exact ⟨put1_ok ho (by omega) hp, by simp only; omega⟩
  | f + 1, out, text, place, trim, at_, ho, hl, ht, hp, ha => by
    rw [itemsF]
    split
    · have h1 := gather_len (s := s) (text := text) (place := place) (from_ := fromAt s trim at_ s.length) (Nat.le_refl _)
      have h2 := fromAt_le (s := s) (trim := trim) ha
      have h3 := gather_ok (s := s) (text := text) (Nat.le_refl _) (fromAt_open s trim at_ s.length ha) hp
      have := put1_len out (gather s text place (fromAt s trim at_ s.length) s.length).1 (gather s text place (fromAt s trim at_ s.length) s.length).2
      exact ⟨put1_ok ho (by omega) h3, by simp only; omega⟩
    · rename_i n hn
      have hle := find_le hn
      rw [List.length_drop] at hle
      simp at hle
      split
      · exact ⟨by simp, by simp⟩
      · rename_i x hx
        obtain ⟨hx1, hx2⟩ := actionAt_le (by omega) hx
        have h2 := fromAt_le (s := s) (trim := trim) (show at_ ≤ at_ + n by omega)
        have h3 := gather_ok (s := s) (text := text) (show at_ + n ≤ s.length by omega) (fromAt_open s trim at_ (at_ + n) (by omega)) hp
        have h1 := gather_len (s := s) (text := text) (place := place) (from_ := fromAt s trim at_ (at_ + n)) (show at_ + n ≤ s.length by omega)
        generalize gather s text place (fromAt s trim at_ (at_ + n)) (at_ + n) = G at *
        have hb := backM_len G.1
        have ht2 : (if cutL ((s.take x.2).drop (at_ + n + 2)) = true then backM G.1 else G.1).length ≤ at_ + n := by split <;> omega
        generalize (if cutL ((s.take x.2).drop (at_ + n + 2)) = true then backM G.1 else G.1) = T at *
        have hp1 := put1_len out T G.2
        have hA : (trimM (tail (lead ((s.take x.2).drop (at_ + n + 2))))).length ≤ s.length := by
          have a1 := trimM_len (tail (lead ((s.take x.2).drop (at_ + n + 2))))
          have a2 := tail_len (lead ((s.take x.2).drop (at_ + n + 2)))
          have a3 := lead_len ((s.take x.2).drop (at_ + n + 2))
          have a4 : ((s.take x.2).drop (at_ + n + 2)).length ≤ s.length := by simp; omega
          omega
        refine itemsF_ok s f _ _ _ _ _ ?_ ?_ ?_ h3 hx2
        · split
          · exact ho
          · intro y hy
            rcases List.mem_append.1 hy with hy | hy
            · exact put1_ok ho (by omega) h3 y hy
            · simp at hy; subst hy; exact ⟨hA, by simp only; omega, by simp only; omega, .inr rfl⟩
        · split
          · omega
          · simp; omega
        · split
          · omega
          · simp
theorem items_ok (s : Bytes) : (∀ x ∈ (items s).1, PieceOk s x) ∧ (items s).1.length ≤ 2 * s.length + 1 ∧ ((items s).2.2 = 0 → s.length ≤ 16384) := by
  rw [items]
  split
  · exact ⟨by simp, by simp, fun h => by simp at h⟩
  · have := itemsF_ok s (s.length + 1) [] [] 0 false 0 (by simp) (by simp) (by simp) (by omega) (by omega)
    exact ⟨this.1, this.2, fun _ => by omega⟩
theorem sumT_le (n : Nat) : ∀ l : List W, (∀ x ∈ l, x.text.length ≤ n) → sumT l ≤ l.length * n
  | [], _ => by simp [sumT]
  | x :: r, h => by
    rw [sumT_cons, List.length_cons, Nat.add_mul]
    have h1 := h x (by simp)
    have h2 := sumT_le n r fun y hy => h y (by simp [hy])
    omega

end Go.Vc.M

/- Plain models: whether pipelines may be. -/
namespace Go.Vc.M
open Go Go.Vc

def argMayM (a : ArgM) : Bool :=
  a.path.all nameB && decide (a.path.length ≤ 16) && decide (1 ≤ a.kind ∧ a.kind ≤ 7) && (decide (a.kind = 2) && nameB a.name || decide (a.name = [])) && decide (a.kind ≤ 2 ∨ a.path = []) && decide (a.kind = 3 ∨ a.int = 0) && decide (a.kind = 4 ∨ a.text = []) && decide (a.text.length ≤ 4096)
def callMayM (c : CallM) (ahead : Bool) : Bool :=
  c.args.all argMayM && (if c.name = [] then !ahead && decide (c.args.length = 1) else (arity c.name).2.2 && decide ((arity c.name).1 ≤ bump ahead c.args.length ∧ bump ahead c.args.length ≤ (arity c.name).2.1))
def callsMay : Bool → List CallM → Bool
  | _, [] => true
  | ahead, c :: r => callMayM c ahead && callsMay true r
def pipeMay (l : List CallM) : Bool := decide (1 ≤ l.length ∧ l.length ≤ 16) && callsMay false l

end Go.Vc.M
namespace Go.Vc.M
open Go Go.Vc
def pipedB (h : Hd) : Bool := decide (h.kind ≠ 1) && (decide (h.kind ≠ 6) || decide (0 < h.pipe.length))
def mayN : Node → Bool
  | .mk h b e => decide (1 ≤ h.kind ∧ h.kind ≤ 7) && decide (h.esc = 0) && decide (h.unit = 0) && (pipedB h == decide (0 < h.pipe.length)) && (!pipedB h || pipeMay h.pipe) && (decide (h.kind = 1) || decide (h.text = [])) &&
    ((decide (h.kind = 6) || decide (h.kind = 7)) == !decide (h.name = [])) && (decide (3 ≤ h.kind ∧ h.kind ≤ 5) || decide (b.length + e.length = 0))
mutual
def eachN : Node → Bool
  | .mk h b e => mayN (.mk h b e) && (eachL b && eachL e)
def eachL : List Node → Bool
  | [] => true
  | x :: r => eachN x && eachL r
end
mutual
/-- Every head in a tree is so. -/
def allN (p : Hd → Prop) : Node → Prop
  | .mk h b e => p h ∧ allL p b ∧ allL p e
def allL (p : Hd → Prop) : List Node → Prop
  | [] => True
  | x :: r => allN p x ∧ allL p r
end
end Go.Vc.M

/- Plain models: what templates need. -/
namespace Go.Vc.M
open Go Go.Vc
def lacksA (vars : List Bytes) (a : ArgM) : Bool := decide (a.kind = 2) && (decide (a.name ≠ []) && !vars.contains a.name)
def lacksP (vars : List Bytes) (p : List CallM) : Bool := p.any fun c => c.args.any (lacksA vars)
def varsOf (vars : List Bytes) (h : Hd) : List Bytes := if h.kind = 7 then vars ++ [h.name] else vars
def headFault (has : Bytes → Bool) (vars : List Bytes) (h : Hd) : Option (Int × Int) :=
  if lacksP vars h.pipe = true then some (h.at_, 31) else if h.kind = 6 ∧ has h.name = false then some (h.at_, 71) else none
mutual
def needN (has : Bytes → Bool) (vars : List Bytes) : Node → Option (Int × Int)
  | .mk h b e => match headFault has vars h with
    | some x => some x
    | none => match needL has (varsOf vars h) b with
      | some x => some x
      | none => needL has (varsOf vars h) e
/-- The first fault of these nodes. -/
def needL (has : Bytes → Bool) (vars : List Bytes) : List Node → Option (Int × Int)
  | [] => none
  | x :: r => match needN has vars x with
    | some f => some f
    | none => needL has (varsOf vars x.hd) r
end
def checkDefs (has : Bytes → Bool) : List Def → Option (Int × Int)
  | [] => none
  | d :: r => match needL has [] d.body with
    | some f => some f
    | none => checkDefs has r
end Go.Vc.M

/- A list of strings that is clipped, or one's own; one more. -/
namespace Go.Vc
open Go

theorem appFresh {w w' : World} {s s' : Sl} {sz n : Nat} {e : TypeId} {vs old : List Value} (hcap : s.cap < s.len + n) (hol : old.length = s.len * sz) (hv : vs.length = n * sz) (hr : AppRes w s sz e vs n old s' w') :
    Own w.heap.size w' s' sz (old ++ vs) ∧ Grow w w' ∧ s'.len = s.len + n := by
  rcases hr with ⟨hle, _⟩ | ⟨hlt, c, rest, hc, hrl, rfl, rfl⟩
  · omega
  · refine ⟨⟨?_, hc, .inr ⟨w.heap.size, e, (old ++ vs ++ rest).toArray, rfl, Nat.le_refl _, ?_, ?_, fun i v hi => ?_⟩⟩, ⟨rfl, rfl, rfl, by simp, fun k hk => ?_⟩, rfl⟩
    · rw [List.length_append, hol, hv, Nat.add_mul]
    · show (w.heap.push _)[w.heap.size]? = _
      simp
    · simp only [List.size_toArray, List.length_append, hol, hv, hrl]
      rw [← Nat.add_mul, ← Nat.add_mul]
      congr 1
      omega
    · rw [List.getElem?_toArray, List.append_assoc]
      rw [← List.append_assoc, List.getElem?_append_left]
      · exact hi
      · rcases Nat.lt_or_ge i (old ++ vs).length with h' | h'
        · exact h'
        · rw [List.getElem?_eq_none h'] at hi; cases hi
    · exact RowKit.Below.heap_alloc w.drew _ _ (show k < w.drew.heap.size by simpa using hk)

def strsV (l : List Bytes) : List Value := l.map fun x => Value.string (bs x)
theorem strsV_flat (l : List Bytes) : strsV l = (l.map fun x => [Value.string (bs x)]).flatten := by
  induction l with
  | nil => rfl
  | cons x r ih => simp only [strsV, List.map_cons, List.flatten_cons] at *; rw [ih]; rfl
theorem allR_strs (l : List Bytes) : allR M.strR l (l.map fun x => [Value.string (bs x)]) := by
  induction l with
  | nil => trivial
  | cons x r ih => exact ⟨rfl, ih⟩
theorem allR_strs_eq : ∀ {l : List Bytes} {cs : List (List Value)}, allR M.strR l cs → cs.flatten = strsV l
  | [], [], _ => rfl
  | x :: r, c :: cs, h => by
    obtain ⟨h1, h2⟩ := h
    rw [List.flatten_cons, allR_strs_eq h2, show c = _ from h1]; rfl

/-- Variables: read in blocks S; either clipped, or one's own from n₀ on. -/
def VarsAt (n₀ : Nat) (w : World) (S : Nat → Prop) (s : Sl) (l : List Bytes) : Prop :=
  LstAt M.strR w S s l ∧ (s.cap = s.len ∨ Own n₀ w s 1 (strsV l)) ∧ ∀ ad, s.a = some ad → ad.block < w.heap.size

theorem VarsAt.pre {n₀ : Nat} {w : World} {S : Nat → Prop} {s : Sl} {l : List Bytes} (h : VarsAt n₀ w S s l) (hl : l.length ≤ 1000000) : AppPre w s 1 16 1 (strsV l) := by
  obtain ⟨h1, h2, _⟩ := h
  have hlen := h1.len
  rcases h2 with hc | hO
  · obtain ⟨cs, g1, g2, g3, g4⟩ := h1
    have hcs := allR_strs_eq g1
    refine ⟨by simp [strsV, hlen], fun ad had => ?_, fun hn => ?_, fun hle => by omega, by omega⟩
    · rcases g4 with e | ⟨ad', q1, _, q2, _⟩
      · have : l = [] := List.eq_nil_of_length_eq_zero e
        rw [this]; intro i v hi; simp [strsV] at hi
      · rw [had] at q1; cases q1; rw [← hcs]; exact q2
    · rcases g4 with e | ⟨ad', q1, _⟩
      · have : l = [] := List.eq_nil_of_length_eq_zero e
        rw [this]; rfl
      · rw [hn] at q1; cases q1
  · exact hO.pre (by omega)

end Go.Vc
namespace Go.Vc
open Go
/-- One more variable; where the new list lies. -/
theorem VarsAt.push {n₀ : Nat} {w w' : World} {S : Nat → Prop} {s s' : Sl} {l : List Bytes} {v : Bytes} {e : TypeId} (h : VarsAt n₀ w S s l) (hn : n₀ ≤ w.heap.size) (hr : AppRes w s 1 e [.string (bs v)] 1 (strsV l) s' w') :
    Own n₀ w' s' 1 (strsV (l ++ [v])) ∧ w.heap.size ≤ w'.heap.size ∧ Bel n₀ w w' ∧ (∀ k, k < w.heap.size → (s.cap = s.len ∨ ∀ ad, s.a = some ad → ad.block ≠ k) → w'.heap[k]? = w.heap[k]?) := by
  obtain ⟨h1, h2, _⟩ := h
  have hlen := h1.len
  have hs : strsV (l ++ [v]) = strsV l ++ [.string (bs v)] := by simp [strsV]
  by_cases hc : s.cap = s.len
  · obtain ⟨q1, q2, q3⟩ := appFresh (by omega) (by simp [strsV, hlen]) (by simp) hr
    rw [hs]
    exact ⟨q1.mono hn, q2.size, q2.bel hn, fun k hk _ => q2.block k hk⟩
  · have hO := h2.resolve_left hc
    obtain ⟨q1, q2, q3⟩ := hO.res hn (by simp) hr
    rw [hs]
    exact ⟨q1, q2.size, q2.bel, fun k hk hne => q2.keep k hk (hne.resolve_left hc)⟩
theorem Own.vars {n₀ : Nat} {w : World} {s : Sl} {l : List Bytes} {S : Nat → Prop} (h : Own n₀ w s 1 (strsV l)) (hS : ∀ k, rng n₀ w.heap.size k → S k) : VarsAt n₀ w S s l := by
  refine ⟨Own.lst (cs := l.map fun x => [Value.string (bs x)]) (by rw [← strsV_flat]; exact h) (allR_strs l) M.strR.size (by omega) fun ad had => hS _ ⟨(h.lt had).2, (h.lt had).1⟩, .inr h, fun ad had => (h.lt had).1⟩
end Go.Vc
namespace Go.Vc
open Go
/-- A new block, made and then filled. -/
theorem copied {w : World} {ws : List Value} {arr : Array Value} {e : TypeId} (ha : arr.size = ws.length) :
    StoreOk (w.alloc (.cells arr e)) ⟨w.heap.size, 0, none⟩ ws.length ∧ CellsAt (setCells (w.alloc (.cells arr e)) ⟨w.heap.size, 0, none⟩ ws) ⟨w.heap.size, 0, none⟩ ws ∧ Grow w (setCells (w.alloc (.cells arr e)) ⟨w.heap.size, 0, none⟩ ws) ∧ (setCells (w.alloc (.cells arr e)) ⟨w.heap.size, 0, none⟩ ws).heap.size = w.heap.size + 1 := by
  have hb : (w.alloc (.cells arr e)).heap[w.heap.size]? = some (.cells arr e (0, 0)) := by show (w.heap.push _)[w.heap.size]? = _; simp
  have hsz : (w.alloc (.cells arr e)).heap.size = w.heap.size + 1 := by show (w.heap.push _).size = _; simp
  obtain ⟨c', h1, h2, h3⟩ := setCellsFrom_block w.heap.size 0 ws 0 _ arr e (0, 0) hb (by omega)
  obtain ⟨e1, e2, e3, e4⟩ := setCellsFrom_env ⟨w.heap.size, 0, none⟩ ws 0 (w.alloc (.cells arr e))
  refine ⟨fun i hi => ?_, CellsAt.of_block h1 fun i v hi => ?_, ⟨e1, e2, e3, by rw [setCells, e4, hsz]; omega, fun k hk => ?_⟩, by rw [setCells, e4, hsz]⟩
  · rw [addr_add, Nat.zero_add]
    refine ⟨⟨arr[i], ?_⟩, by simp only [World.frozen?, hb]; simp⟩
    simp only [World.cell?, hb]
    simp [ha, hi]
  · have hil : i < ws.length := by
      rcases Nat.lt_or_ge i ws.length with h' | h'
      · exact h'
      · rw [List.getElem?_eq_none h'] at hi; cases hi
    have h4 := h3 i
    rw [if_pos (by omega)] at h4
    have hic : i < c'.size := by omega
    rw [Array.getD_eq_getD_getElem?, getElem?_pos c' i hic, Option.getD_some] at h4
    rw [Nat.zero_add, getElem?_pos c' i hic, h4]
    simp [List.getD_eq_getElem?_getD, hi]
  · rw [setCells, setCellsFrom_other _ _ (by show k ≠ w.heap.size; omega)]
    show (w.heap.push _)[k]? = _
    rw [Array.getElem?_push_lt hk]
    exact (Array.getElem?_eq_getElem hk).symm
end Go.Vc

/- Frames, writes, and the reader's record in memory. -/
namespace Go.Vc
open Go

/-- Only these blocks have turned; there may be new ones. -/
structure Fr (X : Nat → Prop) (w w' : World) : Prop where
  os : w'.os = w.os
  tape : w'.tape = w.tape
  output : w'.output = w.output
  size : w.heap.size ≤ w'.heap.size
  block : ∀ k, k < w.heap.size → ¬ X k → w'.heap[k]? = w.heap[k]?
theorem Fr.refl (X : Nat → Prop) (w : World) : Fr X w w := ⟨rfl, rfl, rfl, Nat.le_refl _, fun _ _ _ => rfl⟩
theorem Fr.trans {X Y : Nat → Prop} {a b c : World} (h : Fr X a b) (k : Fr Y b c) (hY : ∀ i, Y i → X i ∨ a.heap.size ≤ i) : Fr X a c :=
  ⟨k.os.trans h.os, k.tape.trans h.tape, k.output.trans h.output, Nat.le_trans h.size k.size, fun i hi hX => by
    rw [k.block i (Nat.lt_of_lt_of_le hi h.size) (fun hy => (hY i hy).elim hX (fun e => by omega)), h.block i hi hX]⟩
theorem Grow.fr {X : Nat → Prop} {a b : World} (h : Grow a b) : Fr X a b := ⟨h.os, h.tape, h.output, h.size, fun k hk _ => h.block k hk⟩
theorem LocB.fr {X : Nat → Prop} {B : List Nat} {a b : World} (h : LocB B a b) (hB : ∀ k, k ∈ B → X k ∨ a.heap.size ≤ k) : Fr X a b :=
  ⟨h.os, h.tape, h.output, h.size, fun k hk hX => h.block k hk fun hb => (hB k hb).elim hX (fun e => by omega)⟩
theorem Fr.mono {X Y : Nat → Prop} {a b : World} (h : Fr X a b) (hX : ∀ k, X k → Y k ∨ a.heap.size ≤ k) : Fr Y a b :=
  ⟨h.os, h.tape, h.output, h.size, fun k hk hY => h.block k hk fun hx => (hX k hx).elim hY (fun e => by omega)⟩
theorem Fr.grow {X : Nat → Prop} {a b c : World} (h : Fr X a b) (k : Grow b c) : Fr X a c := h.trans (k.fr (X := fun _ => False)) (fun _ h => h.elim)
theorem Fr.loc {X : Nat → Prop} {B : List Nat} {a b c : World} (h : Fr X a b) (k : LocB B b c) (hB : ∀ k, k ∈ B → X k ∨ a.heap.size ≤ k) : Fr X a c :=
  h.trans (Y := fun k => k ∈ B) (k.fr fun _ h => .inl h) hB
theorem Fr.bel {X : Nat → Prop} {n : Nat} {a b : World} (h : Fr X a b) (hn : n ≤ a.heap.size) (hX : ∀ k, X k → n ≤ k) : Bel n a b :=
  ⟨h.os, h.tape, h.output, h.size, fun k hk => h.block k (by omega) (fun hx => by have := hX k hx; omega)⟩
theorem Bel.fr {X : Nat → Prop} {n : Nat} {a b : World} (h : Bel n a b) (hX : ∀ k, k < a.heap.size → ¬ X k → k < n) : Fr X a b :=
  ⟨h.os, h.tape, h.output, h.size, fun k hk hx => h.block k (hX k hk hx)⟩
theorem Grown1.fr {n₀ : Nat} {w w' : World} {s s' : Sl} (h : Grown1 n₀ w w' s s') : Fr (fun k => ∃ ad, s.a = some ad ∧ ad.block = k) w w' :=
  ⟨h.bel.os, h.bel.tape, h.bel.output, h.size, fun k hk hx => h.keep k hk fun ad had e => hx ⟨ad, had, e⟩⟩

section
variable {w : World} {g o : Nat} {c : Array Value} {e : TypeId} {fz : Nat × Nat} {v : Value}
theorem set1_heap (h : w.heap[g]? = some (.cells c e fz)) : (setCells w ⟨g, o, none⟩ [v]).heap[g]? = some (.cells (c.setIfInBounds o v) e fz) := by
  rw [setCells, setCellsFrom, setCellsFrom, addr_add, Nat.add_zero]
  exact heap_setCell_same h
theorem set1_fr (w : World) (a : Addr) (vs : List Value) : Fr (fun k => k = a.block) w (setCells w a vs) := by
  obtain ⟨h1, h2, h3, h4⟩ := setCellsFrom_env a vs 0 w
  exact ⟨h1, h2, h3, by rw [setCells, h4]; exact Nat.le_refl _, fun k _ hk => setCellsFrom_other a k hk vs 0 w⟩
theorem set1_size (w : World) (a : Addr) (vs : List Value) : (setCells w a vs).heap.size = w.heap.size := (setCellsFrom_env a vs 0 w).2.2.2
theorem cells1 (h : w.heap[g]? = some (.cells c e fz)) (hv : c[o]? = some v) : CellsAt w ⟨g, o, none⟩ [v] :=
  CellsAt.of_block h fun i u hi => by
    cases i with
    | zero => cases hi; simpa using hv
    | succ i => simp at hi
theorem store1 (h : w.heap[g]? = some (.cells c e (0, 0))) (hv : c[o]? = some v) : StoreOk w ⟨g, o, none⟩ 1 := by
  intro i hi
  have hi0 : i = 0 := by omega
  subst hi0
  refine ⟨⟨v, ?_⟩, ?_⟩
  · have := cells1 h hv 0 v rfl; exact this
  · rw [addr_add]; simp [World.frozen?, h]
end

/-- The reader's record. -/
def ParAt (w : World) (g : Nat) (L : Sl) (size len : Int) (D : Sl) (at_ err : Int) : Prop :=
  ∃ e, w.heap[g]? = some (.cells #[.slice L.a L.len L.cap, .int .i64 size, .int .i64 len, .slice D.a D.len D.cap, .int .i64 at_, .int .i64 err] e (0, 0))
section
variable {w w' : World} {g : Nat} {L D : Sl} {size len at_ err : Int}
theorem ParAt.keep (h : ParAt w g L size len D at_ err) (hk : w'.heap[g]? = w.heap[g]?) : ParAt w' g L size len D at_ err := by
  obtain ⟨e, h⟩ := h; exact ⟨e, by rw [hk]; exact h⟩
theorem ParAt.lt (h : ParAt w g L size len D at_ err) : g < w.heap.size := by obtain ⟨e, h⟩ := h; exact heap_lt h
theorem ParAt.c0 (h : ParAt w g L size len D at_ err) : CellsAt w ⟨g, 0, none⟩ [.slice L.a L.len L.cap] := by obtain ⟨e, h⟩ := h; exact cells1 h rfl
theorem ParAt.c1 (h : ParAt w g L size len D at_ err) : CellsAt w ((⟨g, 0, none⟩ : Addr).add 1) [.int .i64 size] := by obtain ⟨e, h⟩ := h; rw [addr_add]; exact cells1 h rfl
theorem ParAt.c2 (h : ParAt w g L size len D at_ err) : CellsAt w ((⟨g, 0, none⟩ : Addr).add 2) [.int .i64 len] := by obtain ⟨e, h⟩ := h; rw [addr_add]; exact cells1 h rfl
theorem ParAt.c3 (h : ParAt w g L size len D at_ err) : CellsAt w ((⟨g, 0, none⟩ : Addr).add 3) [.slice D.a D.len D.cap] := by obtain ⟨e, h⟩ := h; rw [addr_add]; exact cells1 h rfl
theorem ParAt.c4 (h : ParAt w g L size len D at_ err) : CellsAt w ((⟨g, 0, none⟩ : Addr).add 4) [.int .i64 at_] := by obtain ⟨e, h⟩ := h; rw [addr_add]; exact cells1 h rfl
theorem ParAt.c5 (h : ParAt w g L size len D at_ err) : CellsAt w ((⟨g, 0, none⟩ : Addr).add 5) [.int .i64 err] := by obtain ⟨e, h⟩ := h; rw [addr_add]; exact cells1 h rfl
theorem ParAt.s0 (h : ParAt w g L size len D at_ err) : StoreOk w ⟨g, 0, none⟩ 1 := by obtain ⟨e, h⟩ := h; exact store1 h rfl
theorem ParAt.s1 (h : ParAt w g L size len D at_ err) : StoreOk w ((⟨g, 0, none⟩ : Addr).add 1) 1 := by obtain ⟨e, h⟩ := h; rw [addr_add]; exact store1 h rfl
theorem ParAt.s3 (h : ParAt w g L size len D at_ err) : StoreOk w ((⟨g, 0, none⟩ : Addr).add 3) 1 := by obtain ⟨e, h⟩ := h; rw [addr_add]; exact store1 h rfl
theorem ParAt.s4 (h : ParAt w g L size len D at_ err) : StoreOk w ((⟨g, 0, none⟩ : Addr).add 4) 1 := by obtain ⟨e, h⟩ := h; rw [addr_add]; exact store1 h rfl
theorem ParAt.s5 (h : ParAt w g L size len D at_ err) : StoreOk w ((⟨g, 0, none⟩ : Addr).add 5) 1 := by obtain ⟨e, h⟩ := h; rw [addr_add]; exact store1 h rfl
theorem ParAt.w0 (h : ParAt w g L size len D at_ err) (L' : Sl) : ParAt (setCells w ⟨g, 0, none⟩ [.slice L'.a L'.len L'.cap]) g L' size len D at_ err := by obtain ⟨e, h⟩ := h; exact ⟨e, set1_heap h⟩
theorem ParAt.w1 (h : ParAt w g L size len D at_ err) (n : Int) : ParAt (setCells w ((⟨g, 0, none⟩ : Addr).add 1) [.int .i64 n]) g L n len D at_ err := by obtain ⟨e, h⟩ := h; rw [addr_add]; exact ⟨e, set1_heap h⟩
theorem ParAt.w3 (h : ParAt w g L size len D at_ err) (D' : Sl) : ParAt (setCells w ((⟨g, 0, none⟩ : Addr).add 3) [.slice D'.a D'.len D'.cap]) g L size len D' at_ err := by obtain ⟨e, h⟩ := h; rw [addr_add]; exact ⟨e, set1_heap h⟩
theorem ParAt.w4 (h : ParAt w g L size len D at_ err) (n : Int) : ParAt (setCells w ((⟨g, 0, none⟩ : Addr).add 4) [.int .i64 n]) g L size len D n err := by obtain ⟨e, h⟩ := h; rw [addr_add]; exact ⟨e, set1_heap h⟩
theorem ParAt.w5 (h : ParAt w g L size len D at_ err) (n : Int) : ParAt (setCells w ((⟨g, 0, none⟩ : Addr).add 5) [.int .i64 n]) g L size len D at_ n := by obtain ⟨e, h⟩ := h; rw [addr_add]; exact ⟨e, set1_heap h⟩
end

/-- It has been told that it failed. -/
def PErr (w : World) (g : Nat) (e : Int × Int) : Prop := ∃ L size len D, ParAt w g L size len D e.1 e.2
/-- It is under way: the pieces before it lie below n₀. -/
structure PIn (n₀ : Nat) (w : World) (g : Nat) (len : Int) (D : Sl) (st : M.St) : Prop where
  par : ∃ L, ParAt w g L st.size len D 0 0 ∧ LstAt M.wR w (fun k => k < n₀) L st.l
  low : n₀ ≤ g
  few : st.size ≤ 1024
theorem PIn.lt {n₀ : Nat} {w : World} {g : Nat} {len : Int} {D : Sl} {st : M.St} (h : PIn n₀ w g len D st) : g < w.heap.size := by obtain ⟨L, h1, _⟩ := h.par; exact h1.lt
theorem PIn.fr {n₀ : Nat} {w w' : World} {g : Nat} {len : Int} {D : Sl} {st : M.St} {X : Nat → Prop} (h : PIn n₀ w g len D st) (hf : Fr X w w') (hg : ¬ X g) (hX : ∀ k, X k → n₀ ≤ k) : PIn n₀ w' g len D st := by
  obtain ⟨L, h1, h2⟩ := h.par
  have hlt := h1.lt
  have hlow := h.low
  exact ⟨⟨L, h1.keep (hf.block g hlt hg), h2.keep (fun _ _ h => h) fun k hk => hf.block k (by omega) (fun hx => by have := hX k hx; omega)⟩, h.low, h.few⟩
theorem PIn.grow {n₀ : Nat} {w w' : World} {g : Nat} {len : Int} {D : Sl} {st : M.St} (h : PIn n₀ w g len D st) (hg : Grow w w') : PIn n₀ w' g len D st := h.fr (X := fun _ => False) hg.fr (fun h => h) (fun _ h => h.elim)
theorem PIn.loc {n₀ : Nat} {w w' : World} {g : Nat} {len : Int} {D : Sl} {st : M.St} {B : List Nat} (h : PIn n₀ w g len D st) (hL : LocB B w w') (hB : ∀ b, b ∈ B → g < b) : PIn n₀ w' g len D st :=
  h.fr (X := fun k => k ∈ B) (hL.fr fun _ h => .inl h) (fun hb => by have := hB _ hb; omega) (fun k hk => by have := hB k hk; have := h.low; omega)

end Go.Vc
namespace Go.Vc
open Go
/-- How a step of the reader ends: it is told why it failed, or all is well. -/
def Outc {α : Type} (g : Nat) (w : World) (r : M.Res α) (bad : Ending → Prop) (good : α → Ending → World → Prop) (en : Ending) (w' : World) : Prop :=
  Fr (fun k => k = g) w w' ∧ ((∃ x, r = .error x ∧ bad en ∧ PErr w' g x) ∨ ∃ a, r = .ok a ∧ good a en w')
theorem PIn.err0 {n₀ : Nat} {w : World} {g : Nat} {len : Int} {D : Sl} {st : M.St} (h : PIn n₀ w g len D st) : ∃ L, ParAt w g L st.size len D 0 0 := by obtain ⟨L, h1, _⟩ := h.par; exact ⟨L, h1⟩
theorem PErr.keep {w w' : World} {g : Nat} {x : Int × Int} (h : PErr w g x) (hk : w'.heap[g]? = w.heap[g]?) : PErr w' g x := by
  obtain ⟨L, s, l, D, h1⟩ := h; exact ⟨L, s, l, D, h1.keep hk⟩
theorem PErr.lt {w : World} {g : Nat} {x : Int × Int} (h : PErr w g x) : g < w.heap.size := by obtain ⟨L, s, l, D, h1⟩ := h; exact h1.lt
end Go.Vc
namespace Go.Vc
open Go
theorem setp_fr (w : World) (g i : Nat) (vs : List Value) : Fr (fun k => k = g) w (setCells w ((⟨g, 0, none⟩ : Addr).add i) vs) :=
  (set1_fr w _ vs).mono fun k hk => .inl (by rw [add_block] at hk; exact hk)
end Go.Vc
namespace Go.Vc
open Go
/-- A node that is told, but is not one. -/
def NodeBad (en : Ending) : Prop := ∃ (k : Int) (t nm : Bytes) (sp sb se : Sl) (a e u : Int), en = .returned (.tuple #[.agg #[.int .i64 k, .string (bs t), .string (bs nm), .slice sp.a sp.len sp.cap, .slice sb.a sb.len sb.cap, .slice se.a se.len se.cap, .int .i64 a, .int .i64 e, .int .i64 u], .bool false])
/-- A node that is told. -/
def NodeGood (n₀ g : Nat) (len : Int) (D : Sl) (w : World) (x : M.Node × M.St) (en : Ending) (w' : World) : Prop :=
  (∃ (k : Int) (t nm : Bytes) (sp sb se : Sl) (a e u : Int), en = .returned (.tuple #[.agg #[.int .i64 k, .string (bs t), .string (bs nm), .slice sp.a sp.len sp.cap, .slice sb.a sb.len sb.cap, .slice se.a se.len se.cap, .int .i64 a, .int .i64 e, .int .i64 u], .bool true]) ∧
    M.nodeR w' (rng w.heap.size w'.heap.size) x.1 [.int .i64 k, .string (bs t), .string (bs nm), .slice sp.a sp.len sp.cap, .slice sb.a sb.len sb.cap, .slice se.a se.len se.cap, .int .i64 a, .int .i64 e, .int .i64 u]) ∧ PIn n₀ w' g len D x.2
theorem NodeBad.mk (k : Int) (t nm : Bytes) (sp sb se : Sl) (a e u : Int) : NodeBad (.returned (.tuple #[.agg #[.int .i64 k, .string (bs t), .string (bs nm), .slice sp.a sp.len sp.cap, .slice sb.a sb.len sb.cap, .slice se.a se.len se.cap, .int .i64 a, .int .i64 e, .int .i64 u], .bool false])) := ⟨k, t, nm, sp, sb, se, a, e, u, rfl⟩
theorem NodeGood.mk {n₀ g : Nat} {len : Int} {D : Sl} {w w' : World} {h : M.Hd} {b l : List M.Node} {st : M.St} {sp sb se : Sl} (h1 : LstAt (M.callR w' (rng w.heap.size w'.heap.size)) w' (rng w.heap.size w'.heap.size) sp h.pipe) (h2 : LstAt (M.nodeR w' (rng w.heap.size w'.heap.size)) w' (rng w.heap.size w'.heap.size) sb b)
    (h3 : LstAt (M.nodeR w' (rng w.heap.size w'.heap.size)) w' (rng w.heap.size w'.heap.size) se l) (h4 : PIn n₀ w' g len D st) :
    NodeGood n₀ g len D w (.mk h b l, st) (.returned (.tuple #[.agg #[.int .i64 h.kind, .string (bs h.text), .string (bs h.name), .slice sp.a sp.len sp.cap, .slice sb.a sb.len sb.cap, .slice se.a se.len se.cap, .int .i64 h.at_, .int .i64 h.esc, .int .i64 h.unit], .bool true])) w' :=
  ⟨⟨h.kind, h.text, h.name, sp, sb, se, h.at_, h.esc, h.unit, rfl, (M.nodeR_mk _ _ _ _ _ _).2 ⟨sp, sb, se, rfl, h1, h2, h3⟩⟩, h4⟩
/-- Lists of calls and of nodes, moved to a later world. -/
theorem calls_move {w w' : World} {S S' : Nat → Prop} {sl : Sl} {l : List M.CallM} (h : LstAt (M.callR w S) w S sl l) (hk : ∀ k, S k → w'.heap[k]? = w.heap[k]?) (hS : ∀ k, S k → S' k) : LstAt (M.callR w' S') w' S' sl l :=
  (h.keep (R' := M.callR w' S) (w' := w') (fun _ _ h => h.keep hk) hk).mono (fun _ _ h => h.mono hS) hS
theorem nodes_move {w w' : World} {S S' : Nat → Prop} {sl : Sl} {l : List M.Node} (h : LstAt (M.nodeR w S) w S sl l) (hk : ∀ k, S k → w'.heap[k]? = w.heap[k]?) (hS : ∀ k, S k → S' k) : LstAt (M.nodeR w' S') w' S' sl l :=
  (h.keep (R' := M.nodeR w' S) (w' := w') (fun _ _ h => M.niceNode.keep h hk) hk).mono (fun _ _ h => M.niceNode.mono h hS) hS
end Go.Vc
namespace Go.Vc
open Go
def NodesBad (en : Ending) : Prop := ∃ (sl slw : Sl) (h : Bytes) (a : Int), en = .returned (.tuple #[.slice sl.a sl.len sl.cap, .agg #[.slice slw.a slw.len slw.cap, .string (bs h), .int .i64 a], .bool false])
def NodesGood (n₀ g : Nat) (len : Int) (D : Sl) (w : World) (x : List M.Node × M.Piece × M.St) (en : Ending) (w' : World) : Prop :=
  ∃ sl slw : Sl, en = .returned (.tuple #[.slice sl.a sl.len sl.cap, .agg #[.slice slw.a slw.len slw.cap, .string (bs x.2.1.head), .int .i64 x.2.1.at_], .bool true]) ∧
    LstAt (M.nodeR w' (rng w.heap.size w'.heap.size)) w' (rng w.heap.size w'.heap.size) sl x.1 ∧ LstAt M.wR w' (rng w.heap.size w'.heap.size) slw x.2.1.words ∧ PIn n₀ w' g len D x.2.2
theorem fr_box {g : Nat} {B : List Nat} {w w1 w2 : World} (hB : ∀ k, k ∈ B → w.heap.size ≤ k) (hg : g < w.heap.size) (hf : Fr (fun k => k = g) w1 w2) (hm : ∀ k, k ∈ B → k < w1.heap.size) : ∀ k, k ∈ B → w2.heap[k]? = w1.heap[k]? :=
  fun k hk => hf.block k (hm k hk) (fun e => by have := hB k hk; omega)
theorem fr_mem {X : Nat → Prop} {B : List Nat} {w1 w2 : World} (hf : Fr X w1 w2) (hm : ∀ k, k ∈ B → k < w1.heap.size) : ∀ k, k ∈ B → k < w2.heap.size := fun k hk => Nat.lt_of_lt_of_le (hm k hk) hf.size
end Go.Vc

/- The reader's two lists under way: what it makes of nodes, and its templates. -/
namespace Go.Vc
open Go

def dB (s : Sl) : List Nat := match s.a with
  | some ad => [ad.block]
  | none => []
theorem dB_mem {s : Sl} {k : Nat} : k ∈ dB s ↔ ∃ ad, s.a = some ad ∧ ad.block = k := by
  unfold dB
  cases s.a with
  | none => simp
  | some ad => simp [eq_comm]
theorem dB_nil : dB ⟨none, 0, 0⟩ = [] := rfl

theorem Bld.lst2 {α : Type} {R : World → (Nat → Prop) → α → List Value → Prop} {n₀ : Nat} {w : World} {s : Sl} {sz : Nat} {l : List α} {B : List Nat} (hR : Nice R sz) (h : Bld R n₀ w s sz l B) : ∃ S : Nat → Prop, LstAt (R w S) w S s l ∧ ∀ k, S k → rng n₀ w.heap.size k ∧ k ∉ B := by
  obtain ⟨S, cs, h1, h2, h3, h4⟩ := h
  refine ⟨fun k => S k ∨ k ∈ dB s, h1.lst (h2.imp fun x c hx => hR.mono hx fun k hk => .inl hk) (fun _ _ => hR.size) hR.pos fun ad had => .inr (dB_mem.2 ⟨ad, had, rfl⟩), fun k hk => ?_⟩
  rcases hk with hk | hk
  · exact ⟨(h3 k hk).1, (h3 k hk).2.2⟩
  · obtain ⟨ad, had, rfl⟩ := dB_mem.1 hk
    exact ⟨⟨(h1.lt had).2, (h1.lt had).1⟩, h4 ad had⟩
theorem Bld.dlt {α : Type} {R : World → (Nat → Prop) → α → List Value → Prop} {n₀ : Nat} {w : World} {s : Sl} {sz : Nat} {l : List α} {B : List Nat} (h : Bld R n₀ w s sz l B) : ∀ k, k ∈ dB s → k < w.heap.size ∧ n₀ ≤ k ∧ k ∉ B := by
  obtain ⟨S, cs, h1, h2, h3, h4⟩ := h
  intro k hk
  obtain ⟨ad, had, rfl⟩ := dB_mem.1 hk
  exact ⟨(h1.lt had).1, (h1.lt had).2, h4 ad had⟩

structure Two (z : Bool) (n₀ n₁ n₂ : Nat) (w : World) (g : Nat) (Bx : List Nat) (len : Int) (D out : Sl) (st : M.St) (acc : List M.Node) : Prop where
  pin : PIn n₀ w g len D st
  bld : Bld M.nodeR n₂ w out 9 acc (g :: (Bx ++ dB D))
  dok : ∀ k, k ∈ dB D → k < w.heap.size
  defs : z = true → Bld M.defR n₁ w D 2 st.defs (g :: (Bx ++ dB out)) ∧ n₀ ≤ n₁
  box : ∀ k, k ∈ Bx → k < w.heap.size ∧ g < k
  low : n₀ ≤ n₂
  siz : n₂ ≤ w.heap.size

section
variable {z : Bool} {n₀ n₁ n₂ : Nat} {w w' : World} {g : Nat} {Bx : List Nat} {len : Int} {D out : Sl} {st : M.St} {acc : List M.Node}

/-- Other blocks than these two lists'. -/
theorem Two.keep (h : Two z n₀ n₁ n₂ w g Bx len D out st acc) {st' : M.St} (hP : PIn n₀ w' g len D st') (hd : st'.defs = st.defs) (hk : ∀ k, k < w.heap.size → k ≠ g → k ∉ Bx → w'.heap[k]? = w.heap[k]?) (hs : w.heap.size ≤ w'.heap.size) : Two z n₀ n₁ n₂ w' g Bx len D out st' acc := by
  refine ⟨hP, h.bld.keep M.niceNode (fun k hk1 hn => hk k hk1 (fun e => hn (by simp [e])) (fun e => hn (by simp [e]))) hs, fun k hk' => Nat.lt_of_lt_of_le (h.dok k hk') hs, fun hz => ?_, fun k hk' => ⟨Nat.lt_of_lt_of_le (h.box k hk').1 hs, (h.box k hk').2⟩, h.low, Nat.le_trans h.siz hs⟩
  rw [hd]
  exact ⟨(h.defs hz).1.keep M.niceDef (fun k hk1 hn => hk k hk1 (fun e => hn (by simp [e])) (fun e => hn (by simp [e]))) hs, (h.defs hz).2⟩
theorem Two.fr (h : Two z n₀ n₁ n₂ w g Bx len D out st acc) {st' : M.St} (hP : PIn n₀ w' g len D st') (hd : st'.defs = st.defs) (hf : Fr (fun k => k = g) w w') : Two z n₀ n₁ n₂ w' g Bx len D out st' acc :=
  h.keep hP hd (fun k hk hg _ => hf.block k hk hg) hf.size
theorem Two.loc (h : Two z n₀ n₁ n₂ w g Bx len D out st acc) {B : List Nat} (hL : LocB B w w') (hB : ∀ k, k ∈ B → k ∈ Bx) : Two z n₀ n₁ n₂ w' g Bx len D out st acc :=
  h.keep (h.pin.loc hL fun b hb => (h.box b (hB b hb)).2) rfl (fun k hk _ hn => hL.block k hk fun hb => hn (hB k hb)) hL.size
theorem Two.less (h : Two z n₀ n₁ n₂ w g Bx len D out st acc) {Bx' : List Nat} (hB : ∀ k, k ∈ Bx' → k ∈ Bx) : Two z n₀ n₁ n₂ w g Bx' len D out st acc := by
  refine ⟨h.pin, h.bld.less ?_, h.dok, fun hz => ⟨(h.defs hz).1.less ?_, (h.defs hz).2⟩, fun k hk => h.box k (hB k hk), h.low, h.siz⟩
  · intro k hk
    simp only [List.mem_cons, List.mem_append] at hk ⊢
    rcases hk with hk | hk | hk
    · exact .inl hk
    · exact .inr (.inl (hB k hk))
    · exact .inr (.inr hk)
  · intro k hk
    simp only [List.mem_cons, List.mem_append] at hk ⊢
    rcases hk with hk | hk | hk
    · exact .inl hk
    · exact .inr (.inl (hB k hk))
    · exact .inr (.inr hk)
theorem perm_mem {g b k : Nat} {Bx E : List Nat} (hk : k ∈ g :: (b :: Bx ++ E)) : k ∈ b :: g :: (Bx ++ E) := by
  simp only [List.mem_cons, List.mem_append] at hk ⊢
  rcases hk with hk | (hk | hk) | hk
  · exact .inr (.inl hk)
  · exact .inl hk
  · exact .inr (.inr (.inl hk))
  · exact .inr (.inr (.inr hk))
/-- New boxes, flushed. -/
theorem Two.boxes (h : Two z n₀ n₁ n₂ w g Bx len D out st acc) : ∀ {B' : List Nat}, (∀ k, k ∈ B' → w.heap.size ≤ k) → Bld M.nodeR n₂ w out 9 acc (g :: (B' ++ Bx ++ dB D)) ∧ (z = true → Bld M.defR n₁ w D 2 st.defs (g :: (B' ++ Bx ++ dB out)))
  | [], _ => ⟨h.bld, fun hz => (h.defs hz).1⟩
  | b :: B', hB => by
    obtain ⟨h1, h2⟩ := h.boxes (B' := B') fun k hk => hB k (by simp [hk])
    have hb := hB b (by simp)
    exact ⟨(h1.more hb).less fun k hk => perm_mem (by simpa using hk), fun hz => ((h2 hz).more hb).less fun k hk => perm_mem (by simpa using hk)⟩
/-- New boxes that come with a step. -/
theorem Two.newLoc (h : Two z n₀ n₁ n₂ w g Bx len D out st acc) {B' B : List Nat} (hB' : ∀ k, k ∈ B' → w.heap.size ≤ k) (hL : LocB B w w') (hB : ∀ k, k ∈ B → k ∈ B' ∨ k ∈ Bx) (hm : ∀ k, k ∈ B' → k ∈ B) : Two z n₀ n₁ n₂ w' g (B' ++ Bx) len D out st acc := by
  obtain ⟨h1, h2⟩ := h.boxes hB'
  have hg := h.pin.lt
  have hk : ∀ (E : List Nat) k, k < w.heap.size → k ∉ g :: (B' ++ Bx ++ E) → w'.heap[k]? = w.heap[k]? := fun E k hk hn => hL.block k hk fun hb => hn (by
    simp only [List.mem_cons, List.mem_append]
    exact (hB k hb).elim (fun e => .inr (.inl (.inl e))) (fun e => .inr (.inl (.inr e))))
  refine ⟨h.pin.loc hL fun b hb => (hB b hb).elim (fun e => by have := hB' b e; omega) (fun e => (h.box b e).2), h1.keep M.niceNode (hk _) hL.size, fun k hk' => Nat.lt_of_lt_of_le (h.dok k hk') hL.size, fun hz => ⟨(h2 hz).keep M.niceDef (hk _) hL.size, (h.defs hz).2⟩, fun k hk' => ?_, h.low, Nat.le_trans h.siz hL.size⟩
  rcases List.mem_append.1 hk' with e | e
  · exact ⟨hL.mem k (hm k e), by have := hB' k e; omega⟩
  · exact ⟨Nat.lt_of_lt_of_le (h.box k e).1 hL.size, (h.box k e).2⟩
theorem Two.olen (h : Two z n₀ n₁ n₂ w g Bx len D out st acc) : out.len = acc.length := h.bld.len M.niceNode

/-- One more node. -/
theorem Two.push (h : Two z n₀ n₁ n₂ w g Bx len D out st acc) (hl : acc.length ≤ 1000000) {x : M.Node} {c : List Value} {S' : Nat → Prop} (hx : M.nodeR w S' x c) (hS' : ∀ k, S' k → rng n₂ w.heap.size k ∧ k ∉ dB out ∧ k ∉ g :: (Bx ++ dB D)) (e : TypeId) :
    ∃ old, AppPre w out 9 136 1 old ∧ ∀ out' w', AppRes w out 9 e c 1 old out' w' → Two z n₀ n₁ n₂ w' g Bx len D out' st (acc ++ [x]) ∧ Fr (fun k => k ∈ dB out) w w' := by
  have ho := h.olen
  obtain ⟨old, hpre, hex⟩ := h.bld.pre (bytes := 136) (n := 1) (by omega)
  refine ⟨old, hpre, fun out' w' hr => ?_⟩
  obtain ⟨h1, h2, h3⟩ := Bld.push M.niceNode hex h.siz (fun b hb => by
    simp only [List.mem_cons, List.mem_append] at hb
    rcases hb with rfl | hb | hb
    · exact h.pin.lt
    · exact (h.box b hb).1
    · exact h.dok b hb) hx (fun k hk => ⟨(hS' k hk).1, fun ad had e => (hS' k hk).2.1 (dB_mem.2 ⟨ad, had, e⟩), (hS' k hk).2.2⟩) hr
  have hf : Fr (fun k => k ∈ dB out) w w' := h2.fr.mono fun k ⟨ad, had, e⟩ => .inl (dB_mem.2 ⟨ad, had, e⟩)
  have hod := h.bld.dlt
  refine ⟨⟨h.pin.fr hf (fun hg => (hod g hg).2.2 (by simp)) (fun k hk => Nat.le_trans h.low (hod k hk).2.1), h1, fun k hk => Nat.lt_of_lt_of_le (h.dok k hk) hf.size, fun hz => ⟨?_, (h.defs hz).2⟩, fun k hk => ⟨Nat.lt_of_lt_of_le (h.box k hk).1 hf.size, (h.box k hk).2⟩, h.low, Nat.le_trans h.siz hf.size⟩, hf⟩
  have hD := (h.defs hz).1
  have hDk := hD.keep M.niceDef (w' := w') (fun k hk hn => hf.block k hk fun hb => hn (by simp [hb])) hf.size
  -- the slice's block: the old one, or a new one
  cases hoa : out'.a with
  | none => exact hDk.less fun k hk => by simp [dB, hoa] at hk ⊢; rcases hk with e | e; exact .inl e; exact .inr (.inl e)
  | some ad =>
    rcases h2.at_ ad hoa with e | e
    · exact hDk.less fun k hk => by simp [dB, hoa, e] at hk ⊢; exact hk
    · have hnew := (hD.more (b := ad.block) (by omega)).keep M.niceDef (w' := w') (fun k hk hn => hf.block k hk fun hb => hn (by simp [hb])) hf.size
      exact hnew.less fun k hk => by simp [dB, hoa] at hk ⊢; rcases hk with e | e | e; exact .inr (.inl e); exact .inr (.inr (.inl e)); exact .inl e
end

end Go.Vc
namespace Go.Vc
open Go
section
variable {z : Bool} {n₀ n₁ n₂ : Nat} {w w' : World} {g : Nat} {Bx : List Nat} {len : Int} {D out : Sl} {st : M.St} {acc : List M.Node}

/-- The last node: its kind, its text, and another text for it. -/
theorem Two.text (h : Two z n₀ n₁ n₂ w g Bx len D out st acc) {init b e : List M.Node} {hd : M.Hd} (ha : acc = init ++ [.mk hd b e]) :
    ∃ ad, out.a = some ad ∧ ad.block < w.heap.size ∧ ad.block ∉ g :: Bx ∧ CellsAt w (ad.add (init.length * 9)) [.int .i64 hd.kind] ∧ CellsAt w ((ad.add (init.length * 9)).add 1) [.string (bs hd.text)] ∧
      ∀ t : Bytes, StoreOk w ((ad.add (init.length * 9)).add 1) 1 ∧ Two z n₀ n₁ n₂ (setCells w ((ad.add (init.length * 9)).add 1) [.string (bs t)]) g Bx len D out st (init ++ [.mk { hd with text := t } b e]) ∧ Fr (fun k => k ∈ dB out) w (setCells w ((ad.add (init.length * 9)).add 1) [.string (bs t)]) := by
  subst ha
  have hi : init.length < (init ++ [M.Node.mk hd b e]).length := by simp
  obtain ⟨ad, S, c, h1, h2, h3, h4, h5, h6, h7⟩ := h.bld.cell M.niceNode init.length hi
  rw [List.getElem_append_right (Nat.le_refl _)] at h4
  simp only [Nat.sub_self, List.getElem_cons_zero] at h4
  obtain ⟨slp, slb, sle, rfl, k1, k2, k3⟩ := (M.nodeR_mk _ _ _ _ _ _).1 h4
  refine ⟨ad, h1, h3.2, fun hb => h2 (by simp only [List.mem_cons, List.mem_append] at hb ⊢; exact hb.elim .inl (fun e => .inr (.inl e))), ?_, ?_, fun t => ?_⟩
  · exact CellsAt.left (ys := [.string (bs hd.text), .string (bs hd.name), .slice slp.a slp.len slp.cap, .slice slb.a slb.len slb.cap, .slice sle.a sle.len sle.cap, .int .i64 hd.at_, .int .i64 hd.esc, .int .i64 hd.unit]) h6
  · exact CellsAt.left (ys := [.string (bs hd.name), .slice slp.a slp.len slp.cap, .slice slb.a slb.len slb.cap, .slice sle.a sle.len sle.cap, .int .i64 hd.at_, .int .i64 hd.esc, .int .i64 hd.unit]) (CellsAt.right (xs := [.int .i64 hd.kind]) (ys := [.string (bs hd.text), .string (bs hd.name), .slice slp.a slp.len slp.cap, .slice slb.a slb.len slb.cap, .slice sle.a sle.len sle.cap, .int .i64 hd.at_, .int .i64 hd.esc, .int .i64 hd.unit]) h6)
  · obtain ⟨g1, g2⟩ := h7 1 (.string (bs t)) (.mk { hd with text := t } b e) S (by omega) h5 ((M.nodeR_mk _ _ _ _ _ _).2 ⟨slp, slb, sle, rfl, k1, k2, k3⟩)
    have hset : (init ++ [M.Node.mk hd b e]).set init.length (.mk { hd with text := t } b e) = init ++ [.mk { hd with text := t } b e] := by
      rw [List.set_append_right _ _ (Nat.le_refl _)]; simp
    rw [hset] at g2
    have hf : Fr (fun k => k ∈ dB out) w (setCells w ((ad.add (init.length * 9)).add 1) [.string (bs t)]) := (set1_fr _ _ _).mono fun k hk => .inl (dB_mem.2 ⟨ad, h1, by rw [hk, add_block, add_block]⟩)
    have hod := h.bld.dlt
    refine ⟨g1, ⟨h.pin.fr hf (fun hg => (hod g hg).2.2 (by simp)) (fun k hk => Nat.le_trans h.low (hod k hk).2.1), g2, fun k hk => Nat.lt_of_lt_of_le (h.dok k hk) hf.size, fun hz => ⟨(h.defs hz).1.keep M.niceDef (fun k hk hn => hf.block k hk fun hb => hn (by simp [hb])) hf.size, (h.defs hz).2⟩, fun k hk => ⟨Nat.lt_of_lt_of_le (h.box k hk).1 hf.size, (h.box k hk).2⟩, h.low, Nat.le_trans h.siz hf.size⟩, hf⟩

/-- The next piece, taken off. -/
theorem Two.pop (h : Two z n₀ n₁ n₂ w g Bx len D out st acc) {x : M.W} {r : List M.W} (hl : st.l = x :: r) :
    ∃ L : Sl, CellsAt w ⟨g, 0, none⟩ [.slice L.a L.len L.cap] ∧ 1 ≤ L.len ∧ StoreOk w ⟨g, 0, none⟩ 1 ∧
      Two z n₀ n₁ n₂ (setCells w ⟨g, 0, none⟩ [.slice (cutA L.a 1 L.cap 3) (L.len - 1) (L.cap - 1)]) g Bx len D out { st with l := r } acc ∧ Fr (fun k => k = g) w (setCells w ⟨g, 0, none⟩ [.slice (cutA L.a 1 L.cap 3) (L.len - 1) (L.cap - 1)]) := by
  obtain ⟨L, h1, h2⟩ := h.pin.par
  have hlen := h2.len
  rw [hl, List.length_cons] at hlen
  have hf : Fr (fun k => k = g) w (setCells w ⟨g, 0, none⟩ [.slice (cutA L.a 1 L.cap 3) (L.len - 1) (L.cap - 1)]) := set1_fr w ⟨g, 0, none⟩ _
  have hlow := h.pin.low
  have hlt := h.pin.lt
  have hsub := h2.sub M.wR.size 1 st.l.length (by rw [hl, List.length_cons]; omega) (Nat.le_refl _) (by omega)
  rw [List.take_of_length_le (by rw [List.length_drop]; exact Nat.le_refl _)] at hsub
  have hP : PIn n₀ (setCells w ⟨g, 0, none⟩ [.slice (cutA L.a 1 L.cap 3) (L.len - 1) (L.cap - 1)]) g len D { st with l := r } := by
    refine ⟨⟨⟨cutA L.a 1 L.cap 3, L.len - 1, L.cap - 1⟩, h1.w0 ⟨cutA L.a 1 L.cap 3, L.len - 1, L.cap - 1⟩, ?_⟩, h.pin.low, h.pin.few⟩
    rw [hl, List.length_cons, Nat.add_sub_cancel, List.drop_succ_cons, List.drop_zero] at hsub
    rw [hlen, Nat.add_sub_cancel]
    exact hsub.keep (fun _ _ h => h) fun k hk => (set1_fr w ⟨g, 0, none⟩ _).block k (by omega) (by show ¬ k = g; omega)
  exact ⟨L, h1.c0, by omega, h1.s0, h.fr hP rfl hf, hf⟩
/-- The pieces are there to be read. -/
theorem Two.items (h : Two z n₀ n₁ n₂ w g Bx len D out st acc) : ∃ L : Sl, CellsAt w ⟨g, 0, none⟩ [.slice L.a L.len L.cap] ∧ L.len = st.l.length ∧
    ∀ (x : M.W) (r : List M.W), st.l = x :: r → ∃ ad, L.a = some ad ∧ CellsAt w (ad.add (0 * 3)) [.int .i64 x.kind, .string (bs x.text), .int .i64 x.at_] := by
  obtain ⟨L, h1, h2⟩ := h.pin.par
  have hlow := h.pin.low
  have hlt := h.pin.lt
  refine ⟨L, h1.c0, h2.len, fun x r hl => ?_⟩
  obtain ⟨ad, p1, _, p2, _⟩ := M.words_read h2 (fun k hk => by omega) (Grow.refl w) 0 (by rw [hl]; simp)
  refine ⟨ad, p1, ?_⟩
  simpa [hl] using p2
end
end Go.Vc
namespace Go.Vc
open Go
section
variable {z : Bool} {n₀ n₁ n₂ : Nat} {w w' : World} {g : Nat} {Bx : List Nat} {len : Int} {D out : Sl} {st : M.St} {acc : List M.Node}
/-- A template has been made. -/
theorem Two.define (h : Two z n₀ n₁ n₂ w g Bx len D out st acc) {D' : Sl} {st' : M.St} (hz : z = true) (hf : Fr (fun k => k = g ∨ k ∈ dB D) w w') (hP : PIn n₀ w' g len D' st') (hb : Bld M.defR n₁ w' D' 2 st'.defs (g :: (Bx ++ dB out))) (hD : ∀ k, k ∈ dB D' → k ∈ dB D ∨ w.heap.size ≤ k) : Two z n₀ n₁ n₂ w' g Bx len D' out st' acc := by
  refine ⟨hP, ?_, fun k hk => (hb.dlt k hk).1, fun _ => ⟨hb, (h.defs hz).2⟩, fun k hk => ⟨Nat.lt_of_lt_of_le (h.box k hk).1 hf.size, (h.box k hk).2⟩, h.low, Nat.le_trans h.siz hf.size⟩
  have hk := h.bld.keep M.niceNode (w' := w') (fun k hk hn => hf.block k hk fun hb => hn (by simp; exact hb.elim .inl (fun e => .inr (.inr e)))) hf.size
  cases hoa : D'.a with
  | none => exact hk.less fun k hk => by simp [dB, hoa] at hk ⊢; rcases hk with e | e; exact .inl e; exact .inr (.inl e)
  | some ad =>
    rcases hD ad.block (dB_mem.2 ⟨ad, hoa, rfl⟩) with e | e
    · refine hk.less fun k hk => ?_
      simp only [dB, hoa, List.mem_cons, List.mem_append, List.not_mem_nil, or_false] at hk ⊢
      rcases hk with q | q | q
      · exact .inl q
      · exact .inr (.inl q)
      · rw [q]; exact .inr (.inr e)
    · have hn := (h.bld.more (b := ad.block) e).keep M.niceNode (w' := w') (fun k hk hn => hf.block k hk fun hb => hn (by simp; exact hb.elim (fun e => .inr (.inl e)) (fun e => .inr (.inr (.inr e))))) hf.size
      refine hn.less fun k hk => ?_
      simp only [dB, hoa, List.mem_cons, List.mem_append, List.not_mem_nil, or_false] at hk ⊢
      rcases hk with q | q | q
      · exact .inr (.inl q)
      · exact .inr (.inr (.inl q))
      · exact .inl q
end
end Go.Vc

/- Deferred closures that recover a fault, and what then leaves the function. -/
namespace Go.Vc
open Go

section
variable {cx : Cx} {st : St} {a : Act} {w : World}

/-- Operations without a recover, within a deferred call. -/
theorem vOpsS_ok {ops : Array Oper} {K : St → Prop} {QP : List PanicEntry → St → Prop} {Q : Exit → Act → List Frame → World → Prop} {cs : List Frame} (hK : ∀ st a w, K st → Rel cx st a w → Q .normal a cs w) (hQ : PanicsTo cx QP fun e a w => Q e a cs w) :
    ∀ (l : List Oper) (k : Nat) (st : St) (a : Act) (w : World), (∀ j, j < l.length → l[j]? = ops[k + j]?) → vOps cx ops.toList l st K QP → Rel cx st a w → wpOpsS cx.P ops Q (List.range' k l.length) a cs w
  | [], k, st, a, w, _, h, hR => hK st a w h hR
  | o :: r, k, st, a, w, hk, h, hR => by
    have h0 := hk 0 (by simp)
    simp only [List.getElem?_cons_zero, Nat.add_zero] at h0
    have hr : ∀ j, j < r.length → r[j]? = ops[k + 1 + j]? := fun j hj => by
      have := hk (j + 1) (by simp; omega)
      rw [List.getElem?_cons_succ] at this
      rw [this]; congr 1; omega
    unfold vOps at h
    rw [List.length_cons, List.range'_succ]
    unfold wpOpsS
    simp only [← h0]
    rcases vGuard_ok h hR with ⟨hw, st', h, hS⟩ | ⟨hw, st', h, hS⟩
    · rw [if_pos hw]
      have hwp := Oper.wp_mono (fun a' w' ⟨_, st'', h'', hR'', _⟩ => vOpsS_ok hK hQ r (k + 1) st'' a' w' hr h'' hR'') (vOp_ok h hS.rel (hQ.at a))
      unfold Oper.wp at hwp
      split
      · rename_i w' hrun
        rw [hrun] at hwp
        exact hwp.elim
      · exact hwp
    · rw [if_neg (by rw [hw]; exact Bool.false_ne_true)]
      obtain ⟨st'', h'', hR'', _⟩ := putD_ok (M := []) h hS.rel rfl ⟨_, (List.append_nil _).symm⟩
      exact vOpsS_ok hK hQ r (k + 1) st'' _ w hr h'' hR''
end

/-- Is it a closure whose first operations recover, and ask for this type? -/
def recOps (T : TypeId) (o0 o1 : Oper) : Bool :=
  match o0.op, o1.op, o0.guard, o1.guard, o0.dst with
  | .call c, .typeAssert (.tmp x) _ t true, none, none, some d0 => (match c.callee with
    | .builtin .recover => true
    | _ => false) && Nat.beq x d0 && Nat.beq t T
  | _, _, _, _, _ => false

/-- The condition of such a closure, where the value recovered is 'v', and the assertion answers 'tv'. -/
def vcRec (fn : Func) (cx : Cx) (T : TypeId) (v tv : Value) (st : St) (Q : Exit → St → Prop) : Prop :=
  match bodyOf fn with
  | .seq (.region _ ops false) rest => match ops.toList with
    | o0 :: o1 :: more => match o0.dst, o1.dst with
      | some d0, some d1 => match recOps T o0 o1 && Nat.blt d0 cx.N && Nat.blt d1 cx.N with
        | true => vOps cx ops.toList more { st with env := (d1, .val tv) :: (d0, .val v) :: st.env } (fun st => vc rest cx 0 st Q) (fun ch st => Q (.panic ch) st)
        | false => False
      | _, _ => False
    | _ => False
  | _ => False

/-- What recover answers in a mode of the frame that defers, and the mode behind it. -/
def RecTo (u u' : FrameMode) (v : Value) : Prop :=
  ∀ (c : Frame) (cs : List Frame), c.mode = u → (recoverD (c :: cs) = some (v, { c with mode := u' } :: cs)) ∨ (recoverD (c :: cs) = none ∧ v = .nilIface ∧ u' = u)

theorem recTo_returning : RecTo .returning .returning .nilIface := fun c cs h => .inr ⟨by simp [recoverD, h], rfl, rfl⟩
theorem recTo_panicking (v : Value) (older : List PanicEntry) : RecTo (.panicking ({ v, recovered := false } :: older)) (.panicking ({ v, recovered := true } :: older)) v :=
  fun c cs h => .inl (by simp [recoverD, h])


section
variable {P : Program}

theorem run_recover {o : Oper} {c : Call} (ho : o.op = .call c) (hc : c.callee = .builtin .recover) (ρ : Operand → Value) (w : World) : (execOp ρ o).run P w = .ok .recover w := by
  simp [execOp, ho, resolve, hc, invoke, builtin]

/-- A type assertion to a type that is no interface. -/
theorem notIface {T : TypeId} (h : isIfaceT P T = false) : ∃ d, P.underlying T = some d ∧ ∀ m, d ≠ .interface m := by
  unfold isIfaceT at h
  split at h
  · cases h
  · rename_i d h1 h2
    exact ⟨d, h2, fun m hm => h1 m hm⟩
  · cases h
theorem run_assert_yes {T it : TypeId} (hT : isIfaceT P T = false) (v : Value) (w : World) : (Instr.typeAssert (.iface T v) it T true).run P w = .ok (.tuple #[v, .bool true]) w := by
  obtain ⟨d, hT, hd⟩ := notIface hT
  unfold Instr.typeAssert
  simp only [Sem.run_bind, run_underlying hT, Result.andThen_ok]
  cases d <;> simp at hd <;> simp
theorem run_assert_no {T it : TypeId} {z : Value} (hT : isIfaceT P T = false) (hz : (P.info? T).bind (·.zero) = some z) (w : World) : (Instr.typeAssert .nilIface it T true).run P w = .ok (.tuple #[z, .bool false]) w := by
  obtain ⟨d, hT, hd⟩ := notIface hT
  have hzv : (zeroValue T).run P w = .ok z w := by
    cases hi : P.info? T with
    | none => simp [hi] at hz
    | some ti => simp only [hi, Option.bind_some] at hz; simp [zeroValue, typeInfo, hi, hz]
  unfold Instr.typeAssert
  simp only [Sem.run_bind, run_underlying hT, Result.andThen_ok]
  cases d <;> simp at hd <;> simp [hzv]

theorem callsD_rec {f : FuncId} {fn : Func} {args : List Value} {u u' : FrameMode} {w : World} {R : Ending → World → Prop} (an : Ann) (T : TypeId) (v tv : Value) (hf : P.funcs[f]? = some fn) (hb : fn.body = some (bodyOf fn)) (hn : Nat.ble args.length fn.ntmps = true)
    (hu : RecTo u u' v) (ha : ∀ it w, (Instr.typeAssert v it T true).run P w = .ok tv w)
    (h : vcRec fn (cx0 P fn an) T v tv (st0 args w) (vEnd (cx0 P fn an) fn R)) : CallsD P f args.toArray u w fun e u₁ w' => u₁ = u' ∧ R e w' := by
  refine callsD_of_wpS hf hb fun c₀ cs hc => ?_
  have hR0 := rel0 (P := P) (fn := fn) (an := an) (w := w) (ble_of hn)
  unfold vcRec at h
  split at h
  case h_2 => exact h.elim
  rename_i id ops rest hbody
  split at h
  case h_2 => exact h.elim
  rename_i o0 o1 more hops
  split at h
  case h_2 => exact h.elim
  rename_i d0 d1 hd0 hd1
  split at h
  case h_2 => exact h.elim
  rename_i hcond
  simp only [Bool.and_eq_true] at hcond
  obtain ⟨⟨hrec, hlt0⟩, hlt1⟩ := hcond
  rw [hbody]
  have hcs : ∀ Q : List Frame → Prop, Q ({ c₀ with mode := u' } :: cs) → (match recoverD (c₀ :: cs) with
      | some (v', cs') => v' = v ∧ Q cs'
      | none => v = .nilIface ∧ Q (c₀ :: cs)) := by
    intro Q hQ
    rcases hu c₀ cs hc with e | ⟨e, e2, e3⟩
    · rw [e]; exact ⟨rfl, hQ⟩
    · rw [e]
      refine ⟨e2, ?_⟩
      have : ({ c₀ with mode := u' } : Frame) = c₀ := by subst e3; rw [← hc]
      rw [this] at hQ; exact hQ
  -- the ends
  have hend : ∀ e st a w, vEnd (cx0 P fn an) fn R e st → (match e with
      | .panic _ => RelP (cx0 P fn an) st a w
      | _ => Rel (cx0 P fn an) st a w) → bodyPostS P fn c₀ cs (fun e u₁ w' => u₁ = u' ∧ R e w') e a ({ c₀ with mode := u' } :: cs) w := by
    intro e st a w he hr
    have hnil : ∀ {l : List Deferred}, isNil l = true → l = [] := by
      intro l hl
      cases l with
      | nil => rfl
      | cons x r => cases hl
    have ret : (match isNil st.defers with
        | true => vRes (cx0 P fn an) fn.results.toList st fun vs st => flush (cx0 P fn an) st fun st => R (.returned (retV vs)) st.w
        | false => False) → Rel (cx0 P fn an) st a w → a.defers = [] ∧ ∃ u₁, ({ c₀ with mode := u' } : Frame) :: cs = { c₀ with mode := u₁ } :: cs ∧ ∃ v, (results fn a.tmps).run P w = .ok v w ∧ (u₁ = u' ∧ R (.returned v) w) := by
      intro h hr
      split at h
      · rename_i hd
        obtain ⟨vs, st1, h1, h2, h3⟩ := vRes_ok _ _ _ h hr
        obtain ⟨st2, h4, _, hw, _⟩ := flush_ok h1 h2
        refine ⟨by rw [hr.defers, hnil hd]; rfl, u', rfl, retV vs, run_results h3, rfl, by rw [hw] at h4; exact h4⟩
      · exact h.elim
    cases e with
    | normal => exact ret he hr
    | ret => exact ret he hr
    | panic ch =>
      simp only [vEnd] at he
      split at he
      · rename_i hd
        refine ⟨by rw [hr.defers, hnil hd]; rfl, u', rfl, rfl, ?_⟩
        rw [hr.world]
        exact he
      · exact he.elim
    | exit id => exact he.elim
    | goto l => exact he.elim
    | outgrown => exact he.elim
  refine wpS_seq (wpS_region ?_)
  have hsz : ops.size = more.length + 2 := by
    have := congrArg List.length hops
    simpa using this
  rw [hsz, List.range_eq_range', List.range'_succ, List.range'_succ]
  have hg0 : ops[0]? = some o0 := by rw [← Array.getElem?_toList, hops]; rfl
  have hg1 : ops[0 + 1]? = some o1 := by rw [← Array.getElem?_toList, hops]; rfl
  unfold recOps at hrec
  split at hrec
  case h_2 => cases hrec
  rename_i c x it t d0' ho0 ho1 hq0 hq1 hdd
  rw [hd0] at hdd
  cases hdd
  simp only [Bool.and_eq_true] at hrec
  obtain ⟨⟨hcal, hx⟩, ht⟩ := hrec
  have hx := beq_of hx
  have ht := beq_of ht
  subst hx ht
  have hcal : c.callee = .builtin .recover := by
    split at hcal
    · assumption
    · cases hcal
  unfold wpOpsS
  simp only [hg0]
  rw [if_pos (by simp [Region.wanted, hq0]), run_recover ho0 hcal]
  simp only
  -- the rest, behind the recover
  have tail : wpOpsS P ops (Exit.thenS (rest.wpS P (bodyPostS P fn c₀ cs fun e u₁ w' => u₁ = u' ∧ R e w')) (bodyPostS P fn c₀ cs fun e u₁ w' => u₁ = u' ∧ R e w')) (List.range' (0 + 1) (more.length + 1))
      (({ tmps := args.toArray ++ Array.replicate (fn.ntmps - args.toArray.size) undef, defers := [] } : Act).put o0.dst v) ({ c₀ with mode := u' } :: cs) w := by
    rw [List.range'_succ]
    unfold wpOpsS
    simp only [hg1]
    rw [if_pos (by simp [Region.wanted, hq1])]
    have hput : (({ tmps := args.toArray ++ Array.replicate (fn.ntmps - args.toArray.size) undef, defers := [] } : Act).put o0.dst v) = { ({ tmps := args.toArray ++ Array.replicate (fn.ntmps - args.toArray.size) undef, defers := [] } : Act) with tmps := (args.toArray ++ Array.replicate (fn.ntmps - args.toArray.size) undef).setIfInBounds x v } := by rw [hd0]; rfl
    obtain ⟨st1, k1, hR1, _⟩ := putD_ok (cx := cx0 P fn an) (M := []) (dst := o0.dst) (sv := .val v) (v := v) (K := fun st1 => st1 = { st0 args w with env := (x, .val v) :: (st0 args w).env }) (by rw [hd0]; unfold putD; simp only [hlt0]) hR0 rfl ⟨_, (List.append_nil _).symm⟩
    subst k1
    have hev : (({ tmps := args.toArray ++ Array.replicate (fn.ntmps - args.toArray.size) undef, defers := [] } : Act).put o0.dst v).eval (.tmp x) = v := by
      have := ev_ok hR1 (.tmp x)
      have e : ev (cx0 P fn an) { st0 args w with env := (x, .val v) :: (st0 args w).env } (.tmp x) = .val v := by
        simp only [ev, get, hlt0]
        rw [List.cons_append, look_cons_same]
      rw [e] at this
      exact this
    have hrun : (execOp (({ tmps := args.toArray ++ Array.replicate (fn.ntmps - args.toArray.size) undef, defers := [] } : Act).put o0.dst v).eval o1).run P w = .ok (.value tv) w := by
      unfold execOp
      simp only [ho1]
      rw [hev, Sem.run_bind, ha it w]
      simp only [Result.andThen_ok, Sem.run_pure]
    rw [hrun]
    obtain ⟨st2, k2, hR2, _⟩ := putD_ok (cx := cx0 P fn an) (M := []) (dst := o1.dst) (sv := .val tv) (v := tv) (K := fun st2 => st2 = { st0 args w with env := (d1, .val tv) :: (x, .val v) :: (st0 args w).env }) (by rw [hd1]; unfold putD; simp only [hlt1]) hR1 rfl ⟨_, (List.append_nil _).symm⟩
    subst k2
    refine vOpsS_ok (Q := Exit.thenS (rest.wpS P (bodyPostS P fn c₀ cs fun e u₁ w' => u₁ = u' ∧ R e w')) (bodyPostS P fn c₀ cs fun e u₁ w' => u₁ = u' ∧ R e w')) ?_ ?_ more (0 + 1 + 1) _ _ w (fun j hj => ?_) h hR2
    · intro st3 a3 w3 h3 hR3
      exact wpS_of_wp (vc_ok rest (cx0 P fn an) 0 st3 _ a3 w3 _ h3 hR3 fun e st a w he hr => hend e st a w he (by cases e <;> exact hr))
    · intro ch st3 a3 w3 h3 hR3
      exact hend (.panic ch) st3 a3 w3 h3 hR3
    · rw [← Array.getElem?_toList, hops]
      rw [show 0 + 1 + 1 + j = j + 2 by omega]
      simp
  have := hcs (fun cs' => wpOpsS P ops (Exit.thenS (rest.wpS P (bodyPostS P fn c₀ cs fun e u₁ w' => u₁ = u' ∧ R e w')) (bodyPostS P fn c₀ cs fun e u₁ w' => u₁ = u' ∧ R e w')) (List.range' (0 + 1) (more.length + 1))
      (({ tmps := args.toArray ++ Array.replicate (fn.ntmps - args.toArray.size) undef, defers := [] } : Act).put o0.dst v) cs' w) tail
  split at this
  · rename_i v' cs' hr
    obtain ⟨rfl, this⟩ := this
    simp only [hr]
    exact this
  · rename_i hr
    obtain ⟨rfl, this⟩ := this
    simp only [hr]
    exact this

end
end Go.Vc

namespace Go.Vc
open Go

/-- Results read where they lie: 'slots' are what the slots hold. -/
def rRes (P : Program) (slots : List (Nat × Value)) (w : World) : List ResultVar → (List Value → Prop) → Prop
  | [], K => K []
  | .tmp t :: r, K => match assoc slots t with
    | some v => rRes P slots w r fun vs => K (v :: vs)
    | none => False
  | .cell d t :: r, K => match P.info? t, P.underlying t, assoc slots d with
    | some ti, some dsc, some (.pointer (some a)) => match ti.zero with
      | some z => match isAggD dsc with
        | true => match Nat.beq (cellsL z).length ti.size with
          | true => exCells (cellsL z) fun vs => CellsAt w a vs ∧ rRes P slots w r fun us => K (.agg vs.toArray :: us)
          | false => False
        | false => exCell z fun v => CellsAt w a [v] ∧ rRes P slots w r fun us => K (v :: us)
      | none => False
    | _, _, _ => False

theorem slots_assoc {tmps : Array Value} {i : Nat} {v : Value} : ∀ {l : List (Nat × Value)}, slotsHold tmps l → assoc l i = some v → tmps.getD i undef = v
  | [], _, h => by cases h
  | (k, u) :: r, hs, h => by
    unfold assoc at h
    split at h
    · rename_i hb
      have := beq_of hb
      subst this
      cases h
      exact hs.1
    · exact slots_assoc hs.2 h

theorem rRes_ok {P : Program} {slots : List (Nat × Value)} {w : World} {tmps : Array Value} (hs : slotsHold tmps slots) : ∀ (l : List ResultVar) (K : List Value → Prop), rRes P slots w l K → ∃ vs, K vs ∧ (l.mapM (resSem tmps)).run P w = .ok vs w
  | [], K, h => ⟨[], h, by simp⟩
  | .tmp t :: r, K, h => by
    unfold rRes at h
    split at h
    · rename_i v hv
      obtain ⟨vs, h1, h2⟩ := rRes_ok hs r _ h
      refine ⟨v :: vs, h1, ?_⟩
      rw [List.mapM_cons, Sem.run_bind]
      simp only [resSem, Sem.run_pure, Result.andThen_ok, Sem.run_bind, h2, slots_assoc hs hv]
    · exact h.elim
  | .cell d t :: r, K, h => by
    unfold rRes at h
    split at h
    · rename_i ti dsc a hi hu ha
      have hd := slots_assoc hs ha
      split at h
      · rename_i z hz
        split at h
        · rename_i hagg
          split at h
          · rename_i hl
            obtain ⟨vs, hvl, hc, h⟩ := exCells_ok _ _ h
            obtain ⟨us, h1, h2⟩ := rRes_ok hs r _ h
            refine ⟨_, h1, ?_⟩
            have := run_loadVar_agg hi hu hagg (hvl.trans (beq_of hl)) hc
            have hrun : (resSem tmps (.cell d t)).run P w = .ok (.agg vs.toArray) w := by
              simp only [resSem, hd]
              simpa [asAddr, Instr.loadAt, Instr.sureAddr] using this
            rw [List.mapM_cons, Sem.run_bind]
            simp only [hrun, Sem.run_pure, Result.andThen_ok, Sem.run_bind, h2]
          · exact h.elim
        · rename_i hagg
          obtain ⟨v, hc, h⟩ := exCell_ok h
          obtain ⟨us, h1, h2⟩ := rRes_ok hs r _ h
          refine ⟨_, h1, ?_⟩
          have hc0 := hc 0 v rfl
          have := run_loadVar_one hu hagg (by simpa [Addr.add] using hc0)
          have hrun : (resSem tmps (.cell d t)).run P w = .ok v w := by
            simp only [resSem, hd]
            simpa [asAddr, Instr.loadAt, Instr.sureAddr] using this
          rw [List.mapM_cons, Sem.run_bind]
          simp only [hrun, Sem.run_pure, Result.andThen_ok, Sem.run_bind, h2]
      · exact h.elim
    · exact h.elim

/-- One deferred closure that recovers, and then the results. -/
theorem leaves_rec {P : Program} {fn clo : Func} {F : FuncId} {tmps : Array Value} {slots : List (Nat × Value)} {caps : List Value} {u u' : FrameMode} {w : World} {R : Ending → World → Prop} (an : Ann) (T : TypeId) (v tv : Value)
    (hrun : u ≠ .run) (hu : RecTo u u' v) (hset : settle u' = .returning) (hf : P.funcs[F]? = some clo) (hb : clo.body = some (bodyOf clo)) (hen : enterable P F = true) (hn : Nat.ble caps.length clo.ntmps = true)
    (ha : ∀ it w, (Instr.typeAssert v it T true).run P w = .ok tv w) (hs : slotsHold tmps slots)
    (h : vcRec clo (cx0 P clo an) T v tv (st0 caps w) (vEnd (cx0 P clo an) clo fun e w' => ∃ x, e = .returned x ∧ rRes P slots w' fn.results.toList fun vs => R (.returned (retV vs)) w')) :
    Leaves P fn tmps R [{ target := .fn (.func F) caps.toArray, args := #[] }] u w := by
  refine leaves_cons (f := F) (args := caps.toArray) hrun ?_ ((callsD_rec an T v tv hf hb hn hu ha h).mono ?_)
  · simp only [invoke]
    rw [run_callFunc_enter hen w]
    simp
  · rintro e u₁ w' ⟨rfl, x, rfl, h⟩
    simp only
    rw [hset]
    obtain ⟨vs, h1, h2⟩ := rRes_ok hs _ _ h
    exact ⟨_, run_results h2, h1⟩

end Go.Vc

/- The end of a row, where memory that was there is as it was (for one call; nothing is asked of a second one). -/
namespace Go.Vc
open Go Go.ChangeShapes Go.WideShapes
section
variable {H : Type} {enc : TypeId × Value → H} {P : Program}
theorem post_once {f : Func} {s : ChangeSpec} {apart fresh handsOn : Bool} {W W' : World} {args : Array Value} {v : Value} {ds gs : List (DataW H)} {before pa pv : List MemPlace}
    (hW : DataW.Whole enc P f.params.toList s.vars apart W args.toList ds gs before)
    (hres : ∀ (b : Nat) (sp : Nat → Bool) (hd : Bool), DataW.TrodAll enc P W' b sp hd f.resultTypes.toList (v.resultList f.resultTypes.size) (s.fn H (ds ++ gs)).results [])
    (hargs : ∀ sp : Nat → Bool, (∀ p ∈ before, sp p.block = true) → DataW.TrodAll enc P W' 0 sp true f.params.toList args.toList (s.fn H (ds ++ gs)).args pa)
    (hvars : ∀ sp : Nat → Bool, (∀ p ∈ before, sp p.block = true) → DataW.TrodVars enc P W' sp s.vars (s.fn H (ds ++ gs)).vars pv)
    (hps : before = pa ++ pv) (hk : W.keptBut W' (· ∈ before)) :
    s.post enc P f apart fresh handsOn false W args v W' := by
  have hold : ∀ p ∈ before, (fun b => decide (b < W.heap.size)) p.block = true := fun p hp => by simpa using hW.lt p hp
  refine ⟨ds, gs, before, [], pa, pv, hW, hres _ _ _, hargs _ hold, hvars _ hold, World.keptBut_mono (fun p hp => ⟨hp, ?_⟩) hk, fun h => by cases h⟩
  rw [hps, List.mem_append] at hp
  exact Or.inr hp
end
end Go.Vc

/- Plain laws: of what the reader makes: how deep, how many nodes, and what holds of each node. -/
namespace Go.Vc.M
open Go Go.Vc

mutual
def depthN : Node → Nat
  | .mk _ b e => 1 + max (depthL b) (depthL e)
def depthL : List Node → Nat
  | [] => 0
  | x :: r => max (depthN x) (depthL r)
end
mutual
def cntN : Node → Nat
  | .mk _ b e => 1 + cntL b + cntL e
def cntL : List Node → Nat
  | [] => 0
  | x :: r => cntN x + cntL r
end
mutual
/-- So of each node of a tree. -/
def allP (p : Hd → List Node → List Node → Prop) : Node → Prop
  | .mk h b e => p h b e ∧ allPL p b ∧ allPL p e
def allPL (p : Hd → List Node → List Node → Prop) : List Node → Prop
  | [] => True
  | x :: r => allP p x ∧ allPL p r
end
theorem depthL_snoc (x : Node) : ∀ l : List Node, depthL (l ++ [x]) = max (depthL l) (depthN x)
  | [] => by simp [depthL]
  | y :: r => by rw [List.cons_append, depthL, depthL, depthL_snoc x r]; omega
theorem cntL_snoc (x : Node) : ∀ l : List Node, cntL (l ++ [x]) = cntL l + cntN x
  | [] => by simp [cntL]
  | y :: r => by rw [List.cons_append, cntL, cntL, cntL_snoc x r]; omega
theorem allPL_snoc {p : Hd → List Node → List Node → Prop} {x : Node} : ∀ {l : List Node}, allPL p (l ++ [x]) ↔ allPL p l ∧ allP p x
  | [] => by simp [allPL]
  | y :: r => by rw [List.cons_append, allPL, allPL, allPL_snoc, and_assoc]

/-- How many nodes templates have. -/
def totD (l : List Def) : Nat := (l.map fun d => cntL d.body).sum
theorem totD_snoc (l : List Def) (d : Def) : totD (l ++ [d]) = totD l + cntL d.body := by simp [totD]
theorem totD_cons (l : List Def) (d : Def) : totD (d :: l) = cntL d.body + totD l := by simp [totD]

theorem countM_size {st st1 : St} {a : Int} (h : countM st a = .ok st1) : st1.size = st.size + 1 ∧ st.size ≠ 1024 := by
  rw [countM] at h
  split at h
  · cases h
  · rename_i hne; cases h; exact ⟨rfl, hne⟩

section
variable {p : Hd → List Node → List Node → Prop} {Src : W → Prop}

structure DefP (p : Hd → List Node → List Node → Prop) (x : Def) : Prop where
  name : x.name ≠ []
  all : allPL p x.body
  depth : depthL x.body ≤ 17
def DefsP (p : Hd → List Node → List Node → Prop) (D : List Def) : Prop := ∃ r, D = ⟨[], []⟩ :: r ∧ ∀ x ∈ r, DefP p x

/-- What a predicate of nodes must bear. -/
structure Bears (p : Hd → List Node → List Node → Prop) (Src : W → Prop) : Prop where
  text : ∀ t a, p ⟨1, t, [], [], a, 0, 0⟩ [] []
  more : ∀ h t, h.kind = 1 → p h [] [] → p { h with text := h.text ++ t } [] []
  leaf : ∀ h b e, h.kind = 1 → p h b e → b = [] ∧ e = []
  one : ∀ x pc h, Src x → x.kind ≠ 1 → wordsP x = .ok pc → singleP pc = .ok (.mk h [] []) → p h [] []
  block : ∀ x pc kind from_ pi b e, Src x → x.kind ≠ 1 → wordsP x = .ok pc → (kind = 3 ∨ kind = 4 ∨ kind = 5) → pipeP pc from_ = .ok pi → p ⟨kind, [], [], pi, pc.at_, 0, 0⟩ b e

theorem singleP_leaf {pc : Piece} {n : Node} (h : singleP pc = .ok n) : ∃ hd, n = .mk hd [] [] := by
  rw [singleP] at h
  repeat' (split at h)
  all_goals first | (cases h; done) | (cases h; exact ⟨_, rfl⟩)
theorem calledM_name {pc : Piece} {s : Bytes} (h : calledM pc = .ok s) : nameB s = true := by
  rw [calledM] at h
  split at h
  · split at h
    · cases h
    · split at h
      · cases h
      · rename_i hn
        cases h
        exact Bool.not_eq_false _ ▸ hn
  · cases h

structure InvN (p : Hd → List Node → List Node → Prop) (Src : W → Prop) (len : Int) (f : Nat) : Prop where
  n : ∀ deep st out l en st', deep ≤ 16 → (∀ x ∈ st.l, Src x) → allPL p out → depthL out + deep ≤ 17 → DefsP p st.defs → st.size ≤ 1024 → nodesF len f deep st out = .ok (l, en, st') →
    allPL p l ∧ depthL l + deep ≤ 17 ∧ DefsP p st'.defs ∧ st'.size ≤ 1024 ∧ totD st'.defs + cntL l + st.size ≤ totD st.defs + cntL out + st'.size ∧ (0 < deep → ∃ x, Src x ∧ x.kind ≠ 1 ∧ wordsP x = .ok en)
  b : ∀ kind x pc from_ deep st n st', deep ≤ 16 → (∀ x ∈ st.l, Src x) → Src x → x.kind ≠ 1 → wordsP x = .ok pc → (kind = 3 ∨ kind = 4 ∨ kind = 5) → DefsP p st.defs → st.size ≤ 1024 → blockF len f kind pc from_ deep st = .ok (n, st') →
    allP p n ∧ depthN n + deep ≤ 17 ∧ st'.size ≤ 1024 ∧ cntN n + st.size ≤ st'.size
  d : ∀ pc st st', (∀ x ∈ st.l, Src x) → DefsP p st.defs → st.size ≤ 1024 → defineF len f pc st = .ok st' → DefsP p st'.defs ∧ st'.size ≤ 1024 ∧ totD st'.defs + st.size ≤ totD st.defs + st'.size

theorem InvN.zero (len : Int) : InvN p Src len 0 := ⟨(fun _ _ _ _ _ _ _ _ _ _ _ _ h => by rw [nodesF] at h; cases h), (fun _ _ _ _ _ _ _ _ _ _ _ _ _ _ _ _ h => by rw [blockF] at h; cases h), (fun _ _ _ _ _ _ h => by rw [defineF] at h; cases h)⟩

theorem InvN.succ (hb : Bears p Src) {len : Int} {f : Nat} (ih : InvN p Src len f) : InvN p Src len (f + 1) := by
  have sub : ∀ {l l' : List W}, l' <:+ l → (∀ x ∈ l, Src x) → ∀ x ∈ l', Src x := fun h hs x hx => hs x (h.subset hx)
  have NLf := nl len f
  refine ⟨fun deep st out l en st' h1 h2 h3 h4 h5 h6 h => ?_, fun kind x pc from_ deep st n st' h1 h2 h7 h7k h8 h9 h5 h6 h => ?_, fun pc st st' h2 h5 h6 h => ?_⟩
  · rw [nodesF] at h
    have go : ∀ (x : W) (r : List W) (st1 : St) (out1 : List Node), st.l = x :: r → st1.l <:+ r → allPL p out1 → depthL out1 + deep ≤ 17 → DefsP p st1.defs → st1.size ≤ 1024 → totD st1.defs + cntL out1 + st.size ≤ totD st.defs + cntL out + st1.size →
        nodesF len f deep st1 out1 = .ok (l, en, st') → allPL p l ∧ depthL l + deep ≤ 17 ∧ DefsP p st'.defs ∧ st'.size ≤ 1024 ∧ totD st'.defs + cntL l + st.size ≤ totD st.defs + cntL out + st'.size ∧ (0 < deep → ∃ x, Src x ∧ x.kind ≠ 1 ∧ wordsP x = .ok en) := by
      intro x r st1 out1 hl g1 g2 g3 g4 g5 g6 hn
      obtain ⟨k1, k2, k3, k4, k5, k6⟩ := ih.n _ _ _ _ _ _ h1 (sub (g1.trans (by rw [hl]; exact List.suffix_cons x r)) h2) g2 g3 g4 g5 hn
      exact ⟨k1, k2, k3, k4, by omega, k6⟩
    split at h
    · split at h
      · cases h
      · rename_i hl hd
        cases h
        exact ⟨h3, h4, h5, h6, Nat.le_refl _, fun h => absurd h hd⟩
    · rename_i x r hl
      have hxs : Src x := h2 x (by rw [hl]; simp)
      split at h
      · rename_i hx
        -- a text goes on
        obtain ⟨hx1, hx2⟩ := hx
        have hne : out ≠ [] := by rintro rfl; simp [lastText] at hx2
        obtain ⟨init, y, rfl⟩ : ∃ init y, out = init ++ [y] := ⟨out.dropLast, out.getLast hne, (List.dropLast_concat_getLast hne).symm⟩
        obtain ⟨hd, b, e⟩ := y
        rw [lastText_snoc] at hx2
        have hk := of_decide_eq_true hx2
        rw [addText_snoc] at h
        obtain ⟨a1, a2⟩ := allPL_snoc.1 h3
        rw [allP] at a2
        obtain ⟨rfl, rfl⟩ := hb.leaf _ _ _ hk a2.1
        refine go x r { st with l := r } _ hl (List.suffix_refl _) (allPL_snoc.2 ⟨a1, ?_⟩) ?_ h5 h6 ?_ h
        · rw [allP]; exact ⟨hb.more _ _ hk a2.1, a2.2⟩
        · rw [depthL_snoc] at h4 ⊢; rw [depthN] at h4 ⊢; exact h4
        · rw [cntL_snoc, cntL_snoc, cntN, cntN]; exact Nat.le_refl _
      · split at h
        · split at h
          · cases h
          · rename_i st1 hc
            obtain ⟨c1, c2⟩ := countM_ok hc
            obtain ⟨c3, c4⟩ := countM_size hc
            simp only at c1 c2 c3 c4
            refine go x r _ _ hl (by rw [c1]; exact List.suffix_refl _) (allPL_snoc.2 ⟨h3, ?_⟩) ?_ (by rw [c2]; exact h5) (by omega) ?_ h
            · rw [allP]; exact ⟨hb.text _ _, by rw [allPL]; trivial, by rw [allPL]; trivial⟩
            · rw [depthL_snoc]; simp [depthN, depthL]; omega
            · rw [cntL_snoc, c2, c3]; simp [cntN, cntL]; omega
        · rename_i hk1
          split at h
          · cases h
          · rename_i pc hw
            split at h
            · split at h
              · cases h
              · cases h
                exact ⟨h3, h4, h5, h6, Nat.le_refl _, fun _ => ⟨x, hxs, hk1, hw⟩⟩
            · split at h
              · split at h
                · cases h
                · rename_i hd
                  split at h
                  · cases h
                  · rename_i st1 hc
                    obtain ⟨d1, d2, d3⟩ := ih.d _ { st with l := r } _ (sub (l := st.l) (by rw [hl]; exact List.suffix_cons x r) h2) h5 h6 hc
                    simp only at d3
                    exact go x r _ _ hl (NLf.d _ _ _ hc).1 h3 h4 d1 d2 (by omega) h
              · split at h
                · cases h
                · rename_i n st1 hc
                  have hr : ∀ y ∈ r, Src y := sub (l := st.l) (by rw [hl]; exact List.suffix_cons x r) h2
                  have hst : st1.l <:+ r ∧ st1.defs = st.defs ∧ allP p n ∧ depthN n + deep ≤ 17 ∧ st1.size ≤ 1024 ∧ cntN n + st.size ≤ st1.size := by
                    repeat' (split at hc)
                    · have h9 := NLf.b _ _ _ _ _ _ _ hc
                      have h8 := ih.b _ x _ _ _ { st with l := r } _ _ h1 hr hxs hk1 hw (.inl rfl) h5 h6 hc
                      exact ⟨h9.1, h9.2.1, h8⟩
                    · have h9 := NLf.b _ _ _ _ _ _ _ hc
                      have h8 := ih.b _ x _ _ _ { st with l := r } _ _ h1 hr hxs hk1 hw (.inr (.inl rfl)) h5 h6 hc
                      exact ⟨h9.1, h9.2.1, h8⟩
                    · have h9 := NLf.b _ _ _ _ _ _ _ hc
                      have h8 := ih.b _ x _ _ _ { st with l := r } _ _ h1 hr hxs hk1 hw (.inr (.inr rfl)) h5 h6 hc
                      exact ⟨h9.1, h9.2.1, h8⟩
                    · have h9 := singleM_ok hc
                      refine ⟨by rw [h9.1]; exact List.suffix_refl _, h9.2.1, ?_⟩
                      rw [singleM] at hc
                      split at hc
                      · cases hc
                      · rename_i st2 hc2
                        split at hc
                        · cases hc
                        · rename_i n2 hs
                          cases hc
                          obtain ⟨hd, rfl⟩ := singleP_leaf hs
                          obtain ⟨c3, c4⟩ := countM_size hc2
                          simp only at c3 c4
                          refine ⟨?_, ?_, ?_, ?_⟩
                          · rw [allP]; exact ⟨hb.one x pc hd hxs hk1 hw hs, by rw [allPL]; trivial, by rw [allPL]; trivial⟩
                          · simp [depthN, depthL]; omega
                          · omega
                          · simp [cntN, cntL]; omega
                  obtain ⟨m1, m2, m3, m4, m5, m6⟩ := hst
                  refine go x r _ _ hl m1 (allPL_snoc.2 ⟨h3, m3⟩) ?_ (by rw [m2]; exact h5) m5 ?_ h
                  · rw [depthL_snoc]; omega
                  · rw [cntL_snoc, m2]; omega
  · rw [blockF] at h
    split at h
    · cases h
    · rename_i st1 hc
      obtain ⟨c1, c2⟩ := countM_ok hc
      obtain ⟨c3, c4⟩ := countM_size hc
      split at h
      · cases h
      · rename_i pi hpi
        have hblk : ∀ b e, p ⟨kind, [], [], pi, pc.at_, 0, 0⟩ b e := fun b e => hb.block x pc kind from_ pi b e h7 h7k h8 h9 hpi
        split at h
        · cases h
        · rename_i hdeep
          split at h
          · cases h
          · rename_i body en st2 hn
            obtain ⟨⟨n1, _⟩, n2⟩ := NLf.n _ _ _ _ _ _ hn
            obtain ⟨n2, n3, _⟩ := n2 (by omega)
            have hs1 : ∀ y ∈ st1.l, Src y := by rw [c1]; exact h2
            obtain ⟨k1, k2, k3, k4, k5, k6⟩ := ih.n _ _ _ _ _ _ (by omega) hs1 (by rw [allPL]; trivial) (by simp [depthL]; omega) (by rw [c2]; exact h5) (by omega) hn
            obtain ⟨y, y1, y2, y3⟩ := k6 (by omega)
            have hs2 : ∀ y ∈ st2.l, Src y := sub n1 hs1
            rw [n2] at k5
            rw [cntL] at k5
            split at h
            · split at h
              · cases h
              · split at h
                · cases h
                · rename_i hd2
                  split at h
                  · cases h
                  · rename_i z st3 hbk
                    cases h
                    obtain ⟨b1, b2, b3, b4⟩ := ih.b _ y _ _ _ _ _ _ (by omega) hs2 y1 y2 y3 (.inl rfl) k3 k4 hbk
                    refine ⟨?_, ?_, b3, ?_⟩
                    · rw [allP]; exact ⟨hblk _ _, k1, by rw [allPL, allPL]; exact ⟨b1, trivial⟩⟩
                    · rw [depthN, depthL, depthL]; omega
                    · rw [cntN, cntL, cntL]; omega
              · split at h
                · cases h
                · rename_i els en2 st3 hn2
                  obtain ⟨⟨o1, _⟩, o2⟩ := NLf.n _ _ _ _ _ _ hn2
                  obtain ⟨o2, _⟩ := o2 (by omega)
                  obtain ⟨j1, j2, j3, j4, j5, j6⟩ := ih.n _ _ _ _ _ _ (by omega) hs2 (by rw [allPL]; trivial) (by simp [depthL]; omega) k3 k4 hn2
                  rw [o2] at j5
                  rw [cntL] at j5
                  split at h
                  · cases h
                  · cases h
                    refine ⟨?_, ?_, j4, ?_⟩
                    · rw [allP]; exact ⟨hblk _ _, k1, j1⟩
                    · rw [depthN]; omega
                    · rw [cntN]; omega
            · split at h
              · cases h
              · cases h
                refine ⟨?_, ?_, k4, ?_⟩
                · rw [allP]; exact ⟨hblk _ _, k1, by rw [allPL]; trivial⟩
                · rw [depthN, depthL]; omega
                · rw [cntN, cntL]; omega
  · rw [defineF] at h
    split at h
    · cases h
    · rename_i s hs
      split at h
      · cases h
      · split at h
        · cases h
        · split at h
          · cases h
          · rename_i l en st1 hn
            have hnm := calledM_name hs
            have hsn : s ≠ [] := by rintro rfl; simp [nameB] at hnm
            obtain ⟨r, hr, hrd⟩ := h5
            have hD : DefsP p (st.defs ++ [⟨s, []⟩]) := ⟨r ++ [⟨s, []⟩], by rw [hr]; rfl, fun x hx => by
              rcases List.mem_append.1 hx with hx | hx
              · exact hrd x hx
              · simp at hx; subst hx; exact ⟨hsn, by rw [allPL]; trivial, by simp [depthL]⟩⟩
            obtain ⟨⟨n1, _⟩, n2⟩ := NLf.n _ _ _ _ _ _ hn
            obtain ⟨n2, _⟩ := n2 (by omega)
            obtain ⟨k1, k2, k3, k4, k5, k6⟩ := ih.n 1 { st with defs := st.defs ++ [⟨s, []⟩] } [] _ _ _ (by omega) h2 (by rw [allPL]; trivial) (by simp [depthL]) hD h6 hn
            split at h
            · cases h
            · cases h
              simp only
              rw [n2] at k5 ⊢
              simp only at k5 ⊢
              have hset : setBody (st.defs ++ [⟨s, []⟩]) st.defs.length l = st.defs ++ [⟨s, l⟩] := by
                rw [setBody, List.getElem?_append_right (Nat.le_refl _), Nat.sub_self]
                simp [List.set_append_right]
              rw [hset]
              refine ⟨⟨r ++ [⟨s, l⟩], by rw [hr]; rfl, fun x hx => ?_⟩, k4, ?_⟩
              · rcases List.mem_append.1 hx with hx | hx
                · exact hrd x hx
                · simp at hx; subst hx; exact ⟨hsn, k1, by simp only; omega⟩
              · rw [totD_snoc]
                rw [totD_snoc] at k5
                simp only [cntL] at k5 ⊢
                omega
theorem invN (hb : Bears p Src) (len : Int) : ∀ f, InvN p Src len f
  | 0 => InvN.zero len
  | f + 1 => (invN hb len f).succ hb

/-- A refusal has a reason. -/
structure ErrN (len : Int) (f : Nat) : Prop where
  n : ∀ deep st out e, 2 * st.l.length + 1 ≤ f → nodesF len f deep st out = .error e → e.2 ≠ 0
  b : ∀ kind pc from_ deep st e, 2 * st.l.length + 2 ≤ f → blockF len f kind pc from_ deep st = .error e → e.2 ≠ 0
  d : ∀ pc st e, 2 * st.l.length + 2 ≤ f → defineF len f pc st = .error e → e.2 ≠ 0
theorem countM_err {st : St} {a : Int} {e : Int × Int} (h : countM st a = .error e) : e.2 ≠ 0 := by
  rw [countM] at h
  split at h
  · cases h; simp
  · cases h
theorem wordsP_err {x : W} {e : Int × Int} (h : wordsP x = .error e) : e.2 ≠ 0 := by
  rw [wordsP] at h
  split at h
  · rename_i hne; cases h; exact hne
  · split at h
    · cases h; simp
    · cases h
theorem pipeP_err {pc : Piece} {k : Nat} {e : Int × Int} (h : pipeP pc k = .error e) : e.2 ≠ 0 := by
  rw [pipeP] at h
  split at h
  · rename_i hne; cases h; exact hne
  · cases h
theorem calledM_err {pc : Piece} {e : Int × Int} (h : calledM pc = .error e) : e.2 ≠ 0 := by
  rw [calledM] at h
  repeat' (split at h)
  all_goals first | (cases h; done) | (cases h; simp)
theorem elseIf_err {pc : Piece} {e : Int × Int} (h : elseIf pc = .error e) : e.2 ≠ 0 := by
  rw [elseIf] at h
  repeat' (split at h)
  all_goals first | (cases h; done) | (cases h; simp)
theorem singleP_err {pc : Piece} {e : Int × Int} (h : singleP pc = .error e) : e.2 ≠ 0 := by
  rw [singleP] at h
  split at h
  · split at h
    · rename_i e2 he; cases h; exact calledM_err he
    · split at h
      · split at h
        · rename_i e2 he; cases h; exact pipeP_err he
        · cases h
      · cases h
  · split at h
    · split at h
      · cases h; simp
      · split at h
        · rename_i e2 he; cases h; exact pipeP_err he
        · cases h
    · split at h
      · rename_i e2 he; cases h; exact pipeP_err he
      · cases h
theorem singleM_err {pc : Piece} {st : St} {e : Int × Int} (h : singleM pc st = .error e) : e.2 ≠ 0 := by
  rw [singleM] at h
  split at h
  · rename_i e2 he; cases h; exact countM_err he
  · split at h
    · rename_i e2 he; cases h; exact singleP_err he
    · cases h
theorem errN (len : Int) : ∀ f, ErrN len f
  | 0 => ⟨fun _ _ _ _ h => by omega, fun _ _ _ _ _ _ h => by omega, fun _ _ _ h => by omega⟩
  | f + 1 => by
    have ih := errN len f
    have NLf := nl len f
    refine ⟨fun deep st out e hf h => ?_, fun kind pc from_ deep st e hf h => ?_, fun pc st e hf h => ?_⟩
    · rw [nodesF] at h
      split at h
      · split at h
        · cases h; simp
        · cases h
      · rename_i x r hl
        rw [hl, List.length_cons] at hf
        have hr : ∀ (st1 : St) (o : List Node) e, st1.l <:+ r → nodesF len f deep st1 o = .error e → e.2 ≠ 0 := fun st1 o e h1 h2 => ih.n _ _ _ _ (by have := h1.length_le; omega) h2
        split at h
        · exact hr { st with l := r } _ _ (List.suffix_refl _) h
        · split at h
          · split at h
            · rename_i e2 he; cases h; exact countM_err he
            · rename_i st1 hc
              exact hr _ _ _ (by rw [(countM_ok hc).1]; exact List.suffix_refl _) h
          · split at h
            · rename_i e2 he; cases h; exact wordsP_err he
            · split at h
              · split at h
                · cases h; simp
                · cases h
              · split at h
                · split at h
                  · cases h; simp
                  · split at h
                    · rename_i e2 he; cases h; exact ih.d _ _ _ (by simp only; omega) he
                    · rename_i st1 hc
                      exact hr _ _ _ (NLf.d _ _ _ hc).1 h
                · split at h
                  · rename_i e2 hc
                    cases h
                    repeat' (split at hc)
                    · exact ih.b _ _ _ _ _ _ (by simp only; omega) hc
                    · exact ih.b _ _ _ _ _ _ (by simp only; omega) hc
                    · exact ih.b _ _ _ _ _ _ (by simp only; omega) hc
                    · exact singleM_err hc
                  · rename_i n st1 hc
                    have hst : st1.l <:+ r := by
                      repeat' (split at hc)
                      · exact (NLf.b _ _ _ _ _ _ _ hc).1
                      · exact (NLf.b _ _ _ _ _ _ _ hc).1
                      · exact (NLf.b _ _ _ _ _ _ _ hc).1
                      · rw [(singleM_ok hc).1]; exact List.suffix_refl _
                    exact hr _ _ _ hst h
    · rw [blockF] at h
      split at h
      · rename_i e2 he; cases h; exact countM_err he
      · rename_i st1 hc
        have c1 := (countM_ok hc).1
        split at h
        · rename_i e2 he; cases h; exact pipeP_err he
        · split at h
          · cases h; simp
          · split at h
            · rename_i e2 he; cases h; exact ih.n _ _ _ _ (by rw [c1]; omega) he
            · rename_i body en st2 hn
              have hl2 := ((NLf.n _ _ _ _ _ _ hn).2 (by omega)).2.1
              rw [c1] at hl2
              split at h
              · split at h
                · rename_i e2 he; cases h; exact elseIf_err he
                · split at h
                  · cases h; simp
                  · split at h
                    · rename_i e2 he; cases h; exact ih.b _ _ _ _ _ _ (by omega) he
                    · cases h
                · split at h
                  · rename_i e2 he; cases h; exact ih.n _ _ _ _ (by omega) he
                  · split at h
                    · cases h; simp
                    · cases h
              · split at h
                · cases h; simp
                · cases h
    · rw [defineF] at h
      split at h
      · rename_i e2 he; cases h; exact calledM_err he
      · split at h
        · cases h; simp
        · split at h
          · cases h; simp
          · split at h
            · rename_i e2 he; cases h; exact ih.n _ _ _ _ (by simp only; omega) he
            · split at h
              · cases h; simp
              · cases h

/-- What holds of all that is read. -/
theorem parseM_inv (s : Bytes) (hb : Bears p Src) (hs : ∀ x ∈ (items s).1, Src x) (h : (parseM s).2.2 = 0) :
    (parseM s).2.1 = s.length ∧ totD (parseM s).1 ≤ 1024 ∧ ∃ b r, (parseM s).1 = ⟨[], b⟩ :: r ∧ allPL p b ∧ depthL b ≤ 17 ∧ ∀ x ∈ r, DefP p x := by
  rw [parseM] at h ⊢
  split at h
  · rename_i hne; exact absurd h hne
  · rename_i he
    rw [if_neg he]
    split at h
    · rename_i e he2
      exact absurd h ((errN s.length _).n _ _ _ _ (Nat.le_refl _) he2)
    · rename_i out pc st hn
      obtain ⟨k1, k2, ⟨r, hr, hrd⟩, k4, k5, _⟩ := (invN hb s.length (2 * (items s).1.length + 1)).n _ _ _ _ _ _ (by omega) hs (by rw [allPL]; trivial) (by simp [depthL]) ⟨[], rfl, by simp⟩ (by simp) hn
      simp only
      have hset : setBody st.defs 0 out = ⟨[], out⟩ :: r := by rw [hr]; rfl
      rw [hset]
      refine ⟨trivial, ?_, out, r, rfl, k1, by omega, hrd⟩
      rw [hr, totD_cons] at k5
      simp [totD, cntL] at k5
      rw [totD_cons]
      simp only [totD]
      omega
end

end Go.Vc.M
namespace Go.Vc.M
open Go Go.Vc
/-- There are no more templates than pieces, and one. -/
theorem nodesF_defs (len : Int) : ∀ (f deep : Nat) (st : St) (out l : List Node) (en : Piece) (st' : St), nodesF len f deep st out = .ok (l, en, st') → st'.defs.length + st'.l.length ≤ st.defs.length + st.l.length
  | 0, _, _, _, _, _, _, h => by rw [nodesF] at h; cases h
  | f + 1, deep, st, out, l, en, st', h => by
    have NLf := nl len f
    rw [nodesF] at h
    have go : ∀ (x : W) (r : List W) (st1 : St) (out1 : List Node), st.l = x :: r → st1.defs.length + st1.l.length ≤ st.defs.length + r.length + 1 → nodesF len f deep st1 out1 = .ok (l, en, st') → st'.defs.length + st'.l.length ≤ st.defs.length + st.l.length := by
      intro x r st1 out1 hl h1 h2
      have := nodesF_defs len f _ _ _ _ _ _ h2
      rw [hl, List.length_cons]; omega
    split at h
    · split at h
      · cases h
      · cases h; exact Nat.le_refl _
    · rename_i x r hl
      split at h
      · exact go x r { st with l := r } _ hl (by simp only; omega) h
      · split at h
        · split at h
          · cases h
          · rename_i st1 hc
            obtain ⟨c1, c2⟩ := countM_ok hc
            exact go x r _ _ hl (by rw [c1, c2]; simp only; omega) h
        · split at h
          · cases h
          · rename_i pc hw
            split at h
            · split at h
              · cases h
              · cases h
                rw [hl, List.length_cons]; simp only; omega
            · split at h
              · split at h
                · cases h
                · split at h
                  · cases h
                  · rename_i st1 hc
                    obtain ⟨d1, d2⟩ := NLf.d _ _ _ hc
                    have := d1.length_le
                    simp only at d2 this
                    exact go x r _ _ hl (by omega) h
              · split at h
                · cases h
                · rename_i n st1 hc
                  have hst : st1.l.length ≤ r.length ∧ st1.defs = st.defs := by
                    repeat' (split at hc)
                    · have := NLf.b _ _ _ _ _ _ _ hc; exact ⟨this.1.length_le, this.2.1⟩
                    · have := NLf.b _ _ _ _ _ _ _ hc; exact ⟨this.1.length_le, this.2.1⟩
                    · have := NLf.b _ _ _ _ _ _ _ hc; exact ⟨this.1.length_le, this.2.1⟩
                    · have := singleM_ok hc; exact ⟨by rw [this.1]; exact Nat.le_refl _, this.2.1⟩
                  exact go x r _ _ hl (by rw [hst.2]; have := hst.1; omega) h
theorem parseM_defs (s : Bytes) : (parseM s).1.length ≤ 40000 := by
  rw [parseM]
  split
  · simp
  · rename_i he
    split
    · simp
    · rename_i out pc st hn
      have h1 := nodesF_defs _ _ _ _ _ _ _ _ hn
      have h2 := (items_ok s).2.1
      have h3 := (items_ok s).2.2 (by simpa using he)
      simp only [setBody_len]
      simp only [List.length_cons, List.length_nil] at h1
      omega
end Go.Vc.M

/- Plain laws: what words of a text are made of; what is read of them may be. -/
namespace Go.Vc.M
open Go Go.Vc

theorem spanL_all (p : UInt8 → Bool) : ∀ (s : Bytes) (c : UInt8), c ∈ s.take (spanL p s) → p c = true
  | [], c, h => by simp [spanL] at h
  | d :: r, c, h => by
    rw [spanL] at h
    split at h
    · rename_i hd
      rw [List.take_succ_cons] at h
      rcases List.mem_cons.1 h with e | e
      · rw [e]; exact hd
      · exact spanL_all p r c e
    · simp at h
theorem headB_dot {c : UInt8} (h : headB c = true) : c.toNat ≠ 46 := by
  have := of_decide_eq_true h
  intro e
  simp only [Head, Letter] at this
  omega
theorem innerB_dot {c : UInt8} (h : innerB c = true) : c.toNat ≠ 46 := by
  have := of_decide_eq_true h
  intro e
  simp only [Inner, Head, Letter, Digit] at this
  omega
theorem nameB_dot {s : Bytes} (h : nameB s = true) : ∀ c ∈ s, c.toNat ≠ 46 := by
  cases s with
  | nil => simp
  | cons d r =>
    simp only [nameB, Bool.and_eq_true, List.all_eq_true] at h
    intro c hc
    rcases List.mem_cons.1 hc with e | e
    · rw [e]; exact headB_dot h.1.1
    · exact innerB_dot (h.1.2 c e)
theorem nameB_ne {s : Bytes} (h : nameB s = true) : s ≠ [] := by rintro rfl; cases h
theorem nameLen_take {s : Bytes} (h : 0 < nameLen s) (hl : nameLen s ≤ 32) : nameB (s.take (nameLen s)) = true := by
  cases s with
  | nil => simp [nameLen] at h
  | cons d r =>
    rw [nameLen] at *
    split at h
    · rename_i hd
      rw [if_pos hd] at *
      rw [List.take_succ_cons]
      simp only [nameB, Bool.and_eq_true, List.all_eq_true, decide_eq_true_eq]
      exact ⟨⟨hd, fun c hc => spanL_all _ _ c hc⟩, by rw [List.length_take]; omega⟩
    · omega

theorem pathF_run : ∀ (nm rest : Bytes) (first : Bool) (out : List Bytes) (now : Bytes), (∀ c ∈ nm, c.toNat ≠ 46) → nm ≠ [] → pathF (nm ++ rest) first out now = pathF rest false out (now ++ nm)
  | [], _, _, _, _, _, h => absurd rfl h
  | [c], rest, first, out, now, h, _ => by
    rw [List.cons_append, pathF, if_neg (h c (by simp))]; rfl
  | c :: d :: r, rest, first, out, now, h, _ => by
    rw [List.cons_append, pathF, if_neg (h c (by simp)), pathF_run (d :: r) rest false out (now ++ [c]) (fun x hx => h x (by simp [hx])) (by simp)]
    simp
/-- All of a path's parts are names. -/
def NamesL (l : List Bytes) : Prop := ∀ y ∈ l, nameB y = true
theorem NamesL.snoc {l : List Bytes} {y : Bytes} (h : NamesL l) (hy : nameB y = true) : NamesL (l ++ [y]) := by
  intro z hz
  rcases List.mem_append.1 hz with e | e
  · exact h z e
  · simp at e; rw [e]; exact hy
theorem dotsF_path : ∀ (f : Nat) (r : Bytes), (dotsF f r).2 = 0 →
    (NamesL (pathF (r.take (dotsF f r).1) true [] [])) ∧ (∀ out now, NamesL out → nameB now = true → NamesL (pathF (r.take (dotsF f r).1) false out now)) ∧ ((dotsF f r).1 = 0 ∨ (r.take (dotsF f r).1).head? = some 46)
  | 0, r, _ => by
    rw [dotsF]
    refine ⟨by simp [pathF, NamesL], fun out now h1 h2 => ?_, .inl rfl⟩
    rw [List.take_zero, pathF, if_neg (nameB_ne h2)]; exact h1.snoc h2
  | f + 1, r, h => by
    have base : (NamesL (pathF (r.take 0) true [] [])) ∧ (∀ out now, NamesL out → nameB now = true → NamesL (pathF (r.take 0) false out now)) := by
      refine ⟨by simp [pathF, NamesL], fun out now h1 h2 => ?_⟩
      rw [List.take_zero, pathF, if_neg (nameB_ne h2)]; exact h1.snoc h2
    rw [dotsF] at h ⊢
    split at h
    · rename_i hc
      simp only at h
      rw [if_pos hc]
      simp only
      split at h
      · simp at h
      · rename_i hn0
        rw [if_neg hn0]
        split at h
        · simp at h
        · rename_i hn32
          rw [if_neg hn32]
          simp only at h ⊢
          obtain ⟨g1, g2, g3⟩ := dotsF_path f _ h
          obtain ⟨h1, h2⟩ := hc
          cases r with
          | nil => simp at h2
          | cons c r' =>
            simp only [List.head?_cons, Option.some.injEq] at h2
            subst h2
            simp only [List.drop_succ_cons, List.drop_zero] at *
            have hnm := nameLen_take (s := r') (by omega) (by omega)
            have hle := nameLen_le r'
            generalize hn : nameLen r' = n at *
            generalize hm : (dotsF f (List.drop (1 + n) (46 :: r'))).fst = m at *
            rw [show 1 + n = n + 1 by omega, List.drop_succ_cons] at g1 g2 hm
            have ht : (46 :: r').take (1 + n + m) = 46 :: (r'.take n ++ (r'.drop n).take m) := by
              rw [show 1 + n + m = (n + m) + 1 by omega, List.take_succ_cons, List.take_add]
            rw [ht]
            have run : ∀ first out now, pathF (46 :: (r'.take n ++ (r'.drop n).take m)) first out now = pathF ((r'.drop n).take m) false (if first = true then out else out ++ [now]) (r'.take n) := by
              intro first out now
              rw [pathF, if_pos (by decide), pathF_run _ _ _ _ _ (nameB_dot hnm) (nameB_ne hnm)]
              simp
            refine ⟨?_, fun out now k1 k2 => ?_, .inr rfl⟩
            · rw [run, if_pos rfl]; exact g2 [] _ (by simp [NamesL]) hnm
            · rw [run, if_neg (by simp)]; exact g2 _ _ (k1.snoc k2) hnm
    · rename_i hc
      rw [if_neg hc]
      exact ⟨base.1, base.2, .inl rfl⟩

/-- What a word that is read is. -/
structure WGood (s : Bytes) (x : W) : Prop where
  path : x.kind = 2 → NamesL (pathF x.text true [] [])
  var : x.kind = 3 → (((x.text.take (headLen x.text)).drop 1 = [] ∨ nameB ((x.text.take (headLen x.text)).drop 1) = true) ∧ NamesL (pathF (x.text.drop (headLen x.text)) true [] [])) ∧ (36 : UInt8) ∈ s
  str : x.kind = 5 → x.text.length ≤ 4096
  one : x.kind = 1 → ∀ c ∈ x.text, c ∈ s

theorem strM_short (a : Int) : ∀ (n : Nat) (r : Bytes) (i : Int) (acc : Bytes), r.length ≤ n → (strM a r i acc).1.length ≤ 4096
  | n, [], i, acc, _ => by rw [strM_nil]; simp
  | 0, c :: r, _, _, h => by simp at h
  | n + 1, c :: r, i, acc, h => by
    rw [strM_cons]
    rw [List.length_cons] at *
    split
    · split
      · simp
      · simp only; omega
    · split
      · simp
      · split
        · cases r with
          | nil => simp
          | cons d r' =>
            simp only
            split
            · exact strM_short a n r' _ _ (by rw [List.length_cons] at h; omega)
            · simp
        · exact strM_short a n r _ _ (by omega)

theorem spanL_stop {p : UInt8 → Bool} : ∀ (a b : Bytes), (∀ c ∈ a, p c = true) → (b = [] ∨ ∃ c, b.head? = some c ∧ p c = false) → spanL p (a ++ b) = a.length
  | [], b, _, h => by
    rcases h with e | ⟨c, e, hc⟩
    · rw [e]; rfl
    · cases b with
      | nil => cases e
      | cons d r => cases e; rw [List.nil_append, spanL, if_neg (by simp [hc])]; rfl
  | c :: a, b, h1, h2 => by
    rw [List.cons_append, spanL, if_pos (h1 c (by simp)), spanL_stop a b (fun x hx => h1 x (by simp [hx])) h2]; rfl

theorem mem_drop_take {s : Bytes} {c : UInt8} {k n : Nat} (h : c ∈ (s.drop k).take n) : c ∈ s := List.mem_of_mem_drop (List.mem_of_mem_take h)

theorem wordAt_good (s : Bytes) (k : Nat) (hk : k < s.length) (he : (wordAt s k).err = 0) (a : Int) : WGood s ⟨(wordAt s k).kind, (wordAt s k).text, a⟩ := by
  have hd : s.drop k = s[k] :: s.drop (k + 1) := drop_cons hk
  have hcs : s[k] ∈ s := List.getElem_mem hk
  have hrs : ∀ c ∈ s.drop (k + 1), c ∈ s := fun c hc => List.mem_of_mem_drop hc
  have hall : ∀ n, ∀ c ∈ (s[k] :: s.drop (k + 1)).take n, c ∈ s := fun n c hc => by rw [← hd] at hc; exact mem_drop_take hc
  rw [wordAt, hd] at he ⊢
  simp only at he ⊢
  generalize s[k] = c at *
  generalize s.drop (k + 1) = r at *
  split at he
  · rename_i hq
    rw [if_pos hq]
    refine ⟨fun h => absurd h (by simp), fun h => absurd h (by simp), fun _ => strM_short _ _ _ _ _ (Nat.le_refl _), fun h => absurd h (by simp)⟩
  · rename_i hq
    rw [if_neg hq]
    split at he
    · rename_i hne; exact absurd he hne
    · rename_i hne
      rw [if_neg hne]
      simp only
      have hne : (plainWord c r).2.2 = 0 := by simpa using hne
      clear he
      refine ⟨fun h2 => ?_, fun h3 => ?_, fun h5 => ?_, fun h1 => ?_⟩
      · simp only at h2 ⊢
        rw [plainWord] at h2 hne ⊢
        split at h2
        · simp at h2
        · rename_i hh
          rw [if_neg hh] at hne ⊢
          split at h2
          · rename_i h46
            rw [if_pos h46] at hne ⊢
            split at h2
            · rename_i hn
              rw [if_pos hn] at hne ⊢
              exact (dotsF_path _ _ hne).1
            · rename_i hn
              rw [if_neg hn]
              simp only [List.take_succ_cons, List.take_zero]
              rw [pathF, if_pos h46, if_pos rfl]
              simp [pathF, NamesL]
          · split at h2
            · split at h2 <;> simp at h2
            · split at h2
              · simp at h2
              · split at h2
                · simp at h2
                · split at h2 <;> simp at h2
      · simp only at h3 ⊢
        rw [plainWord] at h3 hne ⊢
        split at h3
        · simp at h3
        · rename_i hh
          rw [if_neg hh] at hne ⊢
          split at h3
          · split at h3 <;> simp at h3
          · rename_i h46
            rw [if_neg h46] at hne ⊢
            split at h3
            · rename_i h36
              rw [if_pos h36] at hne ⊢
              have h36' : (36 : UInt8) ∈ s := by
                have e : c = 36 := UInt8.toNat_inj.1 h36
                rw [← e]; exact hcs
              refine ⟨?_, h36'⟩
              split at hne
              · simp at hne
              · rename_i hn
                rw [if_neg hn]
                simp only at hne ⊢
                have hdp := dotsF_path _ _ hne
                have hle := nameLen_le r
                generalize hm : (dotsF (List.drop (nameLen r) r).length (List.drop (nameLen r) r)).fst = m at *
                have hm' : (dots (List.drop (nameLen r) r)).fst = m := hm
                rw [hm']
                have ht : (c :: r).take (1 + nameLen r + m) = c :: (r.take (nameLen r) ++ (r.drop (nameLen r)).take m) := by
                  rw [show 1 + nameLen r + m = (nameLen r + m) + 1 by omega, List.take_succ_cons, List.take_add]
                rw [ht]
                have hnd : ∀ c ∈ r.take (nameLen r), notDot c = true := by
                  intro c hc
                  by_cases h0 : 0 < nameLen r
                  · have := nameB_dot (nameLen_take h0 (by omega)) c hc
                    simp [notDot, this]
                  · rw [show nameLen r = 0 by omega, List.take_zero] at hc; cases hc
                have hhl : headLen (c :: (r.take (nameLen r) ++ (r.drop (nameLen r)).take m)) = 1 + nameLen r := by
                  rw [headLen, List.drop_succ_cons, List.drop_zero, spanL_stop _ _ hnd, List.length_take]
                  · omega
                  · rcases hdp.2.2 with e | e
                    · rw [e]; exact .inl (by simp)
                    · exact .inr ⟨46, e, rfl⟩
                rw [hhl]
                have hlt : (r.take (nameLen r)).length = nameLen r := by rw [List.length_take]; omega
                have e1 : (List.take (1 + nameLen r) (c :: (r.take (nameLen r) ++ (r.drop (nameLen r)).take m))).drop 1 = r.take (nameLen r) := by
                  rw [show 1 + nameLen r = nameLen r + 1 by omega, List.take_succ_cons, List.drop_succ_cons, List.drop_zero, List.take_left' hlt]
                have e2 : List.drop (1 + nameLen r) (c :: (r.take (nameLen r) ++ (r.drop (nameLen r)).take m)) = (r.drop (nameLen r)).take m := by
                  rw [show 1 + nameLen r = nameLen r + 1 by omega, List.drop_succ_cons, List.drop_left' hlt]
                rw [e1, e2]
                refine ⟨?_, hdp.1⟩
                by_cases h0 : 0 < nameLen r
                · exact .inr (nameLen_take h0 (by omega))
                · exact .inl (by rw [show nameLen r = 0 by omega, List.take_zero])
            · split at h3
              · simp at h3
              · split at h3
                · simp at h3
                · split at h3 <;> simp at h3
      · exfalso
        rcases plainWord_kind c r with e | e | e | e | e <;> (simp only at h5; omega)
      · exact hall _

theorem wordsF_good (s : Bytes) (base : Int) : ∀ (f k : Nat) (acc : List W), (∀ x ∈ acc, WGood s x) → k ≤ s.length → ∀ x ∈ (wordsF s base f k acc).1, WGood s x
  | 0, k, acc, h, hk => by rw [wordsF]; exact h
  | f + 1, k, acc, h, hk => by
    rw [wordsF]
    split
    · rename_i hlt
      have h1 := wordAt_ok s k hlt
      simp only
      split
      · simp
      · rename_i he
        have he : (wordAt s k).err = 0 := by simpa using he
        obtain ⟨m, hm1, hm2, hm3⟩ := h1.1 he
        have h3 := spanL_drop_le blankB s m hm3
        rw [hm1, Int.toNat_natCast]
        refine wordsF_good s base f _ _ ?_ h3
        intro x hx
        rcases List.mem_append.1 hx with hx | hx
        · exact h x hx
        · simp at hx
          subst hx
          exact wordAt_good s k hlt he _
    · exact h
theorem words_good (s : Bytes) (base : Int) : ∀ x ∈ (words s base).1, WGood s x := by
  rw [words]
  exact wordsF_good s base _ _ _ (by simp) (spanL_le _ _)

end Go.Vc.M

/- Plain laws: a pipeline that is read may be. -/
namespace Go.Vc.M
open Go Go.Vc

/-- A variable's argument is of a text with a $. -/
def ArgIn (s : Bytes) (a : ArgM) : Prop := a.kind = 2 → (36 : UInt8) ∈ s

theorem pathM_ok {t : Bytes} (h : (pathM t).2 = 0) : (pathM t).1 = pathF t true [] [] ∧ (pathF t true [] []).length ≤ 16 := by
  rw [pathM] at h ⊢
  split at h
  · simp at h
  · rename_i hl; rw [if_neg hl]; exact ⟨rfl, by omega⟩
theorem namesL_all {l : List Bytes} (h : NamesL l) : l.all nameB = true := List.all_eq_true.2 h

theorem argM_ok {s : Bytes} {x : W} (hg : WGood s x) (h : (argM x).2 = 0) : argMayM (argM x).1 = true ∧ ArgIn s (argM x).1 ∧ ((argM x).1.kind = 2 → x.kind = 3) := by
  rw [argM] at h ⊢
  split at h
  · rename_i h1
    rw [if_pos h1]
    split at h
    · rename_i h2; rw [if_pos h2]; exact ⟨by decide, (by intro h; cases h), (by intro h; cases h)⟩
    · rename_i h2
      rw [if_neg h2]
      split at h
      · rename_i h3; rw [if_pos h3]; exact ⟨by decide, (by intro h; cases h), (by intro h; cases h)⟩
      · rename_i h3
        rw [if_neg h3]
        split at h
        · rename_i h4; rw [if_pos h4]; exact ⟨by decide, (by intro h; cases h), (by intro h; cases h)⟩
        · simp at h
  · rename_i h1
    rw [if_neg h1]
    split at h
    · rename_i h2
      rw [if_pos h2]
      obtain ⟨p1, p2⟩ := pathM_ok h
      have hn := hg.path h2
      simp only
      rw [p1]
      refine ⟨?_, (by intro h; cases h), (by intro h; cases h)⟩
      simp [argMayM, namesL_all hn, p2]
    · rename_i h2
      rw [if_neg h2]
      split at h
      · rename_i h3
        rw [if_pos h3]
        obtain ⟨p1, p2⟩ := pathM_ok h
        obtain ⟨⟨v1, v2⟩, v3⟩ := hg.var h3
        simp only
        rw [p1]
        refine ⟨?_, fun _ => v3, fun _ => h3⟩
        simp only [argMayM, namesL_all v2]
        rcases v1 with e | e
        · rw [e]; simp [p2]
        · rw [e]; simp [p2]
      · rename_i h3
        rw [if_neg h3]
        split at h
        · rename_i h4
          rw [if_pos h4]
          exact ⟨by simp [argMayM], (by intro h; cases h), (by intro h; cases h)⟩
        · rename_i h4
          rw [if_neg h4]
          split at h
          · rename_i h5
            rw [if_pos h5]
            have := hg.str h5
            exact ⟨by simp [argMayM, this], (by intro h; cases h), (by intro h; cases h)⟩
          · simp at h

theorem argsM_ok {s : Bytes} : ∀ (l : List W) (acc : List ArgM), (∀ x ∈ l, WGood s x) → (acc.all argMayM = true ∧ ∀ a ∈ acc, ArgIn s a) → (argsM l acc).2.2 = 0 → (argsM l acc).1.all argMayM = true ∧ (∀ a ∈ (argsM l acc).1, ArgIn s a) ∧ (argsM l acc).1.length = acc.length + l.length
  | [], acc, _, h, _ => ⟨h.1, h.2, rfl⟩
  | x :: r, acc, hl, h, he => by
    rw [argsM] at he ⊢
    split at he
    · rename_i hne; exact absurd he hne
    · rename_i hne
      rw [if_neg hne]
      obtain ⟨a1, a2, _⟩ := argM_ok (hl x (by simp)) (by simpa using hne)
      have := argsM_ok r (acc ++ [(argM x).1]) (fun y hy => hl y (by simp [hy])) ⟨by rw [List.all_append, h.1]; simp [a1], fun a ha => by
        rcases List.mem_append.1 ha with e | e
        · exact h.2 a e
        · simp at e; rw [e]; exact a2⟩ he
      refine ⟨this.1, this.2.1, ?_⟩
      rw [this.2.2]; simp; omega

theorem arity_le (t : Bytes) : (arity t).2.1 ≤ 8 := by
  rw [arity]
  repeat' split
  all_goals decide

theorem callM_ok {s : Bytes} {l : List W} {ahead : Bool} (hl : ∀ x ∈ l, WGood s x) (h : (callM l ahead).2.2 = 0) :
    callMayM (callM l ahead).1 ahead = true ∧ (∀ a ∈ (callM l ahead).1.args, ArgIn s a) ∧ (callM l ahead).1.args.length ≤ 8 := by
  cases l with
  | nil => simp [callM] at h
  | cons x r =>
    rw [callM_cons] at h ⊢
    split at h
    · rename_i h1
      rw [if_pos h1]
      split at h
      · simp at h
      · rename_i h2
        rw [if_neg h2]
        split at h
        · rename_i h3; exact absurd h h3
        · rename_i h3
          rw [if_neg h3]
          obtain ⟨a1, a2, _⟩ := argM_ok (hl x (by simp)) (by simpa using h3)
          cases r with
          | cons y r' => simp at h
          | nil =>
            simp only
            refine ⟨?_, fun a ha => by simp at ha; rw [ha]; exact a2, by simp⟩
            rw [callMayM]
            simp [a1, h2]
    · rename_i h1
      rw [if_neg h1]
      split at h
      · simp at h
      · rename_i h2
        rw [if_neg h2]
        split at h
        · rename_i h3; exact absurd h h3
        · rename_i h3
          rw [if_neg h3]
          obtain ⟨a1, a2, a3⟩ := argsM_ok r [] (fun y hy => hl y (by simp [hy])) ⟨rfl, by simp⟩ (by simpa using h3)
          split at h
          · simp at h
          · rename_i h4
            rw [if_neg h4]
            simp only
            have h5 := arity_le x.text
            have hb : ((argsM r []).1.length : Int) ≤ bump ahead (argsM r []).1.length := by rw [bump]; split <;> omega
            refine ⟨?_, a2, by omega⟩
            have hxn : x.text ≠ [] := by
              intro e
              rw [e] at h2
              exact h2 rfl
            rw [callMayM, a1, if_neg hxn]
            have h2' : (arity x.text).2.2 = true := by simpa using h2
            rw [h2']
            simp only [Bool.true_and, decide_eq_true_eq]
            omega

theorem callsMay_snoc (c : CallM) : ∀ (l : List CallM) (a : Bool), callsMay a (l ++ [c]) = (callsMay a l && callMayM c (a || decide (0 < l.length)))
  | [], a => by simp [callsMay]
  | d :: r, a => by rw [List.cons_append, callsMay, callsMay, callsMay_snoc c r]; simp [Bool.and_assoc]

/-- What is kept of a pipeline that is read. -/
structure PipeGood (s : Bytes) (l : List CallM) : Prop where
  may : pipeMay l = true
  var : ∀ c ∈ l, ∀ a ∈ c.args, ArgIn s a
  args : ∀ c ∈ l, c.args.length ≤ 8 ∧ ∀ a ∈ c.args, argMayM a = true

theorem callMay_args {c : CallM} {a : Bool} (h : callMayM c a = true) : ∀ x ∈ c.args, argMayM x = true := by
  rw [callMayM, Bool.and_eq_true, List.all_eq_true] at h
  exact h.1

theorem pipeF_ok {s : Bytes} (at_ : Int) : ∀ (f : Nat) (l : List W) (out : List CallM), (∀ x ∈ l, WGood s x) → callsMay false out = true → out.length ≤ 16 → (∀ c ∈ out, (∀ a ∈ c.args, ArgIn s a) ∧ c.args.length ≤ 8 ∧ ∀ a ∈ c.args, argMayM a = true) → (pipeF at_ f l out).2.2 = 0 → PipeGood s (pipeF at_ f l out).1
  | 0, l, out, _, _, _, _, h => by simp [pipeF] at h
  | f + 1, l, out, hl, hc, hn, ho, h => by
    rw [pipeF] at h ⊢
    split at h
    · simp at h
    · rename_i h1
      rw [if_neg h1]
      split at h
      · rename_i h2; exact absurd h h2
      · rename_i h2
        rw [if_neg h2]
        have hcall := callM_ok (s := s) (l := l.take (spanW l)) (ahead := decide (0 < out.length)) (fun x hx => hl x (List.mem_of_mem_take hx)) (by simpa using h2)
        split at h
        · simp at h
        · rename_i h3
          rw [if_neg h3]
          have hm : callsMay false (out ++ [(callM (l.take (spanW l)) (decide (0 < out.length))).1]) = true := by
            rw [callsMay_snoc, hc, Bool.true_and, Bool.false_or]; exact hcall.1
          have ho' : ∀ c ∈ out ++ [(callM (l.take (spanW l)) (decide (0 < out.length))).1], (∀ a ∈ c.args, ArgIn s a) ∧ c.args.length ≤ 8 ∧ ∀ a ∈ c.args, argMayM a = true := by
            intro c hc
            rcases List.mem_append.1 hc with e | e
            · exact ho c e
            · simp at e; rw [e]; exact ⟨hcall.2.1, hcall.2.2, callMay_args hcall.1⟩
          have hlen : (out ++ [(callM (l.take (spanW l)) (decide (0 < out.length))).1]).length ≤ 16 := by simp; omega
          split at h
          · rename_i hd
            refine ⟨?_, fun c hc => (ho' c hc).1, fun c hc => (ho' c hc).2⟩
            simp only
            rw [pipeMay, hm]
            simp
            omega
          · rename_i x r hd
            split at h
            · simp at h
            · rename_i h4
              rw [if_neg h4]
              split at h
              · simp at h
              · rename_i h5
                rw [if_neg h5]
                refine pipeF_ok at_ f r _ (fun y hy => hl y ?_) hm hlen ho' h
                have : y ∈ l.drop (spanW l) := by rw [hd]; simp [hy]
                exact List.mem_of_mem_drop this
theorem pipeM_ok {s : Bytes} {l : List W} {at_ : Int} (hl : ∀ x ∈ l, WGood s x) (h : (pipeM l at_).2.2 = 0) : PipeGood s (pipeM l at_).1 := by
  rw [pipeM] at h ⊢
  split at h
  · simp at h
  · rename_i h1
    rw [if_neg h1]
    exact pipeF_ok at_ _ _ _ hl rfl (by simp) (by simp) h
theorem pipeP_ok {s : Bytes} {pc : Piece} {k : Nat} {pi : List CallM} (hl : ∀ x ∈ pc.words, WGood s x) (h : pipeP pc k = .ok pi) : PipeGood s pi := by
  rw [pipeP] at h
  split at h
  · cases h
  · rename_i h1
    cases h
    exact pipeM_ok (fun x hx => hl x (List.mem_of_mem_drop hx)) (by simpa using h1)
theorem wordsP_good {x : W} {pc : Piece} (h : wordsP x = .ok pc) : (∀ y ∈ pc.words, WGood x.text y) ∧ pc.at_ = x.at_ ∧ (∀ c ∈ pc.head, c ∈ x.text) ∧ pc.words ≠ [] := by
  rw [wordsP] at h
  split at h
  · cases h
  · split at h
    · cases h
    · rename_i y r hw
      cases h
      have := words_good x.text x.at_
      rw [hw] at this
      refine ⟨this, rfl, ?_, by simp⟩
      simp only
      split
      · rename_i h1; exact (this y (by simp)).one h1
      · simp

end Go.Vc.M

/- Plain laws: what is read has what it needs, or tells where not (CheckTexts). -/
namespace Go.Vc.M
open Go Go.Vc

/-- Where a text has an octet. -/
def HasAt (s : Bytes) (z : Int) (c : UInt8) : Prop := ∃ k : Nat, z = k ∧ s[k]? = some c
/-- What an action's piece is, in its text. -/
def SrcOf (s : Bytes) (x : W) : Prop := x.kind ≠ 1 → HasAt s x.at_ 123 ∧ ∀ c ∈ x.text, c ∈ s

theorem mem_trimM {s : Bytes} {c : UInt8} (h : c ∈ trimM s) : c ∈ s := by
  rw [trimM] at h; exact List.mem_of_mem_take (List.mem_of_mem_drop h)
theorem mem_tail {s : Bytes} {c : UInt8} (h : c ∈ tail s) : c ∈ s := by
  rw [tail] at h
  split at h
  · exact List.mem_of_mem_take h
  · exact h
theorem mem_lead {s : Bytes} {c : UInt8} (h : c ∈ lead s) : c ∈ s := by
  rw [lead] at h
  split at h
  · exact List.mem_of_mem_drop h
  · exact h
theorem put1_src {s : Bytes} {out : List W} {text : Bytes} {place : Int} (h : ∀ x ∈ out, SrcOf s x) : ∀ x ∈ put1 out text place, SrcOf s x := by
  rw [put1]
  split
  · exact h
  · intro x hx
    rcases List.mem_append.1 hx with hx | hx
    · exact h x hx
    · simp at hx; subst hx; exact fun h => absurd rfl h
theorem itemsF_src (s : Bytes) : ∀ (f : Nat) (out : List W) (text : Bytes) (place : Int) (trim : Bool) (at_ : Nat), (∀ x ∈ out, SrcOf s x) → ∀ x ∈ (itemsF s f out text place trim at_).1, SrcOf s x
  | 0, out, text, place, trim, at_, ho => by rw [itemsF]; exact put1_src ho
  | f + 1, out, text, place, trim, at_, ho => by
    rw [itemsF]
    split
    · exact put1_src ho
    · rename_i n hn
      split
      · simp
      · rename_i x hx
        refine itemsF_src s f _ _ _ _ _ ?_
        split
        · exact ho
        · intro y hy
          rcases List.mem_append.1 hy with hy | hy
          · exact put1_src ho y hy
          · simp at hy
            subst hy
            intro _
            refine ⟨⟨at_ + n, by simp only; omega, ?_⟩, fun c hc => ?_⟩
            · obtain ⟨t, ht⟩ := find_pre hn
              rw [List.drop_drop] at ht
              have : s[at_ + n]? = (s.drop (at_ + n))[0]? := by rw [List.getElem?_drop]; simp
              rw [this, ← ht]; rfl
            · exact List.mem_of_mem_take (List.mem_of_mem_drop (mem_lead (mem_tail (mem_trimM hc))))
theorem items_src (s : Bytes) : ∀ x ∈ (items s).1, SrcOf s x := by
  rw [items]
  split
  · simp
  · exact itemsF_src s _ _ _ _ _ _ (by simp)

/-- What holds of each node that is read of a text. -/
structure NodeGood (s : Bytes) (h : Hd) (b e : List Node) : Prop where
  may : mayN (.mk h b e) = true
  args : ∀ c ∈ h.pipe, c.args.length ≤ 8 ∧ ∀ a ∈ c.args, argMayM a = true ∧ ArgIn s a
  len : h.pipe.length ≤ 16
  leaf : h.kind = 1 → b = [] ∧ e = [] ∧ h.pipe = []
  place : h.kind ≠ 1 → HasAt s h.at_ 123
  call : h.kind = 6 → (116 : UInt8) ∈ s

theorem pipeMay_len {l : List CallM} (h : pipeMay l = true) : 1 ≤ l.length ∧ l.length ≤ 16 := by
  rw [pipeMay, Bool.and_eq_true] at h
  exact of_decide_eq_true h.1
theorem ArgIn.mono {s t : Bytes} {a : ArgM} (h : ArgIn s a) (hs : ∀ c ∈ s, c ∈ t) : ArgIn t a := fun hk => hs _ (h hk)

theorem good_pipe {s t : Bytes} {h : Hd} {b e : List Node} (hp : PipeGood t h.pipe) (ht : ∀ c ∈ t, c ∈ s) (hk : 2 ≤ h.kind ∧ h.kind ≤ 7) (he : h.esc = 0) (hu : h.unit = 0) (htx : h.text = []) (hn : (h.kind = 6 ∨ h.kind = 7) ↔ h.name ≠ []) (hb : (3 ≤ h.kind ∧ h.kind ≤ 5) ∨ (b = [] ∧ e = [])) (hpl : HasAt s h.at_ 123) (h6 : h.kind = 6 → (116 : UInt8) ∈ s) : NodeGood s h b e := by
  have hl := pipeMay_len hp.may
  refine ⟨?_, fun c hc => ⟨(hp.args c hc).1, fun a ha => ⟨(hp.args c hc).2 a ha, (hp.var c hc a ha).mono ht⟩⟩, hl.2, fun h1 => by omega, fun _ => hpl, h6⟩
  have e1 : pipedB h = true := by
    rw [pipedB]
    simp only [Bool.and_eq_true, Bool.or_eq_true, decide_eq_true_eq]
    exact ⟨by omega, .inr (by omega)⟩
  rw [mayN, e1, hp.may]
  simp only [Bool.and_eq_true, decide_eq_true_eq, Bool.or_eq_true, Bool.not_true, beq_iff_eq]
  refine ⟨⟨⟨⟨⟨⟨⟨⟨by omega, by omega⟩, he⟩, hu⟩, ?_⟩, .inr trivial⟩, .inr htx⟩, ?_⟩, ?_⟩
  · exact (decide_eq_true (by omega)).symm
  · by_cases hq : h.kind = 6 ∨ h.kind = 7
    · have := hn.1 hq
      rw [decide_eq_false this]
      rcases hq with q | q <;> rw [decide_eq_true q] <;> simp
    · have : h.name = [] := Classical.byContradiction fun hc => hq (hn.2 hc)
      rw [decide_eq_true this, decide_eq_false (fun q => hq (.inl q)), decide_eq_false (fun q => hq (.inr q))]; rfl
  · rcases hb with hb | ⟨rfl, rfl⟩
    · exact .inl hb
    · exact .inr rfl

theorem bears_good (s : Bytes) : Bears (NodeGood s) (SrcOf s) := by
  refine ⟨fun t a => ?_, fun h t hk hp => ?_, fun h b e hk hp => ⟨(hp.leaf hk).1, (hp.leaf hk).2.1⟩, fun x pc h hx hxk hw hs => ?_, fun x pc kind from_ pi b e hx hxk hw hk hpi => ?_⟩
  · refine ⟨?_, by simp, by simp, fun _ => ⟨rfl, rfl, rfl⟩, fun h => absurd rfl h, fun h => by cases h⟩
    simp [mayN, pipedB]
  · obtain ⟨h1, h2, h3, h4, h5, h6⟩ := hp
    refine ⟨?_, h2, h3, h4, h5, h6⟩
    simp only [mayN, hk, pipedB] at h1 ⊢
    exact h1
  · obtain ⟨g1, g2, g3, g4⟩ := wordsP_good hw
    obtain ⟨x1, x2⟩ := hx hxk
    rw [← g2] at x1
    rw [singleP] at hs
    split at hs
    · rename_i hhd
      have h116 : (116 : UInt8) ∈ s := x2 _ (g3 116 (by rw [hhd]; decide))
      split at hs
      · cases hs
      · rename_i nm hc
        have hnm := nameB_ne (calledM_name hc)
        split at hs
        · split at hs
          · cases hs
          · rename_i p hp
            cases hs
            exact good_pipe (pipeP_ok g1 hp) x2 (by simp) rfl rfl rfl (by simp [hnm]) (.inr ⟨rfl, rfl⟩) x1 (fun _ => h116)
        · cases hs
          refine ⟨?_, by simp, by simp, fun h => by simp at h, fun _ => x1, fun _ => h116⟩
          simp [mayN, pipedB, hnm]
    · split at hs
      · rename_i nm _
        split at hs
        · cases hs
        · rename_i hn
          split at hs
          · cases hs
          · rename_i p hp
            cases hs
            have hnm : nm ≠ [] := nameB_ne (by simpa using hn)
            exact good_pipe (pipeP_ok g1 hp) x2 (by simp) rfl rfl rfl (by simp [hnm]) (.inr ⟨rfl, rfl⟩) x1 (fun h => by simp at h)
      · split at hs
        · cases hs
        · rename_i p hp
          cases hs
          exact good_pipe (pipeP_ok g1 hp) x2 (by simp) rfl rfl rfl (by simp) (.inr ⟨rfl, rfl⟩) x1 (fun h => by simp at h)
  · obtain ⟨g1, g2, g3, g4⟩ := wordsP_good hw
    obtain ⟨x1, x2⟩ := hx hxk
    rw [← g2] at x1
    exact good_pipe (pipeP_ok g1 hpi) x2 (by rcases hk with e | e | e <;> rw [e] <;> simp) rfl rfl rfl ⟨fun h => by rcases hk with e | e | e <;> rw [e] at h <;> simp at h, fun h => absurd rfl h⟩ (.inl (by rcases hk with e | e | e <;> rw [e] <;> simp)) x1 (fun h => by rcases hk with e | e | e <;> rw [e] at h <;> simp at h)

mutual
theorem eachN_of {s : Bytes} : ∀ x : Node, allP (NodeGood s) x → eachN x = true
  | .mk h b e, hx => by
    rw [allP] at hx
    rw [eachN, hx.1.may, eachL_of b hx.2.1, eachL_of e hx.2.2]; rfl
theorem eachL_of {s : Bytes} : ∀ l : List Node, allPL (NodeGood s) l → eachL l = true
  | [], _ => by rw [eachL]
  | x :: r, h => by
    rw [allPL] at h
    rw [eachL, eachN_of x h.1, eachL_of r h.2]; rfl
end

/-- A fault of what is read: a variable's, at an action; or a call's. -/
def FaultOk (s : Bytes) (x : Int × Int) : Prop := (x.2 = 31 ∧ HasAt s x.1 123) ∨ x.2 = 71
theorem headFault_ok {s : Bytes} {has : Bytes → Bool} {vars : List Bytes} {h : Hd} {b e : List Node} (hg : NodeGood s h b e) {x : Int × Int} (hx : headFault has vars h = some x) : FaultOk s x := by
  rw [headFault] at hx
  split at hx
  · rename_i hl
    cases hx
    refine .inl ⟨rfl, hg.place fun h1 => ?_⟩
    rw [(hg.leaf h1).2.2] at hl
    cases hl
  · split at hx
    · cases hx; exact .inr rfl
    · cases hx
mutual
theorem needN_ok {s : Bytes} {has : Bytes → Bool} : ∀ (x : Node) (vars : List Bytes) (y : Int × Int), allP (NodeGood s) x → needN has vars x = some y → FaultOk s y
  | .mk h b e, vars, y, hp, hx => by
    rw [allP] at hp
    rw [needN] at hx
    split at hx
    · rename_i z hz; cases hx; exact headFault_ok hp.1 hz
    · split at hx
      · rename_i z hz; cases hx; exact needL_ok b _ _ hp.2.1 hz
      · exact needL_ok e _ _ hp.2.2 hx
theorem needL_ok {s : Bytes} {has : Bytes → Bool} : ∀ (l : List Node) (vars : List Bytes) (y : Int × Int), allPL (NodeGood s) l → needL has vars l = some y → FaultOk s y
  | [], _, _, _, hx => by rw [needL] at hx; cases hx
  | x :: r, vars, y, hp, hx => by
    rw [allPL] at hp
    rw [needL] at hx
    split at hx
    · rename_i z hz; cases hx; exact needN_ok x _ _ hp.1 hz
    · exact needL_ok r _ _ hp.2 hx
end
theorem headFault_none {s : Bytes} {has : Bytes → Bool} {vars : List Bytes} {h : Hd} {b e : List Node} (hg : NodeGood s h b e) (h36 : (36 : UInt8) ∉ s) (h116 : (116 : UInt8) ∉ s) : headFault has vars h = none := by
  have h1 : lacksP vars h.pipe = false := by
    rw [lacksP, List.any_eq_false]
    intro c hc
    rw [Bool.not_eq_true, List.any_eq_false]
    intro a ha
    have := ((hg.args c hc).2 a ha).2
    rw [lacksA, decide_eq_false (fun hk => h36 (this hk))]
    simp
  rw [headFault, h1, if_neg (by simp), if_neg]
  rintro ⟨h6, _⟩
  exact h116 (hg.call h6)
mutual
theorem needN_none {s : Bytes} {has : Bytes → Bool} (h36 : (36 : UInt8) ∉ s) (h116 : (116 : UInt8) ∉ s) : ∀ (x : Node) (vars : List Bytes), allP (NodeGood s) x → needN has vars x = none
  | .mk h b e, vars, hp => by
    rw [allP] at hp
    rw [needN, headFault_none hp.1 h36 h116]
    simp only [needL_none h36 h116 b _ hp.2.1, needL_none h36 h116 e _ hp.2.2]
theorem needL_none {s : Bytes} {has : Bytes → Bool} (h36 : (36 : UInt8) ∉ s) (h116 : (116 : UInt8) ∉ s) : ∀ (l : List Node) (vars : List Bytes), allPL (NodeGood s) l → needL has vars l = none
  | [], _, _ => by rw [needL]
  | x :: r, vars, hp => by
    rw [allPL] at hp
    rw [needL, needN_none h36 h116 x _ hp.1]
    exact needL_none h36 h116 r _ hp.2
end

/-- WHAT IS READ, AND WHAT IT NEEDS. -/
theorem check_law (s : Bytes) (h : (parseM s).2.2 = 0) : ∃ d r, (parseM s).1 = d :: r ∧ d.name = [] ∧ (∀ x ∈ r, x.name ≠ []) ∧ totD (parseM s).1 ≤ 1024 ∧
    (∀ d ∈ (parseM s).1, allPL (NodeGood s) d.body ∧ depthL d.body ≤ 17) ∧
    (∀ has l x, (∀ d ∈ l, d ∈ (parseM s).1) → checkDefs has l = some x → FaultOk s x) ∧
    ((36 : UInt8) ∉ s → (116 : UInt8) ∉ s → ∀ has l, (∀ d ∈ l, d ∈ (parseM s).1) → checkDefs has l = none) := by
  obtain ⟨_, h1, b, r, h2, h3, h4, h5⟩ := parseM_inv s (bears_good s) (items_src s) h
  have hall : ∀ d ∈ (parseM s).1, allPL (NodeGood s) d.body ∧ depthL d.body ≤ 17 := by
    intro d hd
    rw [h2] at hd
    rcases List.mem_cons.1 hd with e | e
    · rw [e]; exact ⟨h3, h4⟩
    · exact ⟨(h5 d e).all, (h5 d e).depth⟩
  refine ⟨⟨[], b⟩, r, h2, rfl, fun x hx => (h5 x hx).name, h1, hall, fun has l => ?_, fun h36 h116 has l => ?_⟩
  · induction l with
    | nil => intro x _ hx; rw [checkDefs] at hx; cases hx
    | cons d l ih =>
      intro x hl hx
      rw [checkDefs] at hx
      split at hx
      · rename_i y hy; cases hx; exact needL_ok _ _ _ (hall d (hl d (by simp))).1 hy
      · exact ih x (fun d hd => hl d (by simp [hd])) hx
  · induction l with
    | nil => intro _; rw [checkDefs]
    | cons d l ih =>
      intro hl
      rw [checkDefs, needL_none h36 h116 _ _ (hall d (hl d (by simp))).1]
      exact ih fun d hd => hl d (by simp [hd])

end Go.Vc.M

/- Names for the numbers of the dump. -/
namespace Go.Proofs.Ytpedoaeieabhoaa.V
open Go Go.Vc Go.Proofs
noncomputable abbrev P : Program := Try.prog
abbrev F_law22_CheckTexts : FuncId := 3
noncomputable abbrev D_law22_CheckTexts : Func := Try.f3
abbrev F_law22_alive : FuncId := 4
noncomputable abbrev D_law22_alive : Func := Try.f4
abbrev F_ref20_Parse : FuncId := 5
noncomputable abbrev D_ref20_Parse : Func := Try.f5
abbrev F_check_Check : FuncId := 6
noncomputable abbrev D_check_Check : Func := Try.f6
abbrev F_law22_num : FuncId := 7
noncomputable abbrev D_law22_num : Func := Try.f7
abbrev F_ref18_Items : FuncId := 8
noncomputable abbrev D_ref18_Items : Func := Try.f8
abbrev F_ref20_Parser_nodes : FuncId := 9
noncomputable abbrev D_ref20_Parser_nodes : Func := Try.f9
abbrev F_check_Check_1 : FuncId := 10
noncomputable abbrev D_check_Check_1 : Func := Try.f10
abbrev F_check_need : FuncId := 11
noncomputable abbrev D_check_need : Func := Try.f11
abbrev F_parse_Depth : FuncId := 12
noncomputable abbrev D_parse_Depth : Func := Try.f12
abbrev F_check_each : FuncId := 13
noncomputable abbrev D_check_each : Func := Try.f13
abbrev F_check_may : FuncId := 14
noncomputable abbrev D_check_may : Func := Try.f14
abbrev F_check_looker_nodes : FuncId := 15
noncomputable abbrev D_check_looker_nodes : Func := Try.f15
abbrev F_ref01_Find : FuncId := 16
noncomputable abbrev D_ref01_Find : Func := Try.f16
abbrev F_ref18_skip : FuncId := 17
noncomputable abbrev D_ref18_skip : Func := Try.f17
abbrev F_ref01_Begins : FuncId := 18
noncomputable abbrev D_ref01_Begins : Func := Try.f18
abbrev F_ref18_closes : FuncId := 19
noncomputable abbrev D_ref18_closes : Func := Try.f19
abbrev F_ref01_Blank : FuncId := 20
noncomputable abbrev D_ref01_Blank : Func := Try.f20
abbrev F_ref18_back : FuncId := 21
noncomputable abbrev D_ref18_back : Func := Try.f21
abbrev F_ref01_Trim : FuncId := 22
noncomputable abbrev D_ref01_Trim : Func := Try.f22
abbrev F_ref20_Parser_count : FuncId := 23
noncomputable abbrev D_ref20_Parser_count : Func := Try.f23
abbrev F_ref20_Parser_words : FuncId := 24
noncomputable abbrev D_ref20_Parser_words : Func := Try.f24
abbrev F_ref20_Parser_fail : FuncId := 25
noncomputable abbrev D_ref20_Parser_fail : Func := Try.f25
abbrev F_ref20_Parser_define : FuncId := 26
noncomputable abbrev D_ref20_Parser_define : Func := Try.f26
abbrev F_ref20_Parser_block : FuncId := 27
noncomputable abbrev D_ref20_Parser_block : Func := Try.f27
abbrev F_ref20_Parser_single : FuncId := 28
noncomputable abbrev D_ref20_Parser_single : Func := Try.f28
abbrev F_pipes_Check : FuncId := 29
noncomputable abbrev D_pipes_Check : Func := Try.f29
abbrev F_slices_Clip_string : FuncId := 30
noncomputable abbrev D_slices_Clip_string : Func := Try.f30
abbrev F_check_pipe : FuncId := 31
noncomputable abbrev D_check_pipe : Func := Try.f31
abbrev F_slices_ContainsFunc_api_Def : FuncId := 32
noncomputable abbrev D_slices_ContainsFunc_api_Def : Func := Try.f32
abbrev F_check_looker_nodes_1 : FuncId := 33
noncomputable abbrev D_check_looker_nodes_1 : Func := Try.f33
abbrev F_ref18_Words : FuncId := 34
noncomputable abbrev D_ref18_Words : Func := Try.f34
abbrev F_ref20_Parser_called : FuncId := 35
noncomputable abbrev D_ref20_Parser_called : Func := Try.f35
abbrev F_ref20_Parser_pipe : FuncId := 36
noncomputable abbrev D_ref20_Parser_pipe : Func := Try.f36
abbrev F_ref01_Name : FuncId := 37
noncomputable abbrev D_ref01_Name : Func := Try.f37
abbrev F_pipes_callMay : FuncId := 38
noncomputable abbrev D_pipes_callMay : Func := Try.f38
abbrev F_slices_Contains_string : FuncId := 39
noncomputable abbrev D_slices_Contains_string : Func := Try.f39
abbrev F_slices_IndexFunc_api_Def : FuncId := 40
noncomputable abbrev D_slices_IndexFunc_api_Def : Func := Try.f40
abbrev F_ref18_word : FuncId := 41
noncomputable abbrev D_ref18_word : Func := Try.f41
abbrev F_ref19_Parse : FuncId := 42
noncomputable abbrev D_ref19_Parse : Func := Try.f42
abbrev F_ref01_Letter : FuncId := 43
noncomputable abbrev D_ref01_Letter : Func := Try.f43
abbrev F_ref01_Digit : FuncId := 44
noncomputable abbrev D_ref01_Digit : Func := Try.f44
abbrev F_slices_ContainsFunc_api_Arg : FuncId := 45
noncomputable abbrev D_slices_ContainsFunc_api_Arg : Func := Try.f45
abbrev F_pipes_callMay_1 : FuncId := 46
noncomputable abbrev D_pipes_callMay_1 : Func := Try.f46
abbrev F_pipes_argMay : FuncId := 47
noncomputable abbrev D_pipes_argMay : Func := Try.f47
abbrev F_pipes_Arity : FuncId := 48
noncomputable abbrev D_pipes_Arity : Func := Try.f48
abbrev F_slices_Index_string : FuncId := 49
noncomputable abbrev D_slices_Index_string : Func := Try.f49
abbrev F_ref18_begin : FuncId := 50
noncomputable abbrev D_ref18_begin : Func := Try.f50
abbrev F_ref18_name : FuncId := 51
noncomputable abbrev D_ref18_name : Func := Try.f51
abbrev F_ref18_dots : FuncId := 52
noncomputable abbrev D_ref18_dots : Func := Try.f52
abbrev F_ref01_Parse : FuncId := 53
noncomputable abbrev D_ref01_Parse : Func := Try.f53
abbrev F_ref18_str : FuncId := 54
noncomputable abbrev D_ref18_str : Func := Try.f54
abbrev F_ref19_call : FuncId := 55
noncomputable abbrev D_ref19_call : Func := Try.f55
abbrev F_slices_IndexFunc_api_Arg : FuncId := 56
noncomputable abbrev D_slices_IndexFunc_api_Arg : Func := Try.f56
abbrev F_slices_ContainsFunc_string : FuncId := 57
noncomputable abbrev D_slices_ContainsFunc_string : Func := Try.f57
abbrev F_pipes_argMay_1 : FuncId := 58
noncomputable abbrev D_pipes_argMay_1 : Func := Try.f58
abbrev F_octets_Name : FuncId := 59
noncomputable abbrev D_octets_Name : Func := Try.f59
abbrev F_ref01_Has : FuncId := 60
noncomputable abbrev D_ref01_Has : Func := Try.f60
abbrev F_ref19_constant : FuncId := 61
noncomputable abbrev D_ref19_constant : Func := Try.f61
abbrev F_ref19_arg : FuncId := 62
noncomputable abbrev D_ref19_arg : Func := Try.f62
abbrev F_ref19_Arity : FuncId := 63
noncomputable abbrev D_ref19_Arity : Func := Try.f63
abbrev F_slices_IndexFunc_string : FuncId := 64
noncomputable abbrev D_slices_IndexFunc_string : Func := Try.f64
abbrev F_slices_ContainsFunc_byte : FuncId := 65
noncomputable abbrev D_slices_ContainsFunc_byte : Func := Try.f65
abbrev F_octets_Name_1 : FuncId := 66
noncomputable abbrev D_octets_Name_1 : Func := Try.f66
abbrev F_octets_Letter : FuncId := 67
noncomputable abbrev D_octets_Letter : Func := Try.f67
abbrev F_ref19_path : FuncId := 68
noncomputable abbrev D_ref19_path : Func := Try.f68
abbrev F_slices_IndexFunc_byte : FuncId := 69
noncomputable abbrev D_slices_IndexFunc_byte : Func := Try.f69
abbrev T_int64 : TypeId := 2
abbrev T_int : TypeId := 3
abbrev T_bool : TypeId := 4
abbrev T_uint8 : TypeId := 5
abbrev T_internal_abi_BoundsErrorCode : TypeId := 6
abbrev T_runtime_boundsError : TypeId := 8
abbrev T_string : TypeId := 9
abbrev T_runtime_errorString : TypeId := 10
abbrev T_runtime_plainError : TypeId := 11
abbrev T_uintptr : TypeId := 12
abbrev T_runtime_errorAddressString : TypeId := 14
abbrev T_internal_runtime_maps_unhashableTypeError : TypeId := 19
abbrev T_int32 : TypeId := 21
abbrev T_api_Errno : TypeId := 26
abbrev T_api_Arg : TypeId := 33
abbrev T_api_Call : TypeId := 36
abbrev T_api_Node : TypeId := 40
abbrev T_api_Def : TypeId := 42
abbrev T_ref20_Parser : TypeId := 48
abbrev T_ref20_piece : TypeId := 51
abbrev T_check_fault : TypeId := 55
abbrev T_check_looker : TypeId := 63
abbrev T_ref18_Item : TypeId := 71
abbrev T_ref18_Word : TypeId := 87
abbrev T_uint64 : TypeId := 114
abbrev T_runtime_TypeAssertionError : TypeId := 126
abbrev T_runtime_PanicNilError : TypeId := 129
abbrev T_uint32 : TypeId := 131
abbrev T_internal_abi_TFlag : TypeId := 132
abbrev T_internal_abi_Kind : TypeId := 133
abbrev T_internal_abi_NameOff : TypeId := 136
abbrev T_internal_abi_TypeOff : TypeId := 137
abbrev T_internal_abi_Type : TypeId := 139
end Go.Proofs.Ytpedoaeieabhoaa.V
