/- Lemmas for the seat: the conditions of code, and contracts of functions, part 4. Condition: none. -/
import Derived.Test.YtpedoaeieabhoaaE3

/- Conditions of functions, printed by a program out of the dump: each is the engine's own condition of that function, as the kernel finds. -/
set_option linter.unusedVariables false
namespace Go.Proofs.Ytpedoaeieabhoaa.V
open Go Go.Vc Go.Proofs
def an_pipes_Arity : Ann := { boxes := [], loops := [], cuts := [], pans := [11, 13, 14, 15, 31], draws := [] }
def vc_pipes_Arity (name : Bytes) (w : World) (R : Ending → World → Prop) : Prop :=
  br (decide (name = [108, 101, 110]))
    (br (decide (name = [108, 101, 110]))
      (R (Ending.returned (Value.tuple #[Value.int .i64 1, Value.int .i64 1, Value.bool true])) w)
      (br (decide (name = [101, 113]))
        (br (decide (name = [101, 113]))
          (R (Ending.returned (Value.tuple #[Value.int .i64 2, Value.int .i64 2, Value.bool true])) w)
          (br (decide (name = [112, 114, 105, 110, 116]))
            (R (Ending.returned (Value.tuple #[Value.int .i64 1, Value.int .i64 8, Value.bool true])) w)
            (R (Ending.returned (Value.tuple #[Value.int .i64 0, Value.int .i64 0, Value.bool false])) w)))
        (br (decide (name = [108, 116]))
          (br (decide (name = [108, 116]))
            (R (Ending.returned (Value.tuple #[Value.int .i64 2, Value.int .i64 2, Value.bool true])) w)
            (br (decide (name = [112, 114, 105, 110, 116]))
              (R (Ending.returned (Value.tuple #[Value.int .i64 1, Value.int .i64 8, Value.bool true])) w)
              (R (Ending.returned (Value.tuple #[Value.int .i64 0, Value.int .i64 0, Value.bool false])) w)))
          (br (decide (name = [97, 110, 100]))
            (br (decide (name = [97, 110, 100]))
              (R (Ending.returned (Value.tuple #[Value.int .i64 2, Value.int .i64 2, Value.bool true])) w)
              (br (decide (name = [112, 114, 105, 110, 116]))
                (R (Ending.returned (Value.tuple #[Value.int .i64 1, Value.int .i64 8, Value.bool true])) w)
                (R (Ending.returned (Value.tuple #[Value.int .i64 0, Value.int .i64 0, Value.bool false])) w)))
            (br (decide (name = [111, 114]))
              (br (decide (name = [111, 114]))
                (R (Ending.returned (Value.tuple #[Value.int .i64 2, Value.int .i64 2, Value.bool true])) w)
                (br (decide (name = [112, 114, 105, 110, 116]))
                  (R (Ending.returned (Value.tuple #[Value.int .i64 1, Value.int .i64 8, Value.bool true])) w)
                  (R (Ending.returned (Value.tuple #[Value.int .i64 0, Value.int .i64 0, Value.bool false])) w)))
              (br (decide (name = [106, 111, 105, 110]))
                (br (decide (name = [106, 111, 105, 110]))
                  (R (Ending.returned (Value.tuple #[Value.int .i64 2, Value.int .i64 2, Value.bool true])) w)
                  (br (decide (name = [112, 114, 105, 110, 116]))
                    (R (Ending.returned (Value.tuple #[Value.int .i64 1, Value.int .i64 8, Value.bool true])) w)
                    (R (Ending.returned (Value.tuple #[Value.int .i64 0, Value.int .i64 0, Value.bool false])) w)))
                (br (decide (name = [100, 101, 102, 97, 117, 108, 116]))
                  (br (decide (name = [100, 101, 102, 97, 117, 108, 116]))
                    (R (Ending.returned (Value.tuple #[Value.int .i64 2, Value.int .i64 2, Value.bool true])) w)
                    (br (decide (name = [112, 114, 105, 110, 116]))
                      (R (Ending.returned (Value.tuple #[Value.int .i64 1, Value.int .i64 8, Value.bool true])) w)
                      (R (Ending.returned (Value.tuple #[Value.int .i64 0, Value.int .i64 0, Value.bool false])) w)))
                  (br (decide (name = [105, 110, 100, 101, 120]))
                    (R (Ending.returned (Value.tuple #[Value.int .i64 2, Value.int .i64 2, Value.bool true])) w)
                    (br (decide (name = [112, 114, 105, 110, 116]))
                      (R (Ending.returned (Value.tuple #[Value.int .i64 1, Value.int .i64 8, Value.bool true])) w)
                      (R (Ending.returned (Value.tuple #[Value.int .i64 0, Value.int .i64 0, Value.bool false])) w))))))))))
    (br (decide (name = [110, 111, 116]))
      (br (decide (name = [110, 111, 116]))
        (R (Ending.returned (Value.tuple #[Value.int .i64 1, Value.int .i64 1, Value.bool true])) w)
        (br (decide (name = [101, 113]))
          (br (decide (name = [101, 113]))
            (R (Ending.returned (Value.tuple #[Value.int .i64 2, Value.int .i64 2, Value.bool true])) w)
            (br (decide (name = [112, 114, 105, 110, 116]))
              (R (Ending.returned (Value.tuple #[Value.int .i64 1, Value.int .i64 8, Value.bool true])) w)
              (R (Ending.returned (Value.tuple #[Value.int .i64 0, Value.int .i64 0, Value.bool false])) w)))
          (br (decide (name = [108, 116]))
            (br (decide (name = [108, 116]))
              (R (Ending.returned (Value.tuple #[Value.int .i64 2, Value.int .i64 2, Value.bool true])) w)
              (br (decide (name = [112, 114, 105, 110, 116]))
                (R (Ending.returned (Value.tuple #[Value.int .i64 1, Value.int .i64 8, Value.bool true])) w)
                (R (Ending.returned (Value.tuple #[Value.int .i64 0, Value.int .i64 0, Value.bool false])) w)))
            (br (decide (name = [97, 110, 100]))
              (br (decide (name = [97, 110, 100]))
                (R (Ending.returned (Value.tuple #[Value.int .i64 2, Value.int .i64 2, Value.bool true])) w)
                (br (decide (name = [112, 114, 105, 110, 116]))
                  (R (Ending.returned (Value.tuple #[Value.int .i64 1, Value.int .i64 8, Value.bool true])) w)
                  (R (Ending.returned (Value.tuple #[Value.int .i64 0, Value.int .i64 0, Value.bool false])) w)))
              (br (decide (name = [111, 114]))
                (br (decide (name = [111, 114]))
                  (R (Ending.returned (Value.tuple #[Value.int .i64 2, Value.int .i64 2, Value.bool true])) w)
                  (br (decide (name = [112, 114, 105, 110, 116]))
                    (R (Ending.returned (Value.tuple #[Value.int .i64 1, Value.int .i64 8, Value.bool true])) w)
                    (R (Ending.returned (Value.tuple #[Value.int .i64 0, Value.int .i64 0, Value.bool false])) w)))
                (br (decide (name = [106, 111, 105, 110]))
                  (br (decide (name = [106, 111, 105, 110]))
                    (R (Ending.returned (Value.tuple #[Value.int .i64 2, Value.int .i64 2, Value.bool true])) w)
                    (br (decide (name = [112, 114, 105, 110, 116]))
                      (R (Ending.returned (Value.tuple #[Value.int .i64 1, Value.int .i64 8, Value.bool true])) w)
                      (R (Ending.returned (Value.tuple #[Value.int .i64 0, Value.int .i64 0, Value.bool false])) w)))
                  (br (decide (name = [100, 101, 102, 97, 117, 108, 116]))
                    (br (decide (name = [100, 101, 102, 97, 117, 108, 116]))
                      (R (Ending.returned (Value.tuple #[Value.int .i64 2, Value.int .i64 2, Value.bool true])) w)
                      (br (decide (name = [112, 114, 105, 110, 116]))
                        (R (Ending.returned (Value.tuple #[Value.int .i64 1, Value.int .i64 8, Value.bool true])) w)
                        (R (Ending.returned (Value.tuple #[Value.int .i64 0, Value.int .i64 0, Value.bool false])) w)))
                    (br (decide (name = [105, 110, 100, 101, 120]))
                      (R (Ending.returned (Value.tuple #[Value.int .i64 2, Value.int .i64 2, Value.bool true])) w)
                      (br (decide (name = [112, 114, 105, 110, 116]))
                        (R (Ending.returned (Value.tuple #[Value.int .i64 1, Value.int .i64 8, Value.bool true])) w)
                        (R (Ending.returned (Value.tuple #[Value.int .i64 0, Value.int .i64 0, Value.bool false])) w))))))))))
      (br (decide (name = [117, 112, 112, 101, 114]))
        (br (decide (name = [117, 112, 112, 101, 114]))
          (R (Ending.returned (Value.tuple #[Value.int .i64 1, Value.int .i64 1, Value.bool true])) w)
          (br (decide (name = [101, 113]))
            (br (decide (name = [101, 113]))
              (R (Ending.returned (Value.tuple #[Value.int .i64 2, Value.int .i64 2, Value.bool true])) w)
              (br (decide (name = [112, 114, 105, 110, 116]))
                (R (Ending.returned (Value.tuple #[Value.int .i64 1, Value.int .i64 8, Value.bool true])) w)
                (R (Ending.returned (Value.tuple #[Value.int .i64 0, Value.int .i64 0, Value.bool false])) w)))
            (br (decide (name = [108, 116]))
              (br (decide (name = [108, 116]))
                (R (Ending.returned (Value.tuple #[Value.int .i64 2, Value.int .i64 2, Value.bool true])) w)
                (br (decide (name = [112, 114, 105, 110, 116]))
                  (R (Ending.returned (Value.tuple #[Value.int .i64 1, Value.int .i64 8, Value.bool true])) w)
                  (R (Ending.returned (Value.tuple #[Value.int .i64 0, Value.int .i64 0, Value.bool false])) w)))
              (br (decide (name = [97, 110, 100]))
                (br (decide (name = [97, 110, 100]))
                  (R (Ending.returned (Value.tuple #[Value.int .i64 2, Value.int .i64 2, Value.bool true])) w)
                  (br (decide (name = [112, 114, 105, 110, 116]))
                    (R (Ending.returned (Value.tuple #[Value.int .i64 1, Value.int .i64 8, Value.bool true])) w)
                    (R (Ending.returned (Value.tuple #[Value.int .i64 0, Value.int .i64 0, Value.bool false])) w)))
                (br (decide (name = [111, 114]))
                  (br (decide (name = [111, 114]))
                    (R (Ending.returned (Value.tuple #[Value.int .i64 2, Value.int .i64 2, Value.bool true])) w)
                    (br (decide (name = [112, 114, 105, 110, 116]))
                      (R (Ending.returned (Value.tuple #[Value.int .i64 1, Value.int .i64 8, Value.bool true])) w)
                      (R (Ending.returned (Value.tuple #[Value.int .i64 0, Value.int .i64 0, Value.bool false])) w)))
                  (br (decide (name = [106, 111, 105, 110]))
                    (br (decide (name = [106, 111, 105, 110]))
                      (R (Ending.returned (Value.tuple #[Value.int .i64 2, Value.int .i64 2, Value.bool true])) w)
                      (br (decide (name = [112, 114, 105, 110, 116]))
                        (R (Ending.returned (Value.tuple #[Value.int .i64 1, Value.int .i64 8, Value.bool true])) w)
                        (R (Ending.returned (Value.tuple #[Value.int .i64 0, Value.int .i64 0, Value.bool false])) w)))
                    (br (decide (name = [100, 101, 102, 97, 117, 108, 116]))
                      (br (decide (name = [100, 101, 102, 97, 117, 108, 116]))
                        (R (Ending.returned (Value.tuple #[Value.int .i64 2, Value.int .i64 2, Value.bool true])) w)
                        (br (decide (name = [112, 114, 105, 110, 116]))
                          (R (Ending.returned (Value.tuple #[Value.int .i64 1, Value.int .i64 8, Value.bool true])) w)
                          (R (Ending.returned (Value.tuple #[Value.int .i64 0, Value.int .i64 0, Value.bool false])) w)))
                      (br (decide (name = [105, 110, 100, 101, 120]))
                        (R (Ending.returned (Value.tuple #[Value.int .i64 2, Value.int .i64 2, Value.bool true])) w)
                        (br (decide (name = [112, 114, 105, 110, 116]))
                          (R (Ending.returned (Value.tuple #[Value.int .i64 1, Value.int .i64 8, Value.bool true])) w)
                          (R (Ending.returned (Value.tuple #[Value.int .i64 0, Value.int .i64 0, Value.bool false])) w))))))))))
        (br (decide (name = [108, 111, 119, 101, 114]))
          (R (Ending.returned (Value.tuple #[Value.int .i64 1, Value.int .i64 1, Value.bool true])) w)
          (br (decide (name = [101, 113]))
            (br (decide (name = [101, 113]))
              (R (Ending.returned (Value.tuple #[Value.int .i64 2, Value.int .i64 2, Value.bool true])) w)
              (br (decide (name = [112, 114, 105, 110, 116]))
                (R (Ending.returned (Value.tuple #[Value.int .i64 1, Value.int .i64 8, Value.bool true])) w)
                (R (Ending.returned (Value.tuple #[Value.int .i64 0, Value.int .i64 0, Value.bool false])) w)))
            (br (decide (name = [108, 116]))
              (br (decide (name = [108, 116]))
                (R (Ending.returned (Value.tuple #[Value.int .i64 2, Value.int .i64 2, Value.bool true])) w)
                (br (decide (name = [112, 114, 105, 110, 116]))
                  (R (Ending.returned (Value.tuple #[Value.int .i64 1, Value.int .i64 8, Value.bool true])) w)
                  (R (Ending.returned (Value.tuple #[Value.int .i64 0, Value.int .i64 0, Value.bool false])) w)))
              (br (decide (name = [97, 110, 100]))
                (br (decide (name = [97, 110, 100]))
                  (R (Ending.returned (Value.tuple #[Value.int .i64 2, Value.int .i64 2, Value.bool true])) w)
                  (br (decide (name = [112, 114, 105, 110, 116]))
                    (R (Ending.returned (Value.tuple #[Value.int .i64 1, Value.int .i64 8, Value.bool true])) w)
                    (R (Ending.returned (Value.tuple #[Value.int .i64 0, Value.int .i64 0, Value.bool false])) w)))
                (br (decide (name = [111, 114]))
                  (br (decide (name = [111, 114]))
                    (R (Ending.returned (Value.tuple #[Value.int .i64 2, Value.int .i64 2, Value.bool true])) w)
                    (br (decide (name = [112, 114, 105, 110, 116]))
                      (R (Ending.returned (Value.tuple #[Value.int .i64 1, Value.int .i64 8, Value.bool true])) w)
                      (R (Ending.returned (Value.tuple #[Value.int .i64 0, Value.int .i64 0, Value.bool false])) w)))
                  (br (decide (name = [106, 111, 105, 110]))
                    (br (decide (name = [106, 111, 105, 110]))
                      (R (Ending.returned (Value.tuple #[Value.int .i64 2, Value.int .i64 2, Value.bool true])) w)
                      (br (decide (name = [112, 114, 105, 110, 116]))
                        (R (Ending.returned (Value.tuple #[Value.int .i64 1, Value.int .i64 8, Value.bool true])) w)
                        (R (Ending.returned (Value.tuple #[Value.int .i64 0, Value.int .i64 0, Value.bool false])) w)))
                    (br (decide (name = [100, 101, 102, 97, 117, 108, 116]))
                      (br (decide (name = [100, 101, 102, 97, 117, 108, 116]))
                        (R (Ending.returned (Value.tuple #[Value.int .i64 2, Value.int .i64 2, Value.bool true])) w)
                        (br (decide (name = [112, 114, 105, 110, 116]))
                          (R (Ending.returned (Value.tuple #[Value.int .i64 1, Value.int .i64 8, Value.bool true])) w)
                          (R (Ending.returned (Value.tuple #[Value.int .i64 0, Value.int .i64 0, Value.bool false])) w)))
                      (br (decide (name = [105, 110, 100, 101, 120]))
                        (R (Ending.returned (Value.tuple #[Value.int .i64 2, Value.int .i64 2, Value.bool true])) w)
                        (br (decide (name = [112, 114, 105, 110, 116]))
                          (R (Ending.returned (Value.tuple #[Value.int .i64 1, Value.int .i64 8, Value.bool true])) w)
                          (R (Ending.returned (Value.tuple #[Value.int .i64 0, Value.int .i64 0, Value.bool false])) w))))))))))))
theorem eq_pipes_Arity (name : Bytes) (w : World) (R : Ending → World → Prop) : vc_pipes_Arity name w R = vc (bodyOf D_pipes_Arity) (cx0 P D_pipes_Arity an_pipes_Arity) 0 (st0 [Value.string (bs name)] w) (vEnd (cx0 P D_pipes_Arity an_pipes_Arity) D_pipes_Arity R) := by kernel_rfl
theorem ok_pipes_Arity (name : Bytes) {w : World} {R : Ending → World → Prop} (h : vc_pipes_Arity name w R) : Calls P F_pipes_Arity #[Value.string (bs name)] w R :=
  calls_of_vc (P := P) (f := F_pipes_Arity) (fn := D_pipes_Arity) (c := bodyOf D_pipes_Arity) (args := [Value.string (bs name)]) (R := R) (w := w) an_pipes_Arity Try.func48 (bodyOf_some (by kernel_rfl)) (by kernel_rfl) (by rw [← eq_pipes_Arity name w R]; exact h)
def an_slices_Index_string : Ann := { boxes := [], loops := [(0, [(8, Value.int .i64 0)], [4, 5, 9, 10, 11, 12, 13, 14, 15, 16, 17, 18])], cuts := [], pans := [11, 13, 14, 15, 31], draws := [] }
def vc_slices_Index_string (s : Sl) (v : Bytes) (w : World) (R : Ending → World → Prop) : Prop :=
  ∃ (J : Int → Nat → World → Prop) (n₀ : Nat), J (0 : Int) n₀ w ∧
  ∀ t8 : Int, ∀ (n : Nat) (w_ : World), J t8 n w_ →
  br (decide (t8 < ((s.len : Nat) : Int)))
    ((0 : Int) ≤ t8 ∧ t8 < ((s.len : Nat) : Int) ∧ ∃ a : Addr, s.a = some a ∧
    ∃ x : Bytes, CellsAt w_ (a.add (t8.toNat * 1)) [Value.string (bs x)] ∧
    br (decide (v = x))
      (R (Ending.returned (Value.int .i64 t8)) w_)
      (InI64 (t8 + 1) ∧
      ∃ m : Nat, m < n ∧ J (t8 + 1) m w_))
    (R (Ending.returned (Value.int .i64 (-1))) w_)
theorem eq_slices_Index_string (s : Sl) (v : Bytes) (w : World) (R : Ending → World → Prop) : vc_slices_Index_string s v w R = vc (bodyOf D_slices_Index_string) (cx0 P D_slices_Index_string an_slices_Index_string) 0 (st0 [Value.slice s.a s.len s.cap, Value.string (bs v)] w) (vEnd (cx0 P D_slices_Index_string an_slices_Index_string) D_slices_Index_string R) := by kernel_rfl
theorem ok_slices_Index_string (s : Sl) (v : Bytes) {w : World} {R : Ending → World → Prop} (h : vc_slices_Index_string s v w R) : Calls P F_slices_Index_string #[Value.slice s.a s.len s.cap, Value.string (bs v)] w R :=
  calls_of_vc (P := P) (f := F_slices_Index_string) (fn := D_slices_Index_string) (c := bodyOf D_slices_Index_string) (args := [Value.slice s.a s.len s.cap, Value.string (bs v)]) (R := R) (w := w) an_slices_Index_string Try.func49 (bodyOf_some (by kernel_rfl)) (by kernel_rfl) (by rw [← eq_slices_Index_string s v w R]; exact h)
def an_ref18_begin : Ann := { boxes := [], loops := [], cuts := [], pans := [11, 13, 14, 15, 31], draws := [] }
def vc_ref18_begin (s : Bytes) (at_ : Int) (w : World) (R : Ending → World → Prop) : Prop :=
  br (decide (at_ < (s.length : Int)))
    ((0 : Int) ≤ at_ ∧ at_ < (s.length : Int) ∧
    Calls P F_ref01_Letter #[Value.int .u8 (byteAt s at_.toNat)] w (fun (e_ : Ending) (w_ : World) =>
      ∃ r : Bool, e_ = Ending.returned (Value.bool r) ∧ 
      br r
        (R (Ending.returned (Value.bool true)) w_)
        ((0 : Int) ≤ at_ ∧ at_ < (s.length : Int) ∧
        R (Ending.returned (Value.bool (decide (byteAt s at_.toNat = 95)))) w_)))
    (R (Ending.returned (Value.bool false)) w)
theorem eq_ref18_begin (s : Bytes) (at_ : Int) (w : World) (R : Ending → World → Prop) : vc_ref18_begin s at_ w R = vc (bodyOf D_ref18_begin) (cx0 P D_ref18_begin an_ref18_begin) 0 (st0 [Value.string (bs s), Value.int .i64 at_] w) (vEnd (cx0 P D_ref18_begin an_ref18_begin) D_ref18_begin R) := by kernel_rfl
theorem ok_ref18_begin (s : Bytes) (at_ : Int) {w : World} {R : Ending → World → Prop} (h : vc_ref18_begin s at_ w R) : Calls P F_ref18_begin #[Value.string (bs s), Value.int .i64 at_] w R :=
  calls_of_vc (P := P) (f := F_ref18_begin) (fn := D_ref18_begin) (c := bodyOf D_ref18_begin) (args := [Value.string (bs s), Value.int .i64 at_]) (R := R) (w := w) an_ref18_begin Try.func50 (bodyOf_some (by kernel_rfl)) (by kernel_rfl) (by rw [← eq_ref18_begin s at_ w R]; exact h)
def an_ref18_name : Ann := { boxes := [], loops := [(0, [(1, Value.int .i64 0)], [9, 10, 11, 12, 13, 14, 15, 16, 17, 18, 19, 20, 21, 22, 23, 24, 25])], cuts := [], pans := [11, 13, 14, 15, 31], draws := [] }
def vc_ref18_name (s : Bytes) (at_ : Int) (w : World) (R : Ending → World → Prop) : Prop :=
  Calls P F_ref18_begin #[Value.string (bs s), Value.int .i64 at_] w (fun (e_ : Ending) (w_ : World) =>
    ∃ r : Bool, e_ = Ending.returned (Value.bool r) ∧ 
    br (!r)
      (R (Ending.returned (Value.int .i64 0)) w_)
      (∃ (J : Int → Nat → World → Prop) (n₀ : Nat), J at_ n₀ w_ ∧
      ∀ at_1 : Int, ∀ (n : Nat) (w_1 : World), J at_1 n w_1 →
      br (decide (at_1 < (s.length : Int)))
        (Calls P F_ref18_begin #[Value.string (bs s), Value.int .i64 at_1] w_1 (fun (e_1 : Ending) (w_2 : World) =>
          ∃ r1 : Bool, e_1 = Ending.returned (Value.bool r1) ∧ 
          br r1
            (InI64 (at_1 + 1) ∧
            ∃ m : Nat, m < n ∧ J (at_1 + 1) m w_2)
            ((0 : Int) ≤ at_1 ∧ at_1 < (s.length : Int) ∧
            Calls P F_ref01_Digit #[Value.int .u8 (byteAt s at_1.toNat)] w_2 (fun (e_2 : Ending) (w_3 : World) =>
              ∃ r2 : Bool, e_2 = Ending.returned (Value.bool r2) ∧ 
              br r2
                (InI64 (at_1 + 1) ∧
                ∃ m1 : Nat, m1 < n ∧ J (at_1 + 1) m1 w_3)
                (R (Ending.returned (Value.int .i64 at_1)) w_3)))))
        (R (Ending.returned (Value.int .i64 at_1)) w_1)))
theorem eq_ref18_name (s : Bytes) (at_ : Int) (w : World) (R : Ending → World → Prop) : vc_ref18_name s at_ w R = vc (bodyOf D_ref18_name) (cx0 P D_ref18_name an_ref18_name) 0 (st0 [Value.string (bs s), Value.int .i64 at_] w) (vEnd (cx0 P D_ref18_name an_ref18_name) D_ref18_name R) := by kernel_rfl
theorem ok_ref18_name (s : Bytes) (at_ : Int) {w : World} {R : Ending → World → Prop} (h : vc_ref18_name s at_ w R) : Calls P F_ref18_name #[Value.string (bs s), Value.int .i64 at_] w R :=
  calls_of_vc (P := P) (f := F_ref18_name) (fn := D_ref18_name) (c := bodyOf D_ref18_name) (args := [Value.string (bs s), Value.int .i64 at_]) (R := R) (w := w) an_ref18_name Try.func51 (bodyOf_some (by kernel_rfl)) (by kernel_rfl) (by rw [← eq_ref18_name s at_ w R]; exact h)
def an_ref18_dots : Ann := { boxes := [], loops := [(0, [(1, Value.int .i64 0)], [4, 5, 6, 7, 8, 9, 10, 11, 12, 13, 14, 15, 16, 17, 18, 19, 20, 21, 22, 23, 24, 25, 26, 27, 28, 29, 30, 31])], cuts := [(2, [], [7, 8, 9, 10, 11, 12, 13, 14, 15, 16, 17])], pans := [11, 13, 14, 15, 31], draws := [] }
def vc_ref18_dots (s : Bytes) (at_ : Int) (w : World) (R : Ending → World → Prop) : Prop :=
  ∃ (J : Int → Nat → World → Prop) (n₀ : Nat), J at_ n₀ w ∧
  ∀ at_1 : Int, ∀ (n : Nat) (w_ : World), J at_1 n w_ →
  ∃ J1 : World → Prop,
    (InI64 (at_1 + 1) ∧
    br (decide (at_1 + 1 < (s.length : Int)))
      ((0 : Int) ≤ at_1 ∧ at_1 < (s.length : Int) ∧
      br (decide (byteAt s at_1.toNat = 46))
        (J1 w_)
        (R (Ending.returned (Value.tuple #[Value.int .i64 at_1, Value.int .i64 0])) w_))
      (R (Ending.returned (Value.tuple #[Value.int .i64 at_1, Value.int .i64 0])) w_)) ∧
  ∀ w_1 : World, J1 w_1 →
  InI64 (at_1 + 1) ∧
  Calls P F_ref18_name #[Value.string (bs s), Value.int .i64 (at_1 + 1)] w_1 (fun (e_ : Ending) (w_2 : World) =>
    ∃ r : Int, e_ = Ending.returned (Value.int .i64 r) ∧ 
    br (decide (r = 0))
      (R (Ending.returned (Value.tuple #[Value.int .i64 at_1, Value.int .i64 33])) w_2)
      (InI64 (r - at_1) ∧
      InI64 ((r - at_1) - 1) ∧
      br (decide ((32 : Int) < (r - at_1) - 1))
        (R (Ending.returned (Value.tuple #[Value.int .i64 at_1, Value.int .i64 5])) w_2)
        (∃ m : Nat, m < n ∧ J r m w_2)))
theorem eq_ref18_dots (s : Bytes) (at_ : Int) (w : World) (R : Ending → World → Prop) : vc_ref18_dots s at_ w R = vc (bodyOf D_ref18_dots) (cx0 P D_ref18_dots an_ref18_dots) 0 (st0 [Value.string (bs s), Value.int .i64 at_] w) (vEnd (cx0 P D_ref18_dots an_ref18_dots) D_ref18_dots R) := by kernel_rfl
theorem ok_ref18_dots (s : Bytes) (at_ : Int) {w : World} {R : Ending → World → Prop} (h : vc_ref18_dots s at_ w R) : Calls P F_ref18_dots #[Value.string (bs s), Value.int .i64 at_] w R :=
  calls_of_vc (P := P) (f := F_ref18_dots) (fn := D_ref18_dots) (c := bodyOf D_ref18_dots) (args := [Value.string (bs s), Value.int .i64 at_]) (R := R) (w := w) an_ref18_dots Try.func52 (bodyOf_some (by kernel_rfl)) (by kernel_rfl) (by rw [← eq_ref18_dots s at_ w R]; exact h)
def an_ref01_Parse : Ann := { boxes := [], loops := [(0, [(6, Value.int .i64 0)], [2, 3, 23, 24, 25, 26, 27, 28, 29, 30, 31, 32, 33]), (2, [(7, Value.int .u64 0), (8, Value.int .i64 0)], [48, 49, 50, 51, 52, 53, 54, 55, 56, 57, 58, 59, 60, 61])], cuts := [(2, [(4, Value.bool false)], [9, 10, 11, 12, 13, 14, 15, 16]), (5, [(5, Value.string (bs ([] : Bytes)))], [18, 19, 20]), (14, [], [2, 3, 34, 35, 36, 37, 38, 39, 40, 41, 42, 43, 44])], pans := [11, 13, 14, 15, 31], draws := [] }
def vc_ref01_Parse (s : Bytes) (w : World) (R : Ending → World → Prop) : Prop :=
  ∃ J : Bool → World → Prop,
    (br (decide ((0 : Int) < (s.length : Int)))
      ((0 : Int) ≤ 0 ∧ (0 : Int) < (s.length : Int) ∧
      J (decide (byteAt s ((0 : Int).toNat) = 45)) w)
      (J false w)) ∧
  ∀ below : Bool, ∀ w_ : World, J below w_ →
  ∃ J1 : Bytes → World → Prop,
    (br below
      ((0 : Int) ≤ 1 ∧ (1 : Int) ≤ (s.length : Int) ∧
      J1 (s.drop ((1 : Int).toNat)) w_)
      (J1 s w_)) ∧
  ∀ t : Bytes, ∀ w_1 : World, J1 t w_1 →
  br (decide (t = ([] : Bytes)))
    (R (Ending.returned (Value.tuple #[Value.int .i64 0, Value.int .i64 8])) w_1)
    (∃ (J2 : Int → Nat → World → Prop) (n₀ : Nat), J2 (0 : Int) n₀ w_1 ∧
    ∀ i : Int, ∀ (n : Nat) (w_2 : World), J2 i n w_2 →
    br (decide (i < (t.length : Int)))
      ((0 : Int) ≤ i ∧ i < (t.length : Int) ∧
      Calls P F_ref01_Digit #[Value.int .u8 (byteAt t i.toNat)] w_2 (fun (e_ : Ending) (w_3 : World) =>
        ∃ r : Bool, e_ = Ending.returned (Value.bool r) ∧ 
        br (!r)
          (R (Ending.returned (Value.tuple #[Value.int .i64 0, Value.int .i64 33])) w_3)
          (InI64 (i + 1) ∧
          ∃ m : Nat, m < n ∧ J2 (i + 1) m w_3)))
      (∃ J3 : World → Prop,
        ((0 : Int) ≤ 0 ∧ (0 : Int) < (t.length : Int) ∧
        br (decide (byteAt t ((0 : Int).toNat) = 48))
          (br below
            (R (Ending.returned (Value.tuple #[Value.int .i64 0, Value.int .i64 33])) w_2)
            (br (decide ((1 : Int) < (t.length : Int)))
              (R (Ending.returned (Value.tuple #[Value.int .i64 0, Value.int .i64 33])) w_2)
              (J3 w_2)))
          (J3 w_2)) ∧
      ∀ w_4 : World, J3 w_4 →
      br (decide ((19 : Int) < (t.length : Int)))
        (R (Ending.returned (Value.tuple #[Value.int .i64 0, Value.int .i64 4])) w_4)
        (∃ (J4 : Int → Int → Nat → World → Prop) (n₀1 : Nat), J4 (0 : Int) (0 : Int) n₀1 w_4 ∧
        ∀ u : Int, ∀ i1 : Int, ∀ (n1 : Nat) (w_5 : World), J4 u i1 n1 w_5 →
        br (decide (i1 < (t.length : Int)))
          ((0 : Int) ≤ i1 ∧ i1 < (t.length : Int) ∧
          InK .u64 (IntKind.u8.wrap ((byteAt t i1.toNat) - 48)) ∧
          InI64 (i1 + 1) ∧
          ∃ m1 : Nat, m1 < n1 ∧ J4 (IntKind.u64.wrap ((IntKind.u64.wrap (u * 10)) + (IntKind.u8.wrap ((byteAt t i1.toNat) - 48)))) (i1 + 1) m1 w_5)
          (br below
            (br (decide (u ≤ 9223372036854775808))
              (R (Ending.returned (Value.tuple #[Value.int .i64 (IntKind.i64.wrap (IntKind.u64.wrap ((0 : Int) - u))), Value.int .i64 0])) w_5)
              (br below
                (R (Ending.returned (Value.tuple #[Value.int .i64 0, Value.int .i64 4])) w_5)
                (br (decide ((9223372036854775808 : Int) ≤ u))
                  (R (Ending.returned (Value.tuple #[Value.int .i64 0, Value.int .i64 4])) w_5)
                  (R (Ending.returned (Value.tuple #[Value.int .i64 (IntKind.i64.wrap u), Value.int .i64 0])) w_5))))
            (br below
              (R (Ending.returned (Value.tuple #[Value.int .i64 0, Value.int .i64 4])) w_5)
              (br (decide ((9223372036854775808 : Int) ≤ u))
                (R (Ending.returned (Value.tuple #[Value.int .i64 0, Value.int .i64 4])) w_5)
                (R (Ending.returned (Value.tuple #[Value.int .i64 (IntKind.i64.wrap u), Value.int .i64 0])) w_5)))))))
theorem eq_ref01_Parse (s : Bytes) (w : World) (R : Ending → World → Prop) : vc_ref01_Parse s w R = vc (bodyOf D_ref01_Parse) (cx0 P D_ref01_Parse an_ref01_Parse) 0 (st0 [Value.string (bs s)] w) (vEnd (cx0 P D_ref01_Parse an_ref01_Parse) D_ref01_Parse R) := by kernel_rfl
theorem ok_ref01_Parse (s : Bytes) {w : World} {R : Ending → World → Prop} (h : vc_ref01_Parse s w R) : Calls P F_ref01_Parse #[Value.string (bs s)] w R :=
  calls_of_vc (P := P) (f := F_ref01_Parse) (fn := D_ref01_Parse) (c := bodyOf D_ref01_Parse) (args := [Value.string (bs s)]) (R := R) (w := w) an_ref01_Parse Try.func53 (bodyOf_some (by kernel_rfl)) (by kernel_rfl) (by rw [← eq_ref01_Parse s w R]; exact h)
def an_ref18_str : Ann := { boxes := [(65, 100)], loops := [(0, [(8, Value.slice none 0 0), (9, Value.int .i64 0)], [4, 5, 6, 7, 10, 13, 14, 15, 16, 17, 18, 19, 20, 21, 22, 23, 24, 25, 26, 27, 28, 29, 30, 31, 32, 33, 34, 35, 36, 37, 38, 39, 40, 41, 42, 43, 44, 45, 46, 47, 48, 49, 50, 51, 52, 53, 54, 55, 56, 57, 58, 59, 60, 61, 62, 63, 64, 65, 66, 100])], cuts := [(15, [], [4, 5, 6, 7, 37, 38, 39, 40, 41, 42, 43, 44, 45, 46, 47, 48, 49, 50])], pans := [11, 13, 14, 15, 31], draws := [] }
def vc_ref18_str (s : Bytes) (at_ : Int) (w : World) (R : Ending → World → Prop) : Prop :=
  InI64 (at_ + 1) ∧
  ∃ (J : Sl → Int → Nat → World → Prop) (n₀ : Nat), J ⟨none, 0, 0⟩ (at_ + 1) n₀ w ∧
  ∀ b : Sl, ∀ i : Int, ∀ (n : Nat) (w_ : World), J b i n w_ →
  br (decide (i < (s.length : Int)))
    ((0 : Int) ≤ i ∧ i < (s.length : Int) ∧
    br (decide (byteAt s i.toNat = 34))
      (br (decide ((4096 : Int) < ((b.len : Nat) : Int)))
        (R (Ending.returned (Value.tuple #[Value.string (bs ([] : Bytes)), Value.int .i64 0, Value.int .i64 5, Value.int .i64 at_])) w_)
        (∃ l : Bytes, SlCells w_ b.a b.len (bytesV l) ∧
        InI64 (i + 1) ∧
        R (Ending.returned (Value.tuple #[Value.string (bs l), Value.int .i64 (i + 1), Value.int .i64 0, Value.int .i64 0])) w_))
      (br (decide (byteAt s i.toNat = 10))
        (R (Ending.returned (Value.tuple #[Value.string (bs ([] : Bytes)), Value.int .i64 0, Value.int .i64 33, Value.int .i64 i])) w_)
        (br (decide (byteAt s i.toNat = 92))
          (∃ J1 : World → Prop,
            (InI64 (i + 1) ∧
            br (decide ((s.length : Int) ≤ i + 1))
              (R (Ending.returned (Value.tuple #[Value.string (bs ([] : Bytes)), Value.int .i64 0, Value.int .i64 33, Value.int .i64 i])) w_)
              (InI64 (i + 1) ∧
              (0 : Int) ≤ i + 1 ∧ i + 1 < (s.length : Int) ∧
              Calls P F_ref01_Has #[Value.string (bs [110, 116, 92, 34]), Value.int .u8 (byteAt s ((i + 1).toNat))] w_ (fun (e_ : Ending) (w_1 : World) =>
                ∃ r : Bool, e_ = Ending.returned (Value.bool r) ∧ 
                br (!r)
                  (R (Ending.returned (Value.tuple #[Value.string (bs ([] : Bytes)), Value.int .i64 0, Value.int .i64 33, Value.int .i64 i])) w_1)
                  (J1 w_1)))) ∧
          ∀ w_2 : World, J1 w_2 →
          InI64 (i + 1) ∧
          (0 : Int) ≤ i + 1 ∧ i + 1 < (s.length : Int) ∧
          br (decide (byteAt s ((i + 1).toNat) = 110))
            (∀ b1 : Nat, w_2.heap.size ≤ b1 →
            ∀ w_3 : World, LocB [b1] w_2 w_3 →
            ∃ old : List Value, AppPre w_3 b 1 1 1 old ∧ (∀ ad, b.a = some ad → ad.block ≠ b1) ∧ 
            ∀ (s1 : Sl) (w_4 : World), AppRes w_3 b 1 T_uint8 [Value.int .u8 10] 1 old s1 w_4 →
            InI64 ((i + 1) + 1) ∧
            ∃ m : Nat, m < n ∧ J s1 ((i + 1) + 1) m w_4)
            (br (decide (byteAt s ((i + 1).toNat) = 116))
              (∀ b2 : Nat, w_2.heap.size ≤ b2 →
              ∀ w_5 : World, LocB [b2] w_2 w_5 →
              ∃ old1 : List Value, AppPre w_5 b 1 1 1 old1 ∧ (∀ ad, b.a = some ad → ad.block ≠ b2) ∧ 
              ∀ (s2 : Sl) (w_6 : World), AppRes w_5 b 1 T_uint8 [Value.int .u8 9] 1 old1 s2 w_6 →
              InI64 ((i + 1) + 1) ∧
              ∃ m1 : Nat, m1 < n ∧ J s2 ((i + 1) + 1) m1 w_6)
              ((0 : Int) ≤ i + 1 ∧ i + 1 < (s.length : Int) ∧
              ∀ b3 : Nat, w_2.heap.size ≤ b3 →
              ∀ w_7 : World, LocB [b3] w_2 w_7 →
              ∃ old2 : List Value, AppPre w_7 b 1 1 1 old2 ∧ (∀ ad, b.a = some ad → ad.block ≠ b3) ∧ 
              ∀ (s3 : Sl) (w_8 : World), AppRes w_7 b 1 T_uint8 [Value.int .u8 (byteAt s ((i + 1).toNat))] 1 old2 s3 w_8 →
              InI64 ((i + 1) + 1) ∧
              ∃ m2 : Nat, m2 < n ∧ J s3 ((i + 1) + 1) m2 w_8)))
          (∀ b4 : Nat, w_.heap.size ≤ b4 →
          ∀ w_9 : World, LocB [b4] w_ w_9 →
          ∃ old3 : List Value, AppPre w_9 b 1 1 1 old3 ∧ (∀ ad, b.a = some ad → ad.block ≠ b4) ∧ 
          ∀ (s4 : Sl) (w_10 : World), AppRes w_9 b 1 T_uint8 [Value.int .u8 (byteAt s i.toNat)] 1 old3 s4 w_10 →
          InI64 (i + 1) ∧
          ∃ m3 : Nat, m3 < n ∧ J s4 (i + 1) m3 w_10))))
    (R (Ending.returned (Value.tuple #[Value.string (bs ([] : Bytes)), Value.int .i64 0, Value.int .i64 33, Value.int .i64 at_])) w_)
theorem eq_ref18_str (s : Bytes) (at_ : Int) (w : World) (R : Ending → World → Prop) : vc_ref18_str s at_ w R = vc (bodyOf D_ref18_str) (cx0 P D_ref18_str an_ref18_str) 0 (st0 [Value.string (bs s), Value.int .i64 at_] w) (vEnd (cx0 P D_ref18_str an_ref18_str) D_ref18_str R) := by kernel_rfl
theorem ok_ref18_str (s : Bytes) (at_ : Int) {w : World} {R : Ending → World → Prop} (h : vc_ref18_str s at_ w R) : Calls P F_ref18_str #[Value.string (bs s), Value.int .i64 at_] w R :=
  calls_of_vc (P := P) (f := F_ref18_str) (fn := D_ref18_str) (c := bodyOf D_ref18_str) (args := [Value.string (bs s), Value.int .i64 at_]) (R := R) (w := w) an_ref18_str Try.func54 (bodyOf_some (by kernel_rfl)) (by kernel_rfl) (by rw [← eq_ref18_str s at_ w R]; exact h)
def an_ref19_call : Ann := { boxes := [(4, 200), (7, 202), (8, 205), (13, 210), (15, 212), (96, 217)], loops := [(0, [(14, Value.int .i64 0), (211, Value.slice none 0 0)], [5, 6, 15, 16, 70, 71, 72, 73, 74, 75, 76, 77, 78, 79, 80, 81, 82, 83, 84, 85, 86, 87, 88, 89, 90, 91, 92, 93, 94, 95, 96, 97, 98, 200, 201, 212, 213, 214, 215, 216, 217, 218, 219, 220, 221])], cuts := [(11, [], [5, 6, 8, 9, 21, 22, 23, 24, 25, 26, 27, 28, 29, 30, 31, 32, 33, 34, 35, 36, 37, 38, 39, 40, 41, 42, 43, 44, 45, 46, 47, 48, 49, 50, 51, 52, 53, 54, 200, 201, 205, 206, 207, 208, 209]), (25, [(17, Value.int .i64 0)], [102, 103, 104])], pans := [11, 13, 14, 15, 31], draws := [(4, [0, 1, 2, 3, 4, 5], [.t, .t, .bl 202, .bst 200, .t, .t]), (7, [0, 1, 2, 3, 4, 5, 6], [.t, .t, .bl 202, .t, .bst 200, .t, .t]), (9, [0, 1, 2, 3, 4, 5, 6, 7], [.t, .t, .t, .t, .h, .bst 200, .t, .t]), (13, [0, 1, 2, 3, 4, 5], [.t, .t, .bl 202, .bst 200, .t, .t]), (20, [0, 1, 2, 3, 4, 5, 6, 7, 8, 9], [.t, .t, .t, .t, .t, .h, .t, .bst 200, .t, .t]), (26, [0, 1, 2, 3, 4, 5], [.t, .t, .bl 202, .bst 200, .t, .t])] }
def vc_ref19_call (l : Sl) (ahead : Bool) (w : World) (R : Ending → World → Prop) : Prop :=
  ∀ b : Nat, w.heap.size ≤ b →
  (0 : Int) ≤ 0 ∧ (0 : Int) < ((l.len : Nat) : Int) ∧ ∃ a : Addr, l.a = some a ∧
  ∀ w_ : World, LocB [b] w w_ →
  ∃ Kind : Int, ∃ Text : Bytes, ∃ At : Int, CellsAt w_ (a.add ((0 : Int).toNat * 3)) [Value.int .i64 Kind, Value.string (bs Text), Value.int .i64 At] ∧
  ∀ b1 : Nat, w_.heap.size ≤ b1 →
  ∃ J : World → Prop,
    (br (!decide (Kind = 1))
      (br ahead
        (∀ w_1 : World, LocB [b1, b] w_ w_1 →
        ∀ w_2 : World, LocB [b1, b] w_1 w_2 →
        R (Ending.returned (Value.tuple #[Value.agg #[Value.string (bs ([] : Bytes)), Value.slice none 0 0], Value.int .i64 At, Value.int .i64 33])) w_2)
        (∀ w_3 : World, LocB [b1, b] w_ w_3 →
        Calls P F_ref19_arg #[Value.agg #[Value.int .i64 Kind, Value.string (bs Text), Value.int .i64 At]] w_3 (fun (e_ : Ending) (w_4 : World) =>
          ∃ r : Int, ∃ r1 : Bytes, ∃ r2 : Sl, ∃ r3 : Int, ∃ r4 : Bytes, ∃ r5 : Int, e_ = Ending.returned (Value.tuple #[Value.agg #[Value.int .i64 r, Value.string (bs r1), Value.slice r2.a r2.len r2.cap, Value.int .i64 r3, Value.string (bs r4)], Value.int .i64 r5]) ∧ w_4.heap[b1]? = w_3.heap[b1]? ∧ w_4.heap[b]? = w_3.heap[b]? ∧ 
          ∀ b2 : Nat, w_4.heap.size ≤ b2 →
          br (!decide (r5 = 0))
            (∀ w_5 : World, LocB [b2, b1, b] w_4 w_5 →
            ∀ w_6 : World, LocB [b2, b1, b] w_5 w_6 →
            R (Ending.returned (Value.tuple #[Value.agg #[Value.string (bs ([] : Bytes)), Value.slice none 0 0], Value.int .i64 At, Value.int .i64 r5])) w_6)
            (br (decide ((1 : Int) < ((l.len : Nat) : Int)))
              (∀ w_7 : World, LocB [b2, b1, b] w_4 w_7 →
              (0 : Int) ≤ 1 ∧ (1 : Int) < ((l.len : Nat) : Int) ∧ ∃ a1 : Addr, l.a = some a1 ∧
              ((a1.add ((1 : Int).toNat * 3)).add 2).block ≠ b ∧ ∃ x : Int, CellsAt w_7 ((a1.add ((1 : Int).toNat * 3)).add 2) [Value.int .i64 x] ∧
              ∀ w_8 : World, LocB [b2, b1, b] w_7 w_8 →
              R (Ending.returned (Value.tuple #[Value.agg #[Value.string (bs ([] : Bytes)), Value.slice none 0 0], Value.int .i64 x, Value.int .i64 33])) w_8)
              (∀ w_9 : World, LocB [b2, b1, b] w_4 w_9 →
              ∀ w_10 : World, LocB [b2, b1, b] (w_9.alloc (.cells #[Value.int .i64 r, Value.string (bs r1), Value.slice r2.a r2.len r2.cap, Value.int .i64 r3, Value.string (bs r4)] T_api_Arg)) w_10 →
              R (Ending.returned (Value.tuple #[Value.agg #[Value.string (bs ([] : Bytes)), Value.slice (some (Addr.mk w_9.heap.size 0 none)) 1 1], Value.int .i64 0, Value.int .i64 0])) w_10)))))
      (∀ w_11 : World, LocB [b1, b] w_ w_11 →
      Calls P F_ref19_constant #[Value.string (bs Text)] w_11 (fun (e_1 : Ending) (w_12 : World) =>
        ∃ r6 : Bool, e_1 = Ending.returned (Value.bool r6) ∧ w_12.heap[b1]? = w_11.heap[b1]? ∧ w_12.heap[b]? = w_11.heap[b]? ∧ 
        br r6
          (br ahead
            (∀ w_13 : World, LocB [b1, b] w_12 w_13 →
            ∀ w_14 : World, LocB [b1, b] w_13 w_14 →
            R (Ending.returned (Value.tuple #[Value.agg #[Value.string (bs ([] : Bytes)), Value.slice none 0 0], Value.int .i64 At, Value.int .i64 33])) w_14)
            (Calls P F_ref19_arg #[Value.agg #[Value.int .i64 Kind, Value.string (bs Text), Value.int .i64 At]] w_12 (fun (e_2 : Ending) (w_15 : World) =>
              ∃ r7 : Int, ∃ r8 : Bytes, ∃ r9 : Sl, ∃ r10 : Int, ∃ r11 : Bytes, ∃ r12 : Int, e_2 = Ending.returned (Value.tuple #[Value.agg #[Value.int .i64 r7, Value.string (bs r8), Value.slice r9.a r9.len r9.cap, Value.int .i64 r10, Value.string (bs r11)], Value.int .i64 r12]) ∧ w_15.heap[b1]? = w_12.heap[b1]? ∧ w_15.heap[b]? = w_12.heap[b]? ∧ 
              ∀ b3 : Nat, w_15.heap.size ≤ b3 →
              br (!decide (r12 = 0))
                (∀ w_16 : World, LocB [b3, b1, b] w_15 w_16 →
                ∀ w_17 : World, LocB [b3, b1, b] w_16 w_17 →
                R (Ending.returned (Value.tuple #[Value.agg #[Value.string (bs ([] : Bytes)), Value.slice none 0 0], Value.int .i64 At, Value.int .i64 r12])) w_17)
                (br (decide ((1 : Int) < ((l.len : Nat) : Int)))
                  (∀ w_18 : World, LocB [b3, b1, b] w_15 w_18 →
                  (0 : Int) ≤ 1 ∧ (1 : Int) < ((l.len : Nat) : Int) ∧ ∃ a2 : Addr, l.a = some a2 ∧
                  ((a2.add ((1 : Int).toNat * 3)).add 2).block ≠ b ∧ ∃ x1 : Int, CellsAt w_18 ((a2.add ((1 : Int).toNat * 3)).add 2) [Value.int .i64 x1] ∧
                  ∀ w_19 : World, LocB [b3, b1, b] w_18 w_19 →
                  R (Ending.returned (Value.tuple #[Value.agg #[Value.string (bs ([] : Bytes)), Value.slice none 0 0], Value.int .i64 x1, Value.int .i64 33])) w_19)
                  (∀ w_20 : World, LocB [b3, b1, b] w_15 w_20 →
                  ∀ w_21 : World, LocB [b3, b1, b] (w_20.alloc (.cells #[Value.int .i64 r7, Value.string (bs r8), Value.slice r9.a r9.len r9.cap, Value.int .i64 r10, Value.string (bs r11)] T_api_Arg)) w_21 →
                  R (Ending.returned (Value.tuple #[Value.agg #[Value.string (bs ([] : Bytes)), Value.slice (some (Addr.mk w_20.heap.size 0 none)) 1 1], Value.int .i64 0, Value.int .i64 0])) w_21)))))
          (J w_12)))) ∧
  ∀ w_22 : World, J w_22 →
  Calls P F_ref19_Arity #[Value.string (bs Text)] w_22 (fun (e_3 : Ending) (w_23 : World) =>
    ∃ r13 : Int, ∃ r14 : Int, ∃ r15 : Bool, e_3 = Ending.returned (Value.tuple #[Value.int .i64 r13, Value.int .i64 r14, Value.bool r15]) ∧ w_23.heap[b1]? = w_22.heap[b1]? ∧ w_23.heap[b]? = w_22.heap[b]? ∧ 
    br (!r15)
      (∀ w_24 : World, LocB [b1, b] w_23 w_24 →
      ∀ w_25 : World, LocB [b1, b] w_24 w_25 →
      R (Ending.returned (Value.tuple #[Value.agg #[Value.string (bs ([] : Bytes)), Value.slice none 0 0], Value.int .i64 At, Value.int .i64 31])) w_25)
      (∀ b4 : Nat, w_23.heap.size ≤ b4 →
      ∀ w_26 : World, LocB [b4, b1, b] w_23 w_26 →
      ∃ (J1 : Int → Sl → Nat → World → Prop) (n₀ : Nat), J1 (1 : Int) ⟨none, 0, 0⟩ n₀ w_26 ∧
      ∀ i : Int, ∀ cArgs : Sl, ∀ (n : Nat) (w_27 : World), J1 i cArgs n w_27 →
      br (decide (i < ((l.len : Nat) : Int)))
        ((0 : Int) ≤ i ∧ i < ((l.len : Nat) : Int) ∧ ∃ a3 : Addr, l.a = some a3 ∧
        ∃ Kind1 : Int, ∃ Text1 : Bytes, ∃ At1 : Int, CellsAt w_27 (a3.add (i.toNat * 3)) [Value.int .i64 Kind1, Value.string (bs Text1), Value.int .i64 At1] ∧
        Calls P F_ref19_arg #[Value.agg #[Value.int .i64 Kind1, Value.string (bs Text1), Value.int .i64 At1]] w_27 (fun (e_4 : Ending) (w_28 : World) =>
          ∃ r16 : Int, ∃ r17 : Bytes, ∃ r18 : Sl, ∃ r19 : Int, ∃ r20 : Bytes, ∃ r21 : Int, e_4 = Ending.returned (Value.tuple #[Value.agg #[Value.int .i64 r16, Value.string (bs r17), Value.slice r18.a r18.len r18.cap, Value.int .i64 r19, Value.string (bs r20)], Value.int .i64 r21]) ∧ w_28.heap[b4]? = w_27.heap[b4]? ∧ w_28.heap[b1]? = w_27.heap[b1]? ∧ w_28.heap[b]? = w_27.heap[b]? ∧ 
          ∀ b5 : Nat, w_28.heap.size ≤ b5 →
          br (!decide (r21 = 0))
            (∀ w_29 : World, LocB [b5, b4, b1, b] w_28 w_29 →
            (0 : Int) ≤ i ∧ i < ((l.len : Nat) : Int) ∧ ∃ a4 : Addr, l.a = some a4 ∧
            ((a4.add (i.toNat * 3)).add 2).block ≠ b ∧ ∃ x2 : Int, CellsAt w_29 ((a4.add (i.toNat * 3)).add 2) [Value.int .i64 x2] ∧
            ∀ w_30 : World, LocB [b5, b4, b1, b] w_29 w_30 →
            R (Ending.returned (Value.tuple #[Value.agg #[Value.string (bs ([] : Bytes)), Value.slice none 0 0], Value.int .i64 x2, Value.int .i64 r21])) w_30)
            (∀ b6 : Nat, w_28.heap.size ≤ b6 →
            ∀ w_31 : World, LocB [b6, b5, b4, b1, b] w_28 w_31 →
            ∃ old : List Value, AppPre w_31 cArgs 5 72 1 old ∧ (∀ ad, cArgs.a = some ad → ad.block ≠ b6) ∧ (∀ ad, cArgs.a = some ad → ad.block ≠ b5) ∧ (∀ ad, cArgs.a = some ad → ad.block ≠ b4) ∧ (∀ ad, cArgs.a = some ad → ad.block ≠ b1) ∧ (∀ ad, cArgs.a = some ad → ad.block ≠ b) ∧ 
            ∀ (s : Sl) (w_32 : World), AppRes w_31 cArgs 5 T_api_Arg [Value.int .i64 r16, Value.string (bs r17), Value.slice r18.a r18.len r18.cap, Value.int .i64 r19, Value.string (bs r20)] 1 old s w_32 →
            InI64 (i + 1) ∧
            ∀ w_33 : World, LocB [b6, b5, b4, b1, b] w_32 w_33 →
            ∃ m : Nat, m < n ∧ J1 (i + 1) s m w_33)))
        (∃ J2 : Int → World → Prop,
          (br ahead
            (InI64 (((cArgs.len : Nat) : Int) + 1) ∧
            J2 (((cArgs.len : Nat) : Int) + 1) w_27)
            (J2 ((cArgs.len : Nat) : Int) w_27)) ∧
        ∀ n1 : Int, ∀ w_34 : World, J2 n1 w_34 →
        br (decide (n1 < r13))
          (∀ w_35 : World, LocB [b4, b1, b] w_34 w_35 →
          ∀ w_36 : World, LocB [b4, b1, b] w_35 w_36 →
          R (Ending.returned (Value.tuple #[Value.agg #[Value.string (bs ([] : Bytes)), Value.slice none 0 0], Value.int .i64 At, Value.int .i64 3])) w_36)
          (br (decide (r14 < n1))
            (∀ w_37 : World, LocB [b4, b1, b] w_34 w_37 →
            ∀ w_38 : World, LocB [b4, b1, b] w_37 w_38 →
            R (Ending.returned (Value.tuple #[Value.agg #[Value.string (bs ([] : Bytes)), Value.slice none 0 0], Value.int .i64 At, Value.int .i64 3])) w_38)
            (∀ w_39 : World, LocB [b4, b1, b] w_34 w_39 →
            R (Ending.returned (Value.tuple #[Value.agg #[Value.string (bs Text), Value.slice cArgs.a cArgs.len cArgs.cap], Value.int .i64 0, Value.int .i64 0])) w_39)))))
theorem eq_ref19_call (l : Sl) (ahead : Bool) (w : World) (R : Ending → World → Prop) : vc_ref19_call l ahead w R = vc (bodyOf D_ref19_call) (cx0 P D_ref19_call an_ref19_call) 0 (st0 [Value.slice l.a l.len l.cap, Value.bool ahead] w) (vEnd (cx0 P D_ref19_call an_ref19_call) D_ref19_call R) := by kernel_rfl
theorem ok_ref19_call (l : Sl) (ahead : Bool) {w : World} {R : Ending → World → Prop} (h : vc_ref19_call l ahead w R) : Calls P F_ref19_call #[Value.slice l.a l.len l.cap, Value.bool ahead] w R :=
  calls_of_vc (P := P) (f := F_ref19_call) (fn := D_ref19_call) (c := bodyOf D_ref19_call) (args := [Value.slice l.a l.len l.cap, Value.bool ahead]) (R := R) (w := w) an_ref19_call Try.func55 (bodyOf_some (by kernel_rfl)) (by kernel_rfl) (by rw [← eq_ref19_call l ahead w R]; exact h)
def an_slices_IndexFunc_api_Arg : Ann := { boxes := [], loops := [(0, [(8, Value.int .i64 0)], [4, 5, 9, 10, 11, 12, 13, 14, 15, 16, 17, 18])], cuts := [], pans := [11, 13, 14, 15, 31], draws := [] }
def vc_slices_IndexFunc_api_Arg (s : Sl) (g : FuncId) (fi ca : Array Value) (w : World) (R : Ending → World → Prop) : Prop :=
  ∃ (J : Int → Nat → World → Prop) (n₀ : Nat), J (0 : Int) n₀ w ∧
  ∀ t8 : Int, ∀ (n : Nat) (w_ : World), J t8 n w_ →
  br (decide (t8 < ((s.len : Nat) : Int)))
    ((0 : Int) ≤ t8 ∧ t8 < ((s.len : Nat) : Int) ∧ ∃ a : Addr, s.a = some a ∧
    ∃ Kind : Int, ∃ Name : Bytes, ∃ Path : Sl, ∃ Int : Int, ∃ Text : Bytes, CellsAt w_ (a.add (t8.toNat * 5)) [Value.int .i64 Kind, Value.string (bs Name), Value.slice Path.a Path.len Path.cap, Value.int .i64 Int, Value.string (bs Text)] ∧
    enterable P g = true ∧
    Calls P g (fi.toList ++ [Value.agg #[Value.int .i64 Kind, Value.string (bs Name), Value.slice Path.a Path.len Path.cap, Value.int .i64 Int, Value.string (bs Text)]] ++ ca.toList).toArray w_ (fun (e_ : Ending) (w_1 : World) =>
      ∃ r : Bool, e_ = Ending.returned (Value.bool r) ∧ 
      br r
        (R (Ending.returned (Value.int .i64 t8)) w_1)
        (InI64 (t8 + 1) ∧
        ∃ m : Nat, m < n ∧ J (t8 + 1) m w_1)))
    (R (Ending.returned (Value.int .i64 (-1))) w_)
theorem eq_slices_IndexFunc_api_Arg (s : Sl) (g : FuncId) (fi ca : Array Value) (w : World) (R : Ending → World → Prop) : vc_slices_IndexFunc_api_Arg s  g   fi ca  w R = vc (bodyOf D_slices_IndexFunc_api_Arg) (cx0 P D_slices_IndexFunc_api_Arg an_slices_IndexFunc_api_Arg) 0 (st0 [Value.slice s.a s.len s.cap, Value.func (.func g) fi ca] w) (vEnd (cx0 P D_slices_IndexFunc_api_Arg an_slices_IndexFunc_api_Arg) D_slices_IndexFunc_api_Arg R) := by kernel_rfl
theorem ok_slices_IndexFunc_api_Arg (s : Sl) (g : FuncId) (fi ca : Array Value) {w : World} {R : Ending → World → Prop} (h : vc_slices_IndexFunc_api_Arg s  g   fi ca  w R) : Calls P F_slices_IndexFunc_api_Arg #[Value.slice s.a s.len s.cap, Value.func (.func g) fi ca] w R :=
  calls_of_vc (P := P) (f := F_slices_IndexFunc_api_Arg) (fn := D_slices_IndexFunc_api_Arg) (c := bodyOf D_slices_IndexFunc_api_Arg) (args := [Value.slice s.a s.len s.cap, Value.func (.func g) fi ca]) (R := R) (w := w) an_slices_IndexFunc_api_Arg Try.func56 (bodyOf_some (by kernel_rfl)) (by kernel_rfl) (by rw [← eq_slices_IndexFunc_api_Arg s  g   fi ca  w R]; exact h)
def an_slices_ContainsFunc_string : Ann := { boxes := [], loops := [], cuts := [], pans := [11, 13, 14, 15, 31], draws := [] }
def vc_slices_ContainsFunc_string (s : Sl) (g : FuncId) (fi ca : Array Value) (w : World) (R : Ending → World → Prop) : Prop :=
  Calls P F_slices_IndexFunc_string #[Value.slice s.a s.len s.cap, Value.func (.func g) fi ca] w (fun (e_ : Ending) (w_ : World) =>
    ∃ r : Int, e_ = Ending.returned (Value.int .i64 r) ∧ 
    R (Ending.returned (Value.bool (decide ((0 : Int) ≤ r)))) w_)
theorem eq_slices_ContainsFunc_string (s : Sl) (g : FuncId) (fi ca : Array Value) (w : World) (R : Ending → World → Prop) : vc_slices_ContainsFunc_string s  g   fi ca  w R = vc (bodyOf D_slices_ContainsFunc_string) (cx0 P D_slices_ContainsFunc_string an_slices_ContainsFunc_string) 0 (st0 [Value.slice s.a s.len s.cap, Value.func (.func g) fi ca] w) (vEnd (cx0 P D_slices_ContainsFunc_string an_slices_ContainsFunc_string) D_slices_ContainsFunc_string R) := by kernel_rfl
theorem ok_slices_ContainsFunc_string (s : Sl) (g : FuncId) (fi ca : Array Value) {w : World} {R : Ending → World → Prop} (h : vc_slices_ContainsFunc_string s  g   fi ca  w R) : Calls P F_slices_ContainsFunc_string #[Value.slice s.a s.len s.cap, Value.func (.func g) fi ca] w R :=
  calls_of_vc (P := P) (f := F_slices_ContainsFunc_string) (fn := D_slices_ContainsFunc_string) (c := bodyOf D_slices_ContainsFunc_string) (args := [Value.slice s.a s.len s.cap, Value.func (.func g) fi ca]) (R := R) (w := w) an_slices_ContainsFunc_string Try.func57 (bodyOf_some (by kernel_rfl)) (by kernel_rfl) (by rw [← eq_slices_ContainsFunc_string s  g   fi ca  w R]; exact h)
def an_pipes_argMay_1 : Ann := { boxes := [], loops := [], cuts := [], pans := [11, 13, 14, 15, 31], draws := [] }
def vc_pipes_argMay_1 (s : Bytes) (w : World) (R : Ending → World → Prop) : Prop :=
  Calls P F_octets_Name #[Value.string (bs s)] w (fun (e_ : Ending) (w_ : World) =>
    ∃ r : Bool, e_ = Ending.returned (Value.bool r) ∧ 
    R (Ending.returned (Value.bool (!r))) w_)
theorem eq_pipes_argMay_1 (s : Bytes) (w : World) (R : Ending → World → Prop) : vc_pipes_argMay_1 s w R = vc (bodyOf D_pipes_argMay_1) (cx0 P D_pipes_argMay_1 an_pipes_argMay_1) 0 (st0 [Value.string (bs s)] w) (vEnd (cx0 P D_pipes_argMay_1 an_pipes_argMay_1) D_pipes_argMay_1 R) := by kernel_rfl
theorem ok_pipes_argMay_1 (s : Bytes) {w : World} {R : Ending → World → Prop} (h : vc_pipes_argMay_1 s w R) : Calls P F_pipes_argMay_1 #[Value.string (bs s)] w R :=
  calls_of_vc (P := P) (f := F_pipes_argMay_1) (fn := D_pipes_argMay_1) (c := bodyOf D_pipes_argMay_1) (args := [Value.string (bs s)]) (R := R) (w := w) an_pipes_argMay_1 Try.func58 (bodyOf_some (by kernel_rfl)) (by kernel_rfl) (by rw [← eq_pipes_argMay_1 s w R]; exact h)
def an_octets_Name : Ann := { boxes := [], loops := [], cuts := [], pans := [11, 13, 14, 15, 31], draws := [] }
def vc_octets_Name (s : Bytes) (w : World) (R : Ending → World → Prop) : Prop :=
  br (decide (s = ([] : Bytes)))
    (R (Ending.returned (Value.bool false)) w)
    (br (decide ((32 : Int) < (s.length : Int)))
      (R (Ending.returned (Value.bool false)) w)
      ((0 : Int) ≤ 0 ∧ (0 : Int) < (s.length : Int) ∧
      br (decide ((48 : Int) ≤ byteAt s ((0 : Int).toNat)))
        ((0 : Int) ≤ 0 ∧ (0 : Int) < (s.length : Int) ∧
        br (decide (byteAt s ((0 : Int).toNat) ≤ 57))
          (R (Ending.returned (Value.bool false)) w)
          (∀ (s1 : Sl) (w_ : World), ToBytes w s T_uint8 s1 w_ →
          Calls P F_slices_ContainsFunc_byte #[Value.slice s1.a s1.len s1.cap, Value.func (.func F_octets_Name_1) #[] #[]] w_ (fun (e_ : Ending) (w_1 : World) =>
            ∃ r : Bool, e_ = Ending.returned (Value.bool r) ∧ 
            R (Ending.returned (Value.bool (!r))) w_1)))
        (∀ (s2 : Sl) (w_2 : World), ToBytes w s T_uint8 s2 w_2 →
        Calls P F_slices_ContainsFunc_byte #[Value.slice s2.a s2.len s2.cap, Value.func (.func F_octets_Name_1) #[] #[]] w_2 (fun (e_1 : Ending) (w_3 : World) =>
          ∃ r1 : Bool, e_1 = Ending.returned (Value.bool r1) ∧ 
          R (Ending.returned (Value.bool (!r1))) w_3))))
theorem eq_octets_Name (s : Bytes) (w : World) (R : Ending → World → Prop) : vc_octets_Name s w R = vc (bodyOf D_octets_Name) (cx0 P D_octets_Name an_octets_Name) 0 (st0 [Value.string (bs s)] w) (vEnd (cx0 P D_octets_Name an_octets_Name) D_octets_Name R) := by kernel_rfl
theorem ok_octets_Name (s : Bytes) {w : World} {R : Ending → World → Prop} (h : vc_octets_Name s w R) : Calls P F_octets_Name #[Value.string (bs s)] w R :=
  calls_of_vc (P := P) (f := F_octets_Name) (fn := D_octets_Name) (c := bodyOf D_octets_Name) (args := [Value.string (bs s)]) (R := R) (w := w) an_octets_Name Try.func59 (bodyOf_some (by kernel_rfl)) (by kernel_rfl) (by rw [← eq_octets_Name s w R]; exact h)
def an_ref01_Has : Ann := { boxes := [], loops := [(0, [(5, Value.int .i64 0)], [4, 6, 7, 8, 9, 10, 11, 12, 13, 14, 15, 16])], cuts := [], pans := [11, 13, 14, 15, 31], draws := [] }
def vc_ref01_Has (s : Bytes) (c : Int) (w : World) (R : Ending → World → Prop) : Prop :=
  ∃ (J : Int → Nat → World → Prop) (n₀ : Nat), J (0 : Int) n₀ w ∧
  ∀ i : Int, ∀ (n : Nat) (w_ : World), J i n w_ →
  br (decide (i < (s.length : Int)))
    ((0 : Int) ≤ i ∧ i < (s.length : Int) ∧
    br (decide (byteAt s i.toNat = c))
      (R (Ending.returned (Value.bool true)) w_)
      (InI64 (i + 1) ∧
      ∃ m : Nat, m < n ∧ J (i + 1) m w_))
    (R (Ending.returned (Value.bool false)) w_)
theorem eq_ref01_Has (s : Bytes) (c : Int) (w : World) (R : Ending → World → Prop) : vc_ref01_Has s c w R = vc (bodyOf D_ref01_Has) (cx0 P D_ref01_Has an_ref01_Has) 0 (st0 [Value.string (bs s), Value.int .u8 c] w) (vEnd (cx0 P D_ref01_Has an_ref01_Has) D_ref01_Has R) := by kernel_rfl
theorem ok_ref01_Has (s : Bytes) (c : Int) {w : World} {R : Ending → World → Prop} (h : vc_ref01_Has s c w R) : Calls P F_ref01_Has #[Value.string (bs s), Value.int .u8 c] w R :=
  calls_of_vc (P := P) (f := F_ref01_Has) (fn := D_ref01_Has) (c := bodyOf D_ref01_Has) (args := [Value.string (bs s), Value.int .u8 c]) (R := R) (w := w) an_ref01_Has Try.func60 (bodyOf_some (by kernel_rfl)) (by kernel_rfl) (by rw [← eq_ref01_Has s c w R]; exact h)
def an_ref19_constant : Ann := { boxes := [], loops := [], cuts := [], pans := [11, 13, 14, 15, 31], draws := [] }
def vc_ref19_constant (s : Bytes) (w : World) (R : Ending → World → Prop) : Prop :=
  br (decide (s = [116, 114, 117, 101]))
    (R (Ending.returned (Value.bool true)) w)
    (br (decide (s = [102, 97, 108, 115, 101]))
      (R (Ending.returned (Value.bool true)) w)
      (R (Ending.returned (Value.bool (decide (s = [110, 105, 108])))) w))
theorem eq_ref19_constant (s : Bytes) (w : World) (R : Ending → World → Prop) : vc_ref19_constant s w R = vc (bodyOf D_ref19_constant) (cx0 P D_ref19_constant an_ref19_constant) 0 (st0 [Value.string (bs s)] w) (vEnd (cx0 P D_ref19_constant an_ref19_constant) D_ref19_constant R) := by kernel_rfl
theorem ok_ref19_constant (s : Bytes) {w : World} {R : Ending → World → Prop} (h : vc_ref19_constant s w R) : Calls P F_ref19_constant #[Value.string (bs s)] w R :=
  calls_of_vc (P := P) (f := F_ref19_constant) (fn := D_ref19_constant) (c := bodyOf D_ref19_constant) (args := [Value.string (bs s)]) (R := R) (w := w) an_ref19_constant Try.func61 (bodyOf_some (by kernel_rfl)) (by kernel_rfl) (by rw [← eq_ref19_constant s w R]; exact h)
def an_ref19_arg : Ann := { boxes := [(1, 100), (2, 103)], loops := [(2, [(6, Value.int .i64 0)], [39, 40, 41, 42, 43, 44, 45, 46, 47, 48, 49, 50, 51, 52])], cuts := [(17, [(6, Value.int .i64 0)], [39, 40, 41, 42, 43, 44, 45, 46, 47, 48, 49, 50, 51, 52])], pans := [11, 13, 14, 15, 31], draws := [] }
def vc_ref19_arg (wKind : Int) (wText : Bytes) (wAt : Int) (w : World) (R : Ending → World → Prop) : Prop :=
  ∀ b : Nat, w.heap.size ≤ b →
  ∀ b1 : Nat, w.heap.size ≤ b1 →
  br (decide (wKind = 1))
    (br (decide (wText = [116, 114, 117, 101]))
      (∀ w_ : World, LocB [b1, b] w w_ →
      R (Ending.returned (Value.tuple #[Value.agg #[Value.int .i64 5, Value.string (bs ([] : Bytes)), Value.slice none 0 0, Value.int .i64 0, Value.string (bs ([] : Bytes))], Value.int .i64 0])) w_)
      (br (decide (wText = [102, 97, 108, 115, 101]))
        (∀ w_1 : World, LocB [b1, b] w w_1 →
        R (Ending.returned (Value.tuple #[Value.agg #[Value.int .i64 6, Value.string (bs ([] : Bytes)), Value.slice none 0 0, Value.int .i64 0, Value.string (bs ([] : Bytes))], Value.int .i64 0])) w_1)
        (br (decide (wText = [110, 105, 108]))
          (∀ w_2 : World, LocB [b1, b] w w_2 →
          R (Ending.returned (Value.tuple #[Value.agg #[Value.int .i64 7, Value.string (bs ([] : Bytes)), Value.slice none 0 0, Value.int .i64 0, Value.string (bs ([] : Bytes))], Value.int .i64 0])) w_2)
          (∀ w_3 : World, LocB [b1, b] w w_3 →
          R (Ending.returned (Value.tuple #[Value.agg #[Value.int .i64 0, Value.string (bs ([] : Bytes)), Value.slice none 0 0, Value.int .i64 0, Value.string (bs ([] : Bytes))], Value.int .i64 33])) w_3))))
    (br (decide (wKind = 2))
      (∀ w_4 : World, LocB [b1, b] w w_4 →
      Calls P F_ref19_path #[Value.string (bs wText)] w_4 (fun (e_ : Ending) (w_5 : World) =>
        ∃ r : Sl, ∃ r1 : Int, e_ = Ending.returned (Value.tuple #[Value.slice r.a r.len r.cap, Value.int .i64 r1]) ∧ w_5.heap[b1]? = w_4.heap[b1]? ∧ w_5.heap[b]? = w_4.heap[b]? ∧ 
        ∀ w_6 : World, LocB [b1, b] w_5 w_6 →
        R (Ending.returned (Value.tuple #[Value.agg #[Value.int .i64 1, Value.string (bs ([] : Bytes)), Value.slice r.a r.len r.cap, Value.int .i64 0, Value.string (bs ([] : Bytes))], Value.int .i64 r1])) w_6))
      (br (decide (wKind = 3))
        (∃ J : Int → World → Prop,
          (∀ w_7 : World, LocB [b1, b] w w_7 →
          ∃ (J1 : Int → Nat → World → Prop) (n₀ : Nat), J1 (1 : Int) n₀ w_7 ∧
          ∀ n1 : Int, ∀ (n : Nat) (w_8 : World), J1 n1 n w_8 →
          br (decide (n1 < (wText.length : Int)))
            ((0 : Int) ≤ n1 ∧ n1 < (wText.length : Int) ∧
            br (!decide (byteAt wText n1.toNat = 46))
              (InI64 (n1 + 1) ∧
              ∃ m : Nat, m < n ∧ J1 (n1 + 1) m w_8)
              (J n1 w_8))
            (J n1 w_8)) ∧
        ∀ n2 : Int, ∀ w_9 : World, J n2 w_9 →
        (0 : Int) ≤ n2 ∧ n2 ≤ (wText.length : Int) ∧
        Calls P F_ref19_path #[Value.string (bs (wText.drop n2.toNat))] w_9 (fun (e_1 : Ending) (w_10 : World) =>
          ∃ r2 : Sl, ∃ r3 : Int, e_1 = Ending.returned (Value.tuple #[Value.slice r2.a r2.len r2.cap, Value.int .i64 r3]) ∧ w_10.heap[b1]? = w_9.heap[b1]? ∧ w_10.heap[b]? = w_9.heap[b]? ∧ 
          (0 : Int) ≤ 1 ∧ (1 : Int) ≤ n2 ∧ n2 ≤ (wText.length : Int) ∧
          ∀ w_11 : World, LocB [b1, b] w_10 w_11 →
          R (Ending.returned (Value.tuple #[Value.agg #[Value.int .i64 2, Value.string (bs ((wText.take n2.toNat).drop ((1 : Int).toNat))), Value.slice r2.a r2.len r2.cap, Value.int .i64 0, Value.string (bs ([] : Bytes))], Value.int .i64 r3])) w_11))
        (br (decide (wKind = 4))
          (∀ w_12 : World, LocB [b1, b] w w_12 →
          Calls P F_ref01_Parse #[Value.string (bs wText)] w_12 (fun (e_2 : Ending) (w_13 : World) =>
            ∃ r4 : Int, ∃ r5 : Int, e_2 = Ending.returned (Value.tuple #[Value.int .i64 r4, Value.int .i64 r5]) ∧ w_13.heap[b1]? = w_12.heap[b1]? ∧ w_13.heap[b]? = w_12.heap[b]? ∧ 
            ∀ w_14 : World, LocB [b1, b] w_13 w_14 →
            R (Ending.returned (Value.tuple #[Value.agg #[Value.int .i64 3, Value.string (bs ([] : Bytes)), Value.slice none 0 0, Value.int .i64 r4, Value.string (bs ([] : Bytes))], Value.int .i64 0])) w_14))
          (br (decide (wKind = 5))
            (∀ w_15 : World, LocB [b1, b] w w_15 →
            R (Ending.returned (Value.tuple #[Value.agg #[Value.int .i64 4, Value.string (bs ([] : Bytes)), Value.slice none 0 0, Value.int .i64 0, Value.string (bs wText)], Value.int .i64 0])) w_15)
            (∀ w_16 : World, LocB [b1, b] w w_16 →
            R (Ending.returned (Value.tuple #[Value.agg #[Value.int .i64 0, Value.string (bs ([] : Bytes)), Value.slice none 0 0, Value.int .i64 0, Value.string (bs ([] : Bytes))], Value.int .i64 33])) w_16)))))
theorem eq_ref19_arg (wKind : Int) (wText : Bytes) (wAt : Int) (w : World) (R : Ending → World → Prop) : vc_ref19_arg wKind wText wAt w R = vc (bodyOf D_ref19_arg) (cx0 P D_ref19_arg an_ref19_arg) 0 (st0 [Value.agg #[Value.int .i64 wKind, Value.string (bs wText), Value.int .i64 wAt]] w) (vEnd (cx0 P D_ref19_arg an_ref19_arg) D_ref19_arg R) := by kernel_rfl
theorem ok_ref19_arg (wKind : Int) (wText : Bytes) (wAt : Int) {w : World} {R : Ending → World → Prop} (h : vc_ref19_arg wKind wText wAt w R) : Calls P F_ref19_arg #[Value.agg #[Value.int .i64 wKind, Value.string (bs wText), Value.int .i64 wAt]] w R :=
  calls_of_vc (P := P) (f := F_ref19_arg) (fn := D_ref19_arg) (c := bodyOf D_ref19_arg) (args := [Value.agg #[Value.int .i64 wKind, Value.string (bs wText), Value.int .i64 wAt]]) (R := R) (w := w) an_ref19_arg Try.func62 (bodyOf_some (by kernel_rfl)) (by kernel_rfl) (by rw [← eq_ref19_arg wKind wText wAt w R]; exact h)
def an_ref19_Arity : Ann := { boxes := [], loops := [], cuts := [], pans := [11, 13, 14, 15, 31], draws := [] }
def vc_ref19_Arity (s : Bytes) (w : World) (R : Ending → World → Prop) : Prop :=
  br (decide (s = [108, 101, 110]))
    (br (decide (s = [108, 101, 110]))
      (R (Ending.returned (Value.tuple #[Value.int .i64 1, Value.int .i64 1, Value.bool true])) w)
      (br (decide (s = [101, 113]))
        (br (decide (s = [101, 113]))
          (R (Ending.returned (Value.tuple #[Value.int .i64 2, Value.int .i64 2, Value.bool true])) w)
          (br (decide (s = [112, 114, 105, 110, 116]))
            (R (Ending.returned (Value.tuple #[Value.int .i64 1, Value.int .i64 8, Value.bool true])) w)
            (R (Ending.returned (Value.tuple #[Value.int .i64 0, Value.int .i64 0, Value.bool false])) w)))
        (br (decide (s = [108, 116]))
          (br (decide (s = [108, 116]))
            (R (Ending.returned (Value.tuple #[Value.int .i64 2, Value.int .i64 2, Value.bool true])) w)
            (br (decide (s = [112, 114, 105, 110, 116]))
              (R (Ending.returned (Value.tuple #[Value.int .i64 1, Value.int .i64 8, Value.bool true])) w)
              (R (Ending.returned (Value.tuple #[Value.int .i64 0, Value.int .i64 0, Value.bool false])) w)))
          (br (decide (s = [97, 110, 100]))
            (br (decide (s = [97, 110, 100]))
              (R (Ending.returned (Value.tuple #[Value.int .i64 2, Value.int .i64 2, Value.bool true])) w)
              (br (decide (s = [112, 114, 105, 110, 116]))
                (R (Ending.returned (Value.tuple #[Value.int .i64 1, Value.int .i64 8, Value.bool true])) w)
                (R (Ending.returned (Value.tuple #[Value.int .i64 0, Value.int .i64 0, Value.bool false])) w)))
            (br (decide (s = [111, 114]))
              (br (decide (s = [111, 114]))
                (R (Ending.returned (Value.tuple #[Value.int .i64 2, Value.int .i64 2, Value.bool true])) w)
                (br (decide (s = [112, 114, 105, 110, 116]))
                  (R (Ending.returned (Value.tuple #[Value.int .i64 1, Value.int .i64 8, Value.bool true])) w)
                  (R (Ending.returned (Value.tuple #[Value.int .i64 0, Value.int .i64 0, Value.bool false])) w)))
              (br (decide (s = [106, 111, 105, 110]))
                (br (decide (s = [106, 111, 105, 110]))
                  (R (Ending.returned (Value.tuple #[Value.int .i64 2, Value.int .i64 2, Value.bool true])) w)
                  (br (decide (s = [112, 114, 105, 110, 116]))
                    (R (Ending.returned (Value.tuple #[Value.int .i64 1, Value.int .i64 8, Value.bool true])) w)
                    (R (Ending.returned (Value.tuple #[Value.int .i64 0, Value.int .i64 0, Value.bool false])) w)))
                (br (decide (s = [100, 101, 102, 97, 117, 108, 116]))
                  (br (decide (s = [100, 101, 102, 97, 117, 108, 116]))
                    (R (Ending.returned (Value.tuple #[Value.int .i64 2, Value.int .i64 2, Value.bool true])) w)
                    (br (decide (s = [112, 114, 105, 110, 116]))
                      (R (Ending.returned (Value.tuple #[Value.int .i64 1, Value.int .i64 8, Value.bool true])) w)
                      (R (Ending.returned (Value.tuple #[Value.int .i64 0, Value.int .i64 0, Value.bool false])) w)))
                  (br (decide (s = [105, 110, 100, 101, 120]))
                    (R (Ending.returned (Value.tuple #[Value.int .i64 2, Value.int .i64 2, Value.bool true])) w)
                    (br (decide (s = [112, 114, 105, 110, 116]))
                      (R (Ending.returned (Value.tuple #[Value.int .i64 1, Value.int .i64 8, Value.bool true])) w)
                      (R (Ending.returned (Value.tuple #[Value.int .i64 0, Value.int .i64 0, Value.bool false])) w))))))))))
    (br (decide (s = [110, 111, 116]))
      (br (decide (s = [110, 111, 116]))
        (R (Ending.returned (Value.tuple #[Value.int .i64 1, Value.int .i64 1, Value.bool true])) w)
        (br (decide (s = [101, 113]))
          (br (decide (s = [101, 113]))
            (R (Ending.returned (Value.tuple #[Value.int .i64 2, Value.int .i64 2, Value.bool true])) w)
            (br (decide (s = [112, 114, 105, 110, 116]))
              (R (Ending.returned (Value.tuple #[Value.int .i64 1, Value.int .i64 8, Value.bool true])) w)
              (R (Ending.returned (Value.tuple #[Value.int .i64 0, Value.int .i64 0, Value.bool false])) w)))
          (br (decide (s = [108, 116]))
            (br (decide (s = [108, 116]))
              (R (Ending.returned (Value.tuple #[Value.int .i64 2, Value.int .i64 2, Value.bool true])) w)
              (br (decide (s = [112, 114, 105, 110, 116]))
                (R (Ending.returned (Value.tuple #[Value.int .i64 1, Value.int .i64 8, Value.bool true])) w)
                (R (Ending.returned (Value.tuple #[Value.int .i64 0, Value.int .i64 0, Value.bool false])) w)))
            (br (decide (s = [97, 110, 100]))
              (br (decide (s = [97, 110, 100]))
                (R (Ending.returned (Value.tuple #[Value.int .i64 2, Value.int .i64 2, Value.bool true])) w)
                (br (decide (s = [112, 114, 105, 110, 116]))
                  (R (Ending.returned (Value.tuple #[Value.int .i64 1, Value.int .i64 8, Value.bool true])) w)
                  (R (Ending.returned (Value.tuple #[Value.int .i64 0, Value.int .i64 0, Value.bool false])) w)))
              (br (decide (s = [111, 114]))
                (br (decide (s = [111, 114]))
                  (R (Ending.returned (Value.tuple #[Value.int .i64 2, Value.int .i64 2, Value.bool true])) w)
                  (br (decide (s = [112, 114, 105, 110, 116]))
                    (R (Ending.returned (Value.tuple #[Value.int .i64 1, Value.int .i64 8, Value.bool true])) w)
                    (R (Ending.returned (Value.tuple #[Value.int .i64 0, Value.int .i64 0, Value.bool false])) w)))
                (br (decide (s = [106, 111, 105, 110]))
                  (br (decide (s = [106, 111, 105, 110]))
                    (R (Ending.returned (Value.tuple #[Value.int .i64 2, Value.int .i64 2, Value.bool true])) w)
                    (br (decide (s = [112, 114, 105, 110, 116]))
                      (R (Ending.returned (Value.tuple #[Value.int .i64 1, Value.int .i64 8, Value.bool true])) w)
                      (R (Ending.returned (Value.tuple #[Value.int .i64 0, Value.int .i64 0, Value.bool false])) w)))
                  (br (decide (s = [100, 101, 102, 97, 117, 108, 116]))
                    (br (decide (s = [100, 101, 102, 97, 117, 108, 116]))
                      (R (Ending.returned (Value.tuple #[Value.int .i64 2, Value.int .i64 2, Value.bool true])) w)
                      (br (decide (s = [112, 114, 105, 110, 116]))
                        (R (Ending.returned (Value.tuple #[Value.int .i64 1, Value.int .i64 8, Value.bool true])) w)
                        (R (Ending.returned (Value.tuple #[Value.int .i64 0, Value.int .i64 0, Value.bool false])) w)))
                    (br (decide (s = [105, 110, 100, 101, 120]))
                      (R (Ending.returned (Value.tuple #[Value.int .i64 2, Value.int .i64 2, Value.bool true])) w)
                      (br (decide (s = [112, 114, 105, 110, 116]))
                        (R (Ending.returned (Value.tuple #[Value.int .i64 1, Value.int .i64 8, Value.bool true])) w)
                        (R (Ending.returned (Value.tuple #[Value.int .i64 0, Value.int .i64 0, Value.bool false])) w))))))))))
      (br (decide (s = [117, 112, 112, 101, 114]))
        (br (decide (s = [117, 112, 112, 101, 114]))
          (R (Ending.returned (Value.tuple #[Value.int .i64 1, Value.int .i64 1, Value.bool true])) w)
          (br (decide (s = [101, 113]))
            (br (decide (s = [101, 113]))
              (R (Ending.returned (Value.tuple #[Value.int .i64 2, Value.int .i64 2, Value.bool true])) w)
              (br (decide (s = [112, 114, 105, 110, 116]))
                (R (Ending.returned (Value.tuple #[Value.int .i64 1, Value.int .i64 8, Value.bool true])) w)
                (R (Ending.returned (Value.tuple #[Value.int .i64 0, Value.int .i64 0, Value.bool false])) w)))
            (br (decide (s = [108, 116]))
              (br (decide (s = [108, 116]))
                (R (Ending.returned (Value.tuple #[Value.int .i64 2, Value.int .i64 2, Value.bool true])) w)
                (br (decide (s = [112, 114, 105, 110, 116]))
                  (R (Ending.returned (Value.tuple #[Value.int .i64 1, Value.int .i64 8, Value.bool true])) w)
                  (R (Ending.returned (Value.tuple #[Value.int .i64 0, Value.int .i64 0, Value.bool false])) w)))
              (br (decide (s = [97, 110, 100]))
                (br (decide (s = [97, 110, 100]))
                  (R (Ending.returned (Value.tuple #[Value.int .i64 2, Value.int .i64 2, Value.bool true])) w)
                  (br (decide (s = [112, 114, 105, 110, 116]))
                    (R (Ending.returned (Value.tuple #[Value.int .i64 1, Value.int .i64 8, Value.bool true])) w)
                    (R (Ending.returned (Value.tuple #[Value.int .i64 0, Value.int .i64 0, Value.bool false])) w)))
                (br (decide (s = [111, 114]))
                  (br (decide (s = [111, 114]))
                    (R (Ending.returned (Value.tuple #[Value.int .i64 2, Value.int .i64 2, Value.bool true])) w)
                    (br (decide (s = [112, 114, 105, 110, 116]))
                      (R (Ending.returned (Value.tuple #[Value.int .i64 1, Value.int .i64 8, Value.bool true])) w)
                      (R (Ending.returned (Value.tuple #[Value.int .i64 0, Value.int .i64 0, Value.bool false])) w)))
                  (br (decide (s = [106, 111, 105, 110]))
                    (br (decide (s = [106, 111, 105, 110]))
                      (R (Ending.returned (Value.tuple #[Value.int .i64 2, Value.int .i64 2, Value.bool true])) w)
                      (br (decide (s = [112, 114, 105, 110, 116]))
                        (R (Ending.returned (Value.tuple #[Value.int .i64 1, Value.int .i64 8, Value.bool true])) w)
                        (R (Ending.returned (Value.tuple #[Value.int .i64 0, Value.int .i64 0, Value.bool false])) w)))
                    (br (decide (s = [100, 101, 102, 97, 117, 108, 116]))
                      (br (decide (s = [100, 101, 102, 97, 117, 108, 116]))
                        (R (Ending.returned (Value.tuple #[Value.int .i64 2, Value.int .i64 2, Value.bool true])) w)
                        (br (decide (s = [112, 114, 105, 110, 116]))
                          (R (Ending.returned (Value.tuple #[Value.int .i64 1, Value.int .i64 8, Value.bool true])) w)
                          (R (Ending.returned (Value.tuple #[Value.int .i64 0, Value.int .i64 0, Value.bool false])) w)))
                      (br (decide (s = [105, 110, 100, 101, 120]))
                        (R (Ending.returned (Value.tuple #[Value.int .i64 2, Value.int .i64 2, Value.bool true])) w)
                        (br (decide (s = [112, 114, 105, 110, 116]))
                          (R (Ending.returned (Value.tuple #[Value.int .i64 1, Value.int .i64 8, Value.bool true])) w)
                          (R (Ending.returned (Value.tuple #[Value.int .i64 0, Value.int .i64 0, Value.bool false])) w))))))))))
        (br (decide (s = [108, 111, 119, 101, 114]))
          (R (Ending.returned (Value.tuple #[Value.int .i64 1, Value.int .i64 1, Value.bool true])) w)
          (br (decide (s = [101, 113]))
            (br (decide (s = [101, 113]))
              (R (Ending.returned (Value.tuple #[Value.int .i64 2, Value.int .i64 2, Value.bool true])) w)
              (br (decide (s = [112, 114, 105, 110, 116]))
                (R (Ending.returned (Value.tuple #[Value.int .i64 1, Value.int .i64 8, Value.bool true])) w)
                (R (Ending.returned (Value.tuple #[Value.int .i64 0, Value.int .i64 0, Value.bool false])) w)))
            (br (decide (s = [108, 116]))
              (br (decide (s = [108, 116]))
                (R (Ending.returned (Value.tuple #[Value.int .i64 2, Value.int .i64 2, Value.bool true])) w)
                (br (decide (s = [112, 114, 105, 110, 116]))
                  (R (Ending.returned (Value.tuple #[Value.int .i64 1, Value.int .i64 8, Value.bool true])) w)
                  (R (Ending.returned (Value.tuple #[Value.int .i64 0, Value.int .i64 0, Value.bool false])) w)))
              (br (decide (s = [97, 110, 100]))
                (br (decide (s = [97, 110, 100]))
                  (R (Ending.returned (Value.tuple #[Value.int .i64 2, Value.int .i64 2, Value.bool true])) w)
                  (br (decide (s = [112, 114, 105, 110, 116]))
                    (R (Ending.returned (Value.tuple #[Value.int .i64 1, Value.int .i64 8, Value.bool true])) w)
                    (R (Ending.returned (Value.tuple #[Value.int .i64 0, Value.int .i64 0, Value.bool false])) w)))
                (br (decide (s = [111, 114]))
                  (br (decide (s = [111, 114]))
                    (R (Ending.returned (Value.tuple #[Value.int .i64 2, Value.int .i64 2, Value.bool true])) w)
                    (br (decide (s = [112, 114, 105, 110, 116]))
                      (R (Ending.returned (Value.tuple #[Value.int .i64 1, Value.int .i64 8, Value.bool true])) w)
                      (R (Ending.returned (Value.tuple #[Value.int .i64 0, Value.int .i64 0, Value.bool false])) w)))
                  (br (decide (s = [106, 111, 105, 110]))
                    (br (decide (s = [106, 111, 105, 110]))
                      (R (Ending.returned (Value.tuple #[Value.int .i64 2, Value.int .i64 2, Value.bool true])) w)
                      (br (decide (s = [112, 114, 105, 110, 116]))
                        (R (Ending.returned (Value.tuple #[Value.int .i64 1, Value.int .i64 8, Value.bool true])) w)
                        (R (Ending.returned (Value.tuple #[Value.int .i64 0, Value.int .i64 0, Value.bool false])) w)))
                    (br (decide (s = [100, 101, 102, 97, 117, 108, 116]))
                      (br (decide (s = [100, 101, 102, 97, 117, 108, 116]))
                        (R (Ending.returned (Value.tuple #[Value.int .i64 2, Value.int .i64 2, Value.bool true])) w)
                        (br (decide (s = [112, 114, 105, 110, 116]))
                          (R (Ending.returned (Value.tuple #[Value.int .i64 1, Value.int .i64 8, Value.bool true])) w)
                          (R (Ending.returned (Value.tuple #[Value.int .i64 0, Value.int .i64 0, Value.bool false])) w)))
                      (br (decide (s = [105, 110, 100, 101, 120]))
                        (R (Ending.returned (Value.tuple #[Value.int .i64 2, Value.int .i64 2, Value.bool true])) w)
                        (br (decide (s = [112, 114, 105, 110, 116]))
                          (R (Ending.returned (Value.tuple #[Value.int .i64 1, Value.int .i64 8, Value.bool true])) w)
                          (R (Ending.returned (Value.tuple #[Value.int .i64 0, Value.int .i64 0, Value.bool false])) w))))))))))))
theorem eq_ref19_Arity (s : Bytes) (w : World) (R : Ending → World → Prop) : vc_ref19_Arity s w R = vc (bodyOf D_ref19_Arity) (cx0 P D_ref19_Arity an_ref19_Arity) 0 (st0 [Value.string (bs s)] w) (vEnd (cx0 P D_ref19_Arity an_ref19_Arity) D_ref19_Arity R) := by kernel_rfl
theorem ok_ref19_Arity (s : Bytes) {w : World} {R : Ending → World → Prop} (h : vc_ref19_Arity s w R) : Calls P F_ref19_Arity #[Value.string (bs s)] w R :=
  calls_of_vc (P := P) (f := F_ref19_Arity) (fn := D_ref19_Arity) (c := bodyOf D_ref19_Arity) (args := [Value.string (bs s)]) (R := R) (w := w) an_ref19_Arity Try.func63 (bodyOf_some (by kernel_rfl)) (by kernel_rfl) (by rw [← eq_ref19_Arity s w R]; exact h)
def an_slices_IndexFunc_string : Ann := { boxes := [], loops := [(0, [(8, Value.int .i64 0)], [4, 5, 9, 10, 11, 12, 13, 14, 15, 16, 17, 18])], cuts := [], pans := [11, 13, 14, 15, 31], draws := [] }
def vc_slices_IndexFunc_string (s : Sl) (g : FuncId) (fi ca : Array Value) (w : World) (R : Ending → World → Prop) : Prop :=
  ∃ (J : Int → Nat → World → Prop) (n₀ : Nat), J (0 : Int) n₀ w ∧
  ∀ t8 : Int, ∀ (n : Nat) (w_ : World), J t8 n w_ →
  br (decide (t8 < ((s.len : Nat) : Int)))
    ((0 : Int) ≤ t8 ∧ t8 < ((s.len : Nat) : Int) ∧ ∃ a : Addr, s.a = some a ∧
    ∃ x : Bytes, CellsAt w_ (a.add (t8.toNat * 1)) [Value.string (bs x)] ∧
    enterable P g = true ∧
    Calls P g (fi.toList ++ [Value.string (bs x)] ++ ca.toList).toArray w_ (fun (e_ : Ending) (w_1 : World) =>
      ∃ r : Bool, e_ = Ending.returned (Value.bool r) ∧ 
      br r
        (R (Ending.returned (Value.int .i64 t8)) w_1)
        (InI64 (t8 + 1) ∧
        ∃ m : Nat, m < n ∧ J (t8 + 1) m w_1)))
    (R (Ending.returned (Value.int .i64 (-1))) w_)
theorem eq_slices_IndexFunc_string (s : Sl) (g : FuncId) (fi ca : Array Value) (w : World) (R : Ending → World → Prop) : vc_slices_IndexFunc_string s  g   fi ca  w R = vc (bodyOf D_slices_IndexFunc_string) (cx0 P D_slices_IndexFunc_string an_slices_IndexFunc_string) 0 (st0 [Value.slice s.a s.len s.cap, Value.func (.func g) fi ca] w) (vEnd (cx0 P D_slices_IndexFunc_string an_slices_IndexFunc_string) D_slices_IndexFunc_string R) := by kernel_rfl
theorem ok_slices_IndexFunc_string (s : Sl) (g : FuncId) (fi ca : Array Value) {w : World} {R : Ending → World → Prop} (h : vc_slices_IndexFunc_string s  g   fi ca  w R) : Calls P F_slices_IndexFunc_string #[Value.slice s.a s.len s.cap, Value.func (.func g) fi ca] w R :=
  calls_of_vc (P := P) (f := F_slices_IndexFunc_string) (fn := D_slices_IndexFunc_string) (c := bodyOf D_slices_IndexFunc_string) (args := [Value.slice s.a s.len s.cap, Value.func (.func g) fi ca]) (R := R) (w := w) an_slices_IndexFunc_string Try.func64 (bodyOf_some (by kernel_rfl)) (by kernel_rfl) (by rw [← eq_slices_IndexFunc_string s  g   fi ca  w R]; exact h)
def an_slices_ContainsFunc_byte : Ann := { boxes := [], loops := [], cuts := [], pans := [11, 13, 14, 15, 31], draws := [] }
def vc_slices_ContainsFunc_byte (s : Sl) (g : FuncId) (fi ca : Array Value) (w : World) (R : Ending → World → Prop) : Prop :=
  Calls P F_slices_IndexFunc_byte #[Value.slice s.a s.len s.cap, Value.func (.func g) fi ca] w (fun (e_ : Ending) (w_ : World) =>
    ∃ r : Int, e_ = Ending.returned (Value.int .i64 r) ∧ 
    R (Ending.returned (Value.bool (decide ((0 : Int) ≤ r)))) w_)
theorem eq_slices_ContainsFunc_byte (s : Sl) (g : FuncId) (fi ca : Array Value) (w : World) (R : Ending → World → Prop) : vc_slices_ContainsFunc_byte s  g   fi ca  w R = vc (bodyOf D_slices_ContainsFunc_byte) (cx0 P D_slices_ContainsFunc_byte an_slices_ContainsFunc_byte) 0 (st0 [Value.slice s.a s.len s.cap, Value.func (.func g) fi ca] w) (vEnd (cx0 P D_slices_ContainsFunc_byte an_slices_ContainsFunc_byte) D_slices_ContainsFunc_byte R) := by kernel_rfl
theorem ok_slices_ContainsFunc_byte (s : Sl) (g : FuncId) (fi ca : Array Value) {w : World} {R : Ending → World → Prop} (h : vc_slices_ContainsFunc_byte s  g   fi ca  w R) : Calls P F_slices_ContainsFunc_byte #[Value.slice s.a s.len s.cap, Value.func (.func g) fi ca] w R :=
  calls_of_vc (P := P) (f := F_slices_ContainsFunc_byte) (fn := D_slices_ContainsFunc_byte) (c := bodyOf D_slices_ContainsFunc_byte) (args := [Value.slice s.a s.len s.cap, Value.func (.func g) fi ca]) (R := R) (w := w) an_slices_ContainsFunc_byte Try.func65 (bodyOf_some (by kernel_rfl)) (by kernel_rfl) (by rw [← eq_slices_ContainsFunc_byte s  g   fi ca  w R]; exact h)
def an_octets_Name_1 : Ann := { boxes := [], loops := [], cuts := [], pans := [11, 13, 14, 15, 31], draws := [] }
def vc_octets_Name_1 (c : Int) (w : World) (R : Ending → World → Prop) : Prop :=
  Calls P F_octets_Letter #[Value.int .u8 c] w (fun (e_ : Ending) (w_ : World) =>
    ∃ r : Bool, e_ = Ending.returned (Value.bool r) ∧ 
    br (!r)
      (br (!decide (c = 95))
        (br (decide (c < 48))
          (R (Ending.returned (Value.bool true)) w_)
          (R (Ending.returned (Value.bool (decide ((57 : Int) < c)))) w_))
        (R (Ending.returned (Value.bool false)) w_))
      (R (Ending.returned (Value.bool false)) w_))
theorem eq_octets_Name_1 (c : Int) (w : World) (R : Ending → World → Prop) : vc_octets_Name_1 c w R = vc (bodyOf D_octets_Name_1) (cx0 P D_octets_Name_1 an_octets_Name_1) 0 (st0 [Value.int .u8 c] w) (vEnd (cx0 P D_octets_Name_1 an_octets_Name_1) D_octets_Name_1 R) := by kernel_rfl
theorem ok_octets_Name_1 (c : Int) {w : World} {R : Ending → World → Prop} (h : vc_octets_Name_1 c w R) : Calls P F_octets_Name_1 #[Value.int .u8 c] w R :=
  calls_of_vc (P := P) (f := F_octets_Name_1) (fn := D_octets_Name_1) (c := bodyOf D_octets_Name_1) (args := [Value.int .u8 c]) (R := R) (w := w) an_octets_Name_1 Try.func66 (bodyOf_some (by kernel_rfl)) (by kernel_rfl) (by rw [← eq_octets_Name_1 c w R]; exact h)
def an_octets_Letter : Ann := { boxes := [], loops := [], cuts := [], pans := [11, 13, 14, 15, 31], draws := [] }
def vc_octets_Letter (c : Int) (w : World) (R : Ending → World → Prop) : Prop :=
  ∃ r : Int, (∀ w, (binOp .or 5 (Value.int .u8 c) (Value.int .u8 32)).run P w = .ok (Value.int .u8 r) w) ∧
  br (decide ((97 : Int) ≤ r))
    (∃ r1 : Int, (∀ w, (binOp .or 5 (Value.int .u8 c) (Value.int .u8 32)).run P w = .ok (Value.int .u8 r1) w) ∧
    R (Ending.returned (Value.bool (decide (r1 ≤ 122)))) w)
    (R (Ending.returned (Value.bool false)) w)
theorem eq_octets_Letter (c : Int) (w : World) (R : Ending → World → Prop) : vc_octets_Letter c w R = vc (bodyOf D_octets_Letter) (cx0 P D_octets_Letter an_octets_Letter) 0 (st0 [Value.int .u8 c] w) (vEnd (cx0 P D_octets_Letter an_octets_Letter) D_octets_Letter R) := by kernel_rfl
theorem ok_octets_Letter (c : Int) {w : World} {R : Ending → World → Prop} (h : vc_octets_Letter c w R) : Calls P F_octets_Letter #[Value.int .u8 c] w R :=
  calls_of_vc (P := P) (f := F_octets_Letter) (fn := D_octets_Letter) (c := bodyOf D_octets_Letter) (args := [Value.int .u8 c]) (R := R) (w := w) an_octets_Letter Try.func67 (bodyOf_some (by kernel_rfl)) (by kernel_rfl) (by rw [← eq_octets_Letter c w R]; exact h)
def an_ref19_path : Ann := { boxes := [(21, 100), (34, 101)], loops := [(0, [(4, Value.slice none 0 0), (5, Value.string (bs ([] : Bytes))), (6, Value.int .i64 0)], [7, 8, 9, 10, 11, 12, 13, 14, 15, 16, 17, 18, 19, 20, 21, 22, 23, 24, 25, 26, 27, 28, 29, 100])], cuts := [], pans := [11, 13, 14, 15, 31], draws := [] }
def vc_ref19_path (s : Bytes) (w : World) (R : Ending → World → Prop) : Prop :=
  ∃ (J : Sl → Bytes → Int → Nat → World → Prop) (n₀ : Nat), J ⟨none, 0, 0⟩ ([] : Bytes) (0 : Int) n₀ w ∧
  ∀ out : Sl, ∀ now : Bytes, ∀ i : Int, ∀ (n : Nat) (w_ : World), J out now i n w_ →
  br (decide (i < (s.length : Int)))
    ((0 : Int) ≤ i ∧ i < (s.length : Int) ∧
    br (decide (byteAt s i.toNat = 46))
      (br (decide ((0 : Int) < i))
        (∀ b : Nat, w_.heap.size ≤ b →
        ∀ w_1 : World, LocB [b] w_ w_1 →
        ∃ old : List Value, AppPre w_1 out 1 16 1 old ∧ (∀ ad, out.a = some ad → ad.block ≠ b) ∧ 
        ∀ (s1 : Sl) (w_2 : World), AppRes w_1 out 1 T_string [Value.string (bs now)] 1 old s1 w_2 →
        InI64 (i + 1) ∧
        ∃ m : Nat, m < n ∧ J s1 ([] : Bytes) (i + 1) m w_2)
        (InI64 (i + 1) ∧
        ∃ m1 : Nat, m1 < n ∧ J out ([] : Bytes) (i + 1) m1 w_))
      (InI64 (i + 1) ∧
      (0 : Int) ≤ i ∧ i ≤ i + 1 ∧ i + 1 ≤ (s.length : Int) ∧
      now.length + ((s.take ((i + 1).toNat)).drop i.toNat).length ≤ 9223372036854775807 ∧
      InI64 (i + 1) ∧
      ∃ m2 : Nat, m2 < n ∧ J out (now ++ ((s.take ((i + 1).toNat)).drop i.toNat)) (i + 1) m2 w_))
    (br (!decide (now = ([] : Bytes)))
      (∀ b1 : Nat, w_.heap.size ≤ b1 →
      ∀ w_3 : World, LocB [b1] w_ w_3 →
      ∃ old1 : List Value, AppPre w_3 out 1 16 1 old1 ∧ (∀ ad, out.a = some ad → ad.block ≠ b1) ∧ 
      ∀ (s2 : Sl) (w_4 : World), AppRes w_3 out 1 T_string [Value.string (bs now)] 1 old1 s2 w_4 →
      br (decide ((16 : Int) < ((s2.len : Nat) : Int)))
        (R (Ending.returned (Value.tuple #[Value.slice none 0 0, Value.int .i64 42])) w_4)
        (R (Ending.returned (Value.tuple #[Value.slice s2.a s2.len s2.cap, Value.int .i64 0])) w_4))
      (br (decide ((16 : Int) < ((out.len : Nat) : Int)))
        (R (Ending.returned (Value.tuple #[Value.slice none 0 0, Value.int .i64 42])) w_)
        (R (Ending.returned (Value.tuple #[Value.slice out.a out.len out.cap, Value.int .i64 0])) w_)))
theorem eq_ref19_path (s : Bytes) (w : World) (R : Ending → World → Prop) : vc_ref19_path s w R = vc (bodyOf D_ref19_path) (cx0 P D_ref19_path an_ref19_path) 0 (st0 [Value.string (bs s)] w) (vEnd (cx0 P D_ref19_path an_ref19_path) D_ref19_path R) := by kernel_rfl
theorem ok_ref19_path (s : Bytes) {w : World} {R : Ending → World → Prop} (h : vc_ref19_path s w R) : Calls P F_ref19_path #[Value.string (bs s)] w R :=
  calls_of_vc (P := P) (f := F_ref19_path) (fn := D_ref19_path) (c := bodyOf D_ref19_path) (args := [Value.string (bs s)]) (R := R) (w := w) an_ref19_path Try.func68 (bodyOf_some (by kernel_rfl)) (by kernel_rfl) (by rw [← eq_ref19_path s w R]; exact h)
def an_slices_IndexFunc_byte : Ann := { boxes := [], loops := [(0, [(8, Value.int .i64 0)], [4, 5, 9, 10, 11, 12, 13, 14, 15, 16, 17, 18])], cuts := [], pans := [11, 13, 14, 15, 31], draws := [] }
def vc_slices_IndexFunc_byte (s : Sl) (g : FuncId) (fi ca : Array Value) (w : World) (R : Ending → World → Prop) : Prop :=
  ∃ (J : Int → Nat → World → Prop) (n₀ : Nat), J (0 : Int) n₀ w ∧
  ∀ t8 : Int, ∀ (n : Nat) (w_ : World), J t8 n w_ →
  br (decide (t8 < ((s.len : Nat) : Int)))
    ((0 : Int) ≤ t8 ∧ t8 < ((s.len : Nat) : Int) ∧ ∃ a : Addr, s.a = some a ∧
    ∃ x : Int, CellsAt w_ (a.add (t8.toNat * 1)) [Value.int .u8 x] ∧
    enterable P g = true ∧
    Calls P g (fi.toList ++ [Value.int .u8 x] ++ ca.toList).toArray w_ (fun (e_ : Ending) (w_1 : World) =>
      ∃ r : Bool, e_ = Ending.returned (Value.bool r) ∧ 
      br r
        (R (Ending.returned (Value.int .i64 t8)) w_1)
        (InI64 (t8 + 1) ∧
        ∃ m : Nat, m < n ∧ J (t8 + 1) m w_1)))
    (R (Ending.returned (Value.int .i64 (-1))) w_)
theorem eq_slices_IndexFunc_byte (s : Sl) (g : FuncId) (fi ca : Array Value) (w : World) (R : Ending → World → Prop) : vc_slices_IndexFunc_byte s  g   fi ca  w R = vc (bodyOf D_slices_IndexFunc_byte) (cx0 P D_slices_IndexFunc_byte an_slices_IndexFunc_byte) 0 (st0 [Value.slice s.a s.len s.cap, Value.func (.func g) fi ca] w) (vEnd (cx0 P D_slices_IndexFunc_byte an_slices_IndexFunc_byte) D_slices_IndexFunc_byte R) := by kernel_rfl
theorem ok_slices_IndexFunc_byte (s : Sl) (g : FuncId) (fi ca : Array Value) {w : World} {R : Ending → World → Prop} (h : vc_slices_IndexFunc_byte s  g   fi ca  w R) : Calls P F_slices_IndexFunc_byte #[Value.slice s.a s.len s.cap, Value.func (.func g) fi ca] w R :=
  calls_of_vc (P := P) (f := F_slices_IndexFunc_byte) (fn := D_slices_IndexFunc_byte) (c := bodyOf D_slices_IndexFunc_byte) (args := [Value.slice s.a s.len s.cap, Value.func (.func g) fi ca]) (R := R) (w := w) an_slices_IndexFunc_byte Try.func69 (bodyOf_some (by kernel_rfl)) (by kernel_rfl) (by rw [← eq_slices_IndexFunc_byte s  g   fi ca  w R]; exact h)
end Go.Proofs.Ytpedoaeieabhoaa.V

/- Contracts: octets and texts (reference 1). -/
namespace Go.Proofs.Ytpedoaeieabhoaa.V
open Go Go.Vc Go.Proofs
open Go.Vc (Bytes)

theorem blank_spec (c : UInt8) (w : World) : Calls P F_ref01_Blank #[.int .u8 (c.toNat : Int)] w (Ret w (.bool (M.blankB c))) := by
  refine ok_ref01_Blank _ ?_
  unfold vc_ref01_Blank
  refine br_dec (fun h1 => ?_) (fun h1 => br_dec (fun h2 => ?_) (fun h2 => br_dec (fun h3 => ?_) (fun h3 => br_dec (fun h4 => ?_) (fun h4 => ?_))))
  all_goals refine Ret.bool ?_ (Grow.refl _)
  all_goals (unfold M.blankB M.Blank; first | exact dec_t (by omega) | exact dec_f (by omega) | exact decide_eq_decide.2 (by omega))

theorem letter_spec (c : UInt8) (w : World) : Calls P F_ref01_Letter #[.int .u8 (c.toNat : Int)] w (Ret w (.bool (decide (M.Letter c)))) := by
  refine ok_ref01_Letter _ ?_
  unfold vc_ref01_Letter
  repeat' (first | refine br_dec (fun _ => ?_) (fun _ => ?_) | refine Ret.bool ?_ (Grow.refl _))
  all_goals (unfold M.Letter; first | exact dec_t (by omega) | exact dec_f (by omega) | exact decide_eq_decide.2 (by omega))

theorem digit_spec (c : UInt8) (w : World) : Calls P F_ref01_Digit #[.int .u8 (c.toNat : Int)] w (Ret w (.bool (decide (M.Digit c)))) := by
  refine ok_ref01_Digit _ ?_
  unfold vc_ref01_Digit
  repeat' (first | refine br_dec (fun _ => ?_) (fun _ => ?_) | refine Ret.bool ?_ (Grow.refl _))
  all_goals (unfold M.Digit; first | exact dec_t (by omega) | exact dec_f (by omega) | exact decide_eq_decide.2 (by omega))

theorem begins_spec (p s : Bytes) (w : World) : Calls P F_ref01_Begins #[.string (bs p), .string (bs s)] w (Ret w (.bool (decide (p <+: s)))) := by
  refine ok_ref01_Begins _ _ ?_
  unfold vc_ref01_Begins
  refine br_dec (fun h => ⟨by omega, h, ⟨ret_bool ?_, Grow.refl _⟩⟩) (fun h => ⟨ret_bool (dec_f fun hp => h (by have := hp.length_le; omega)), Grow.refl _⟩)
  rw [Bool.eq_iff_iff]
  simp only [decide_eq_true_eq, Int.toNat_natCast, List.prefix_iff_eq_take]
  exact eq_comm

theorem find_spec (s p : Bytes) (w : World) (hs : s.length < 4611686018427387904) (hp : p.length < 4611686018427387904) :
    Calls P F_ref01_Find #[.string (bs s), .string (bs p)] w (Ret w (.int .i64 (M.findI p s))) := by
  refine ok_ref01_Find _ _ ?_
  unfold vc_ref01_Find
  refine ⟨fun i n w' => ∃ k : Nat, i = k ∧ k ≤ s.length ∧ n = s.length + 1 - k ∧ M.find p s = (M.find p (s.drop k)).map (· + k) ∧ Grow w w', s.length + 1, ⟨0, rfl, by omega, rfl, by simp, Grow.refl _⟩, ?_⟩
  rintro i n w' ⟨k, rfl, hk, rfl, hf, hg⟩
  refine ⟨inI64 (by omega) (by omega), br_dec (fun h => ?_) (fun h => ?_)⟩
  · refine ⟨inI64 (by omega) (by omega), by omega, by omega, h, br_dec (fun h2 => ?_) (fun h2 => ?_)⟩
    · refine ⟨ret_int ?_, hg⟩
      have hpre : p <+: s.drop k := by
        rw [List.prefix_iff_eq_take, ← h2]
        have e : (((k : Int) + (p.length : Int)).toNat) = k + p.length := by omega
        simp [e, List.drop_take]
      simp [M.findI, hf, M.find_yes hpre]
    · have hpre : ¬ p <+: s.drop k := by
        intro hp'
        apply h2
        rw [List.prefix_iff_eq_take] at hp'
        have e : (((k : Int) + (p.length : Int)).toNat) = k + p.length := by omega
        simp [e, List.drop_take, ← hp']
      have hlt : k < s.length := by
        rcases Nat.lt_or_ge k s.length with h' | h'
        · exact h'
        · exfalso
          have hp0 : p = [] := by
            have : p.length = 0 := by omega
            exact List.eq_nil_of_length_eq_zero this
          exact hpre (by rw [hp0]; exact List.nil_prefix)
      refine ⟨inI64 (by omega) (by omega), s.length + 1 - (k + 1), by omega, k + 1, by omega, by omega, rfl, ?_, hg⟩
      rw [hf, drop_cons hlt]
      rw [drop_cons hlt] at hpre
      rw [M.find_cons_no hpre]
      cases M.find p (s.drop (k + 1)) <;> simp
      omega
  · refine ⟨ret_int ?_, hg⟩
    have : M.find p (s.drop k) = none := M.find_short (by simp; omega)
    simp [M.findI, hf, this]

end Go.Proofs.Ytpedoaeieabhoaa.V

/- Contracts: texts (references 1 and 18). -/
namespace Go.Proofs.Ytpedoaeieabhoaa.V
open Go Go.Vc Go.Proofs
open Go.Vc (Bytes)

theorem has_spec (s : Bytes) (c : UInt8) (w : World) (hs : s.length < 4611686018427387904) : Calls P F_ref01_Has #[.string (bs s), .int .u8 (c.toNat : Int)] w (Ret w (.bool (s.contains c))) := by
  refine ok_ref01_Has _ _ ?_
  unfold vc_ref01_Has
  refine ⟨fun i n w' => ∃ k : Nat, i = k ∧ k ≤ s.length ∧ n = s.length - k ∧ s.contains c = (s.drop k).contains c ∧ Grow w w', s.length, ⟨0, rfl, by omega, rfl, by simp, Grow.refl _⟩, ?_⟩
  rintro i n w' ⟨k, rfl, hk, rfl, hf, hg⟩
  refine br_dec (fun h => ⟨by omega, h, ?_⟩) (fun h => ?_)
  · have hlt : k < s.length := by omega
    rw [Int.toNat_natCast, byteAt_eq s k hlt]
    refine br_dec (fun h2 => ?_) (fun h2 => ?_)
    · refine Ret.bool ?_ hg
      rw [hf, drop_cons hlt, u8_eq h2]
      simp
    · refine ⟨inI64 (by omega) (by omega), s.length - (k + 1), by omega, k + 1, by omega, by omega, rfl, ?_, hg⟩
      rw [hf, drop_cons hlt, List.contains_cons]
      have : (c == s[k]) = false := by
        rw [beq_eq_false_iff_ne]
        rintro rfl
        exact h2 rfl
      rw [this, Bool.false_or]
  · refine Ret.bool ?_ hg
    rw [hf, List.drop_eq_nil_of_le (by omega)]
    rfl

theorem skip_spec (s : Bytes) {at_ : Int} (k : Nat) (ha : at_ = k) (w : World) (hk : k ≤ s.length) (hs : s.length < 4611686018427387904) :
    Calls P F_ref18_skip #[.string (bs s), .int .i64 at_] w (Ret w (.int .i64 ((k + M.spanL M.blankB (s.drop k) : Nat) : Int))) := by
  subst ha
  refine ok_ref18_skip _ _ ?_
  unfold vc_ref18_skip
  refine ⟨fun i n w' => ∃ j : Nat, i = j ∧ j ≤ s.length ∧ n = s.length - j ∧ k + M.spanL M.blankB (s.drop k) = j + M.spanL M.blankB (s.drop j) ∧ Grow w w', s.length - k, ⟨k, rfl, hk, rfl, rfl, Grow.refl _⟩, ?_⟩
  rintro i n w' ⟨j, rfl, hj, rfl, hf, hg⟩
  refine br_dec (fun h => ⟨by omega, h, ?_⟩) (fun h => ?_)
  · have hlt : j < s.length := by omega
    rw [Int.toNat_natCast, byteAt_eq s j hlt]
    refine useR (blank_spec _ _) fun w1 hg1 => ⟨_, rfl, br_intro (fun h2 => ?_) (fun h2 => ?_)⟩
    · refine ⟨inI64 (by omega) (by omega), s.length - (j + 1), by omega, j + 1, by omega, by omega, rfl, ?_, hg.trans hg1⟩
      rw [hf, M.spanL_yes hlt h2]
      omega
    · refine Ret.int ?_ (hg.trans hg1)
      rw [hf, M.spanL_no hlt h2]
      rfl
  · refine Ret.int ?_ hg
    rw [hf, M.spanL_end (by omega)]
    rfl

theorem back_spec (s : Bytes) (w : World) (hs : s.length < 4611686018427387904) :
    Calls P F_ref18_back #[.string (bs s)] w (Ret w (.string (bs (M.backM s)))) := by
  refine ok_ref18_back _ ?_
  unfold vc_ref18_back
  refine ⟨fun i n w' => i = n ∧ n ≤ s.length ∧ M.backTo s 0 s.length = M.backTo s 0 n ∧ Grow w w', s.length, ⟨rfl, by omega, rfl, Grow.refl _⟩, ?_⟩
  rintro i n w' ⟨rfl, hj, hf, hg⟩
  refine br_dec (fun h => ?_) (fun h => ?_)
  · obtain ⟨m, rfl⟩ : ∃ m, n = m + 1 := ⟨n - 1, by omega⟩
    have e : (((m + 1 : Nat) : Int) - 1) = (m : Int) := by omega
    rw [e, Int.toNat_natCast, byteAt_eq s m (by omega)]
    refine ⟨inI64 (by omega) (by omega), by omega, by omega, useR (blank_spec _ _) fun w1 hg1 => ⟨_, rfl, br_intro (fun h2 => ?_) (fun h2 => ?_)⟩⟩
    · refine ⟨inI64 (by omega) (by omega), m, by omega, rfl, by omega, ?_, hg.trans hg1⟩
      rw [hf, M.backTo, if_pos ⟨by omega, by simpa [List.getD, show m < s.length by omega] using h2⟩]
    · refine ⟨by omega, by omega, Ret.str ?_ (hg.trans hg1)⟩
      rw [M.backM, hf, M.backTo, if_neg (fun h3 => by have := h3.2; simp [List.getD, show m < s.length by omega, h2] at this)]
      rfl
  · refine ⟨by omega, by omega, Ret.str ?_ hg⟩
    have : n = 0 := by omega
    subst this
    rw [M.backM, hf]
    rfl

theorem trim_spec (s : Bytes) (w : World) (hs : s.length < 4611686018427387904) :
    Calls P F_ref01_Trim #[.string (bs s)] w (Ret w (.string (bs (M.trimM s)))) := by
  refine ok_ref01_Trim _ ?_
  unfold vc_ref01_Trim
  refine ⟨fun a w' => a = (M.spanL M.blankB s : Nat) ∧ Grow w w', ?_, ?_⟩
  · refine ⟨fun i n w' => ∃ j : Nat, i = j ∧ j ≤ s.length ∧ n = s.length - j ∧ M.spanL M.blankB s = j + M.spanL M.blankB (s.drop j) ∧ Grow w w', s.length, ⟨0, rfl, by omega, by omega, by simp, Grow.refl _⟩, ?_⟩
    rintro i n w' ⟨j, rfl, hj, rfl, hf, hg⟩
    refine br_dec (fun h => ⟨by omega, h, ?_⟩) (fun h => ?_)
    · have hlt : j < s.length := by omega
      rw [Int.toNat_natCast, byteAt_eq s j hlt]
      refine useR (blank_spec _ _) fun w1 hg1 => ⟨_, rfl, br_intro (fun h2 => ?_) (fun h2 => ?_)⟩
      · refine ⟨inI64 (by omega) (by omega), s.length - (j + 1), by omega, j + 1, by omega, by omega, rfl, ?_, hg.trans hg1⟩
        rw [hf, M.spanL_yes hlt h2]
        omega
      · refine ⟨?_, hg.trans hg1⟩
        rw [hf, M.spanL_no hlt h2]
        rfl
    · refine ⟨?_, hg⟩
      rw [hf, M.spanL_end (by omega)]
      rfl
  · rintro a w2 ⟨rfl, hg2⟩
    have hsp := M.spanL_le M.blankB s
    refine ⟨fun i n w' => i = n ∧ n ≤ s.length ∧ M.spanL M.blankB s ≤ n ∧ M.backTo s (M.spanL M.blankB s) s.length = M.backTo s (M.spanL M.blankB s) n ∧ Grow w w', s.length, ⟨rfl, by omega, hsp, rfl, hg2⟩, ?_⟩
    rintro i n w' ⟨rfl, hj, hsn, hf, hg⟩
    refine br_dec (fun h => ?_) (fun h => ?_)
    · obtain ⟨m, rfl⟩ : ∃ m, n = m + 1 := ⟨n - 1, by omega⟩
      have e : (((m + 1 : Nat) : Int) - 1) = (m : Int) := by omega
      rw [e, Int.toNat_natCast, byteAt_eq s m (by omega)]
      refine ⟨inI64 (by omega) (by omega), by omega, by omega, useR (blank_spec _ _) fun w1 hg1 => ⟨_, rfl, br_intro (fun h2 => ?_) (fun h2 => ?_)⟩⟩
      · refine ⟨inI64 (by omega) (by omega), m, by omega, rfl, by omega, by omega, ?_, hg.trans hg1⟩
        rw [hf, M.backTo, if_pos ⟨by omega, by simpa [List.getD, show m < s.length by omega] using h2⟩]
      · refine ⟨by omega, by omega, by omega, Ret.str ?_ (hg.trans hg1)⟩
        rw [M.trimM, hf, M.backTo, if_neg (fun h3 => by have := h3.2; simp [List.getD, show m < s.length by omega, h2] at this)]
        rfl
    · refine ⟨by omega, by omega, by omega, Ret.str ?_ hg⟩
      have hn : n = M.spanL M.blankB s := by omega
      rw [M.trimM, hf]
      congr 2
      cases n with
      | zero => rfl
      | succ m => rw [M.backTo, if_neg (by omega)]; rfl

theorem name_spec (s : Bytes) (w : World) (hs : s.length < 4611686018427387904) :
    Calls P F_ref01_Name #[.string (bs s)] w (Ret w (.bool (M.nameB s))) := by
  refine ok_ref01_Name _ ?_
  unfold vc_ref01_Name
  refine ⟨fun i n w' => ∃ k : Nat, i = k ∧ k ≤ s.length ∧ n = s.length - k ∧ (0 < k → M.nameB s = ((s.drop k).all M.innerB && decide (s.length ≤ 32))) ∧ Grow w w', s.length, ⟨0, rfl, by omega, by omega, by simp, Grow.refl _⟩, ?_⟩
  rintro i n w' ⟨k, rfl, hk, rfl, hf, hg⟩
  refine br_dec (fun h => ⟨by omega, h, ?_⟩) (fun h => ?_)
  · have hlt : k < s.length := by omega
    rw [Int.toNat_natCast, byteAt_eq s k hlt]
    have next : ∀ w'', Grow w w'' → (if k = 0 then M.headB s[k] else M.innerB s[k]) = true → InI64 ((k : Int) + 1) ∧ ∃ m, m < s.length - k ∧ ∃ k' : Nat, (k : Int) + 1 = k' ∧ k' ≤ s.length ∧ m = s.length - k' ∧ (0 < k' → M.nameB s = ((s.drop k').all M.innerB && decide (s.length ≤ 32))) ∧ Grow w w'' := by
      intro w'' hw hok
      refine ⟨inI64 (by omega) (by omega), s.length - (k + 1), by omega, k + 1, by omega, by omega, rfl, fun _ => ?_, hw⟩
      by_cases hk0 : k = 0
      · subst hk0
        rw [if_pos rfl] at hok
        obtain ⟨c, r, rfl⟩ : ∃ c r, s = c :: r := by cases s with
          | nil => simp at hlt
          | cons c r => exact ⟨c, r, rfl⟩
        simp only [List.getElem_cons_zero] at hok
        simp [M.nameB, hok]
      · rw [if_neg hk0] at hok
        rw [hf (by omega), drop_cons hlt, List.all_cons, hok, Bool.true_and]
    have stop : ∀ w'', Grow w w'' → (if k = 0 then M.headB s[k] else M.innerB s[k]) = false → Ret w (.bool (M.nameB s)) (.returned (.bool false)) w'' := by
      intro w'' hw hok
      refine Ret.bool ?_ hw
      by_cases hk0 : k = 0
      · subst hk0
        rw [if_pos rfl] at hok
        obtain ⟨c, r, rfl⟩ : ∃ c r, s = c :: r := by cases s with
          | nil => simp at hlt
          | cons c r => exact ⟨c, r, rfl⟩
        simp only [List.getElem_cons_zero] at hok
        simp [M.nameB, hok]
      · rw [if_neg hk0] at hok
        rw [hf (by omega), drop_cons hlt, List.all_cons, hok]
        rfl
    refine useR (letter_spec _ _) fun w1 hg1 => ⟨_, rfl, br_ndec (fun h2 => ⟨by omega, h, br_ndec (fun h3 => br_dec (fun h4 => ?_) (fun h4 => ⟨by omega, h, useR (digit_spec _ _) fun w2 hg2 => ⟨_, rfl, br_ndec (fun h5 => ?_) (fun h5 => ?_)⟩⟩)) (fun h3 => ?_)⟩) (fun h2 => ?_)⟩
    · exact stop _ (hg.trans hg1) (by rw [if_pos (by omega)]; exact M.headB_f h2 (by omega))
    · exact stop _ ((hg.trans hg1).trans hg2) (by rw [if_neg (by omega)]; exact M.innerB_f h2 (by omega) h5)
    · exact next _ ((hg.trans hg1).trans hg2) (by rw [if_neg (by omega)]; exact M.innerB_t (.inr h5))
    · exact next _ (hg.trans hg1) (by split; exact M.headB_t (.inr (by omega)); exact M.innerB_t (.inl (.inr (by omega))))
    · exact next _ (hg.trans hg1) (by split; exact M.headB_t (.inl h2); exact M.innerB_t (.inl (.inl h2)))
  · have hk' : k = s.length := by omega
    subst hk'
    refine br_dec (fun h1 => ?_) (fun h1 => ?_)
    · refine Ret.bool ?_ hg
      rw [hf (by omega)]
      simp only [List.drop_length, List.all_nil, Bool.true_and]
      exact decide_eq_decide.2 (by omega)
    · refine Ret.bool ?_ hg
      have : s = [] := List.eq_nil_of_length_eq_zero (by omega)
      subst this
      rfl

end Go.Proofs.Ytpedoaeieabhoaa.V

/- Contracts: numbers (reference 1). -/
namespace Go.Proofs.Ytpedoaeieabhoaa.V
open Go Go.Vc Go.Proofs
open Go.Vc (Bytes)

theorem parse_spec (s : Bytes) (w : World) (hs : s.length < 4611686018427387904) :
    Calls P F_ref01_Parse #[.string (bs s)] w (Ret w (.tuple #[.int .i64 (M.parseNum s).1, .int .i64 (M.parseNum s).2])) := by
  refine ok_ref01_Parse _ ?_
  unfold vc_ref01_Parse
  refine ⟨fun b w' => b = decide (s.head? = some 45) ∧ w' = w, ?_, ?_⟩
  · refine br_dec (fun h => ⟨by omega, h, ?_, rfl⟩) (fun h => ⟨?_, rfl⟩)
    · obtain ⟨c, r, rfl⟩ : ∃ c r, s = c :: r := by cases s with
        | nil => simp at h
        | cons c r => exact ⟨c, r, rfl⟩
      rw [show byteAt (c :: r) (Int.toNat 0) = (c.toNat : Int) from rfl]
      refine decide_eq_decide.2 ⟨fun e => ?_, fun e => ?_⟩
      · rw [List.head?_cons, u8_eq (a := c) (b := 45) e]
      · rw [List.head?_cons] at e; cases e; rfl
    · have : s = [] := List.eq_nil_of_length_eq_zero (by omega)
      subst this
      rfl
  rintro below w1 ⟨hb, rfl⟩
  have hbl : below = true → 1 ≤ s.length := by
    intro h
    rw [h] at hb
    have := of_decide_eq_true hb.symm
    cases s with
    | nil => simp at this
    | cons => simp
  refine ⟨fun t w' => t = (if below = true then s.drop 1 else s) ∧ w' = w1, ?_, ?_⟩
  · refine br_intro (fun h => ⟨by omega, ?_, ?_, rfl⟩) (fun h => ⟨?_, rfl⟩)
    · have := hbl h; omega
    · rw [if_pos h]; rfl
    · rw [if_neg (by simp [h])]
  rintro t w2 ⟨ht, rfl⟩
  have htl : t.length < 4611686018427387904 := by rw [ht]; split; (have := List.length_drop (l := s) (i := 1); omega); exact hs
  have hmodel : M.parseNum s = (if t = [] then (0, 8)
      else if !M.allDigits t then (0, 33)
      else if decide (t.head? = some 48) && (below || decide (1 < t.length)) then (0, 33)
      else if below then (if M.digitsVal t ≤ 9223372036854775808 then (-(M.digitsVal t : Int), 0) else (0, 4))
      else if M.digitsVal t < 9223372036854775808 then ((M.digitsVal t : Int), 0) else (0, 4)) := by
    rw [ht, hb]; rfl
  rw [hmodel]
  clear hmodel ht hb hbl hs
  refine br_dec (fun h => ?_) (fun hne => ?_)
  · rw [if_pos h]; exact Ret.int2 rfl rfl (Grow.refl _)
  rw [if_neg hne]
  refine ⟨fun i n w' => ∃ j : Nat, i = j ∧ j ≤ t.length ∧ n = t.length - j ∧ M.allDigits t = M.allDigits (t.drop j) ∧ Grow w2 w', t.length, ⟨0, rfl, by omega, by omega, by simp, Grow.refl _⟩, ?_⟩
  rintro i n w3 ⟨j, rfl, hj, rfl, hf, hg⟩
  refine br_dec (fun h => ⟨by omega, h, ?_⟩) (fun h => ?_)
  · have hlt : j < t.length := by omega
    rw [Int.toNat_natCast, byteAt_eq t j hlt]
    refine useR (digit_spec _ _) fun w4 hg4 => ⟨_, rfl, br_ndec (fun h2 => ?_) (fun h2 => ?_)⟩
    · have : M.allDigits t = false := by
        rw [hf, drop_cons hlt, M.allDigits, List.all_cons, decide_eq_false h2]; rfl
      rw [this]
      exact Ret.int2 rfl rfl (hg.trans hg4)
    · refine ⟨inI64 (by omega) (by omega), t.length - (j + 1), by omega, j + 1, by omega, by omega, rfl, ?_, hg.trans hg4⟩
      rw [hf, drop_cons hlt, M.allDigits, List.all_cons, decide_eq_true h2]; rfl
  have had : M.allDigits t = true := by
    rw [hf, List.drop_eq_nil_of_le (by omega)]; rfl
  rw [had]
  simp only [Bool.not_true, Bool.false_eq_true, if_false]
  obtain ⟨c, r, rfl⟩ : ∃ c r, t = c :: r := by cases t with
    | nil => exact absurd rfl hne
    | cons c r => exact ⟨c, r, rfl⟩
  have hc48 : ((c.toNat : Int) = 48) ↔ c = 48 := ⟨fun e => u8_eq (b := 48) e, fun e => by rw [e]; rfl⟩
  simp only [List.head?_cons, Option.some.injEq]
  refine ⟨fun w' => Grow w2 w' ∧ (decide (c = 48) && (below || decide (1 < (c :: r).length))) = false, ?_, ?_⟩
  · refine ⟨by omega, by simp, ?_⟩
    rw [show byteAt (c :: r) (Int.toNat 0) = (c.toNat : Int) from rfl]
    refine br_dec (fun h1 => br_intro (fun h2 => ?_) (fun h2 => br_dec (fun h3 => ?_) (fun h3 => ⟨hg, ?_⟩))) (fun h1 => ⟨hg, ?_⟩)
    · rw [decide_eq_true (hc48.1 h1), h2]; exact Ret.int2 rfl rfl hg
    · rw [decide_eq_true (hc48.1 h1), decide_eq_true (p := 1 < (c :: r).length) (by omega), Bool.or_true]; exact Ret.int2 rfl rfl hg
    · rw [h2, decide_eq_false (p := 1 < (c :: r).length) (by omega)]; simp
    · rw [decide_eq_false (fun e => h1 (hc48.2 e))]; rfl
  rintro w4 ⟨hg4, hz⟩
  rw [hz]
  simp only [Bool.false_eq_true, if_false]
  generalize ht : (c :: r) = t at *
  refine br_dec (fun h1 => ?_) (fun h1 => ?_)
  · have hbig : 9223372036854775808 < M.digitsVal t := by
      refine M.dv_long had (fun d hd e => ?_) (by omega)
      rw [← ht, List.head?_cons] at hd
      cases hd
      rw [decide_eq_true (hc48.1 (by omega)), decide_eq_true (p := 1 < t.length) (by omega), Bool.or_true] at hz
      cases hz
    have : (if below = true then (if M.digitsVal t ≤ 9223372036854775808 then (-(M.digitsVal t : Int), (0 : Int)) else (0, 4)) else if M.digitsVal t < 9223372036854775808 then ((M.digitsVal t : Int), 0) else (0, 4)) = (0, 4) := by
      split <;> (rw [if_neg (by omega)])
    rw [this]
    exact Ret.int2 rfl rfl hg4
  have hdv := M.dv_short had (by omega)
  refine ⟨fun u i n w' => ∃ j : Nat, i = j ∧ j ≤ t.length ∧ n = t.length - j ∧ u = (M.dv 0 (t.take j) : Nat) ∧ Grow w2 w', t.length, ⟨0, rfl, by omega, by omega, by simp [M.dv], hg4⟩, ?_⟩
  rintro u i n w5 ⟨j, rfl, hj', rfl, rfl, hg5⟩
  refine br_dec (fun h2 => ⟨by omega, h2, ?_⟩) (fun h2 => ?_)
  · have hlt : j < t.length := by omega
    rw [Int.toNat_natCast, byteAt_eq t j hlt]
    have hdig : 48 ≤ (t[j]).toNat ∧ (t[j]).toNat ≤ 57 := by
      rw [M.allDigits, List.all_eq_true] at had
      exact of_decide_eq_true (had _ (List.getElem_mem hlt))
    have hstep : M.dv 0 (t.take (j + 1)) = M.dv 0 (t.take j) * 10 + ((t[j]).toNat - 48) := by
      rw [take_snoc hlt, M.dv, List.foldl_append]; rfl
    have hle : M.dv 0 (t.take (j + 1)) < 10000000000000000000 := by
      refine M.dv_short ?_ (by simp; omega)
      rw [M.allDigits, List.all_eq_true] at had ⊢
      exact fun c hc => had c (List.mem_of_mem_take hc)
    rw [M.wrap_u8 (by omega) (by omega), M.wrap_u64 (z := (M.dv 0 (t.take j) : Int) * 10) (by omega) (by omega)]
    refine ⟨⟨?_, ?_⟩, inI64 (by omega) (by omega), t.length - (j + 1), by omega, j + 1, by omega, by omega, rfl, ?_, hg5⟩
    · simp [IntKind.min, IntKind.signed]; omega
    · simp [IntKind.max, IntKind.signed, IntKind.bits]; omega
    · rw [M.wrap_u64 (by omega) (by omega), hstep]
      omega
  · have hje : j = t.length := by omega
    subst hje
    rw [List.take_length] at *
    have hv : M.dv 0 t = M.digitsVal t := rfl
    rw [hv] at *
    refine br_intro (fun h3 => ?_) (fun h3 => ?_) <;> simp only [h3, Bool.false_eq_true, if_true, if_false]
    · refine br_dec (fun h4 => ?_) (fun h4 => ?_)
      · rw [if_pos (by omega), M.wrap_neg (by omega) h4]; exact Ret.int2 rfl rfl hg5
      · rw [if_neg (by omega)]; exact Ret.int2 rfl rfl hg5
    · refine br_dec (fun h4 => ?_) (fun h4 => ?_)
      · rw [if_neg (by omega)]; exact Ret.int2 rfl rfl hg5
      · rw [if_pos (by omega), M.wrap_pos (by omega) (by omega)]; exact Ret.int2 rfl rfl hg5

end Go.Proofs.Ytpedoaeieabhoaa.V

/- Contracts: pieces and words (reference 18). -/
namespace Go.Proofs.Ytpedoaeieabhoaa.V
open Go Go.Vc Go.Proofs
open Go.Vc (Bytes)

theorem closes_spec (s : Bytes) {at_ : Int} (k : Nat) (ha : at_ = k) (w : World) (hk : k ≤ s.length) (hs : s.length < 4611686018427387904) :
    Calls P F_ref18_closes #[.string (bs s), .int .i64 at_] w (Ret w (.int .i64 (M.closesI s k))) := by
  subst ha
  refine ok_ref18_closes _ _ ?_
  unfold vc_ref18_closes
  refine ⟨fun i q n w' => ∃ (j f : Nat), i = j ∧ j ≤ s.length + 1 ∧ n = s.length + 1 - j ∧ s.length - j ≤ f ∧ M.closesI s k = M.optI j (M.closesF f (s.drop j) q) ∧ Grow w w', s.length + 1 - k, ⟨k, s.length - k, rfl, by omega, rfl, Nat.le_refl _, ?_, Grow.refl _⟩, ?_⟩
  · simp [M.closesI, M.closes]
  rintro i q n w' ⟨j, f, rfl, hj, rfl, hfu, hf, hg⟩
  refine br_dec (fun h => ?_) (fun h => ?_)
  · have hlt : j < s.length := by omega
    obtain ⟨f', rfl⟩ : ∃ f', f = f' + 1 := ⟨f - 1, by omega⟩
    have hd : s.drop j = s[j] :: s.drop (j + 1) := drop_cons hlt
    rw [Int.toNat_natCast, byteAt_eq s j hlt]
    have next : ∀ (w'' : World) (q' : Bool), Grow w w'' → M.closesF (f' + 1) (s.drop j) q = (M.closesF f' (s.drop (j + 1)) q').map (· + 1) → InI64 ((j : Int) + 1) ∧ ∃ m, m < s.length + 1 - j ∧ ∃ (j' f : Nat), (j : Int) + 1 = j' ∧ j' ≤ s.length + 1 ∧ m = s.length + 1 - j' ∧ s.length - j' ≤ f ∧ M.closesI s k = M.optI j' (M.closesF f (s.drop j') q') ∧ Grow w w'' := by
      intro w'' q' hg' he
      refine ⟨inI64 (by omega) (by omega), s.length + 1 - (j + 1), by omega, j + 1, f', by omega, by omega, rfl, by omega, ?_, hg'⟩
      rw [hf, he, M.optI_map]
    have quote : ∀ q', q' = q → ¬ (q = true ∧ (s[j]).toNat = 92) → (s[j]).toNat = 34 → M.closesF (f' + 1) (s.drop j) q = (M.closesF f' (s.drop (j + 1)) (!q')).map (· + 1) := by
      rintro q' rfl h1 h2
      rw [hd, M.closesF]; rw [if_neg h1, if_pos h2]
    have tail : ¬ (q = true ∧ (s[j]).toNat = 92) → ¬ (s[j]).toNat = 34 → br (!q) ((0 : Int) ≤ j ∧ (j : Int) ≤ s.length ∧ Calls P F_ref01_Begins #[Value.string (bs [125, 125]), Value.string (bs (s.drop j))] w' (fun (e_ : Ending) (w_1 : World) =>
              ∃ r : Bool, e_ = Ending.returned (Value.bool r) ∧ br r (Ret w (.int .i64 (M.closesI s k)) (Ending.returned (Value.int .i64 j)) w_1)
                (InI64 ((j : Int) + 1) ∧ ∃ m, m < s.length + 1 - j ∧ ∃ (j' f : Nat), (j : Int) + 1 = j' ∧ j' ≤ s.length + 1 ∧ m = s.length + 1 - j' ∧ s.length - j' ≤ f ∧ M.closesI s k = M.optI j' (M.closesF f (s.drop j') q) ∧ Grow w w_1)))
            (InI64 ((j : Int) + 1) ∧ ∃ m, m < s.length + 1 - j ∧ ∃ (j' f : Nat), (j : Int) + 1 = j' ∧ j' ≤ s.length + 1 ∧ m = s.length + 1 - j' ∧ s.length - j' ≤ f ∧ M.closesI s k = M.optI j' (M.closesF f (s.drop j') q) ∧ Grow w w') := by
      intro h1 h2
      refine br_not (fun hq => ⟨by omega, by omega, useR (begins_spec _ _ _) fun w1 hg1 => ⟨_, rfl, br_dec (fun h3 => Ret.int ?_ (hg.trans hg1)) (fun h3 => next _ _ (hg.trans hg1) ?_)⟩⟩) (fun hq => next _ _ hg ?_)
      · rw [hf, hd, M.closesF]; rw [if_neg h1, if_neg h2, if_pos ⟨hq, hd ▸ h3⟩]
        simp [M.optI]
      · rw [hd, M.closesF]; rw [if_neg h1, if_neg h2, if_neg (fun h4 => h3 (hd ▸ h4.2))]
      · rw [hd, M.closesF]; rw [if_neg h1, if_neg h2, if_neg (fun h4 => by rw [h4.1] at hq; cases hq)]
    refine br_intro (fun hq => ⟨by omega, h, br_dec (fun h2 => ?_) (fun h2 => ⟨by omega, h, br_dec (fun h3 => ?_) (fun h3 => ?_)⟩)⟩) (fun hq => ⟨by omega, h, br_dec (fun h3 => ?_) (fun h3 => ?_)⟩)
    · refine ⟨inI64 (by omega) (by omega), inI64 (by omega) (by omega), s.length + 1 - (j + 2), by omega, j + 2, f', by omega, by omega, rfl, by omega, ?_, hg⟩
      rw [hf, hd, M.closesF]; rw [if_pos ⟨hq, by omega⟩, List.drop_drop, M.optI_map]
    · exact next _ _ hg (quote _ rfl (fun h4 => by omega) (by omega))
    · exact tail (fun h4 => by omega) (by omega)
    · exact next _ _ hg (quote _ rfl (fun h4 => by rw [hq] at h4; cases h4.1) (by omega))
    · exact tail (fun h4 => by rw [hq] at h4; cases h4.1) (by omega)
  · refine Ret.int ?_ hg
    rw [hf, List.drop_eq_nil_of_le (by omega)]
    cases f <;> simp [M.closesF, M.optI]

theorem begin_spec (s : Bytes) {at_ : Int} (k : Nat) (ha : at_ = k) (w : World) :
    Calls P F_ref18_begin #[.string (bs s), .int .i64 at_] w (Ret w (.bool (M.beginB (s.drop k)))) := by
  subst ha
  refine ok_ref18_begin _ _ ?_
  unfold vc_ref18_begin
  refine br_dec (fun h => ⟨by omega, h, ?_⟩) (fun h => ?_)
  · have hlt : k < s.length := by omega
    rw [Int.toNat_natCast, byteAt_eq s k hlt, drop_cons hlt]
    refine useR (letter_spec _ _) fun w1 hg1 => ⟨_, rfl, br_dec (fun h2 => Ret.bool ?_ hg1) (fun h2 => ⟨by omega, h, Ret.bool ?_ hg1⟩)⟩
    · exact (M.headB_t (.inl h2)).symm
    · by_cases h3 : (s[k]).toNat = 95
      · rw [decide_eq_true (by omega)]; exact (M.headB_t (.inr h3)).symm
      · rw [decide_eq_false (by omega)]; exact (M.headB_f h2 h3).symm
  · refine Ret.bool ?_ (Grow.refl _)
    rw [List.drop_eq_nil_of_le (by omega)]
    rfl

theorem name18_spec (s : Bytes) {at_ : Int} (k : Nat) (ha : at_ = k) (w : World) (hs : s.length < 4611686018427387904) :
    Calls P F_ref18_name #[.string (bs s), .int .i64 at_] w (Ret w (.int .i64 (M.nameI s k))) := by
  subst ha
  refine ok_ref18_name _ _ ?_
  unfold vc_ref18_name
  refine useR (begin_spec s k rfl w) fun w1 hg1 => ⟨_, rfl, br_not (fun h => Ret.int ?_ hg1) (fun h => ?_)⟩
  · rw [M.nameI, M.nameLen_no h]; rfl
  obtain ⟨hlt, hh⟩ := M.begin_lt h
  have hne : M.nameLen (s.drop k) = M.spanL M.innerB (s.drop k) := by
    rw [drop_cons hlt, M.nameLen, if_pos hh, M.spanL, if_pos (M.innerB_head hh)]
  have hpos : M.nameI s k = ((k + M.spanL M.innerB (s.drop k) : Nat) : Int) := by
    rw [M.nameI, hne, if_neg]
    rw [drop_cons hlt, M.spanL, if_pos (M.innerB_head hh)]; omega
  rw [hpos]
  refine ⟨fun i n w' => ∃ j : Nat, i = j ∧ j ≤ s.length ∧ n = s.length - j ∧ k + M.spanL M.innerB (s.drop k) = j + M.spanL M.innerB (s.drop j) ∧ Grow w w', s.length - k, ⟨k, rfl, by omega, rfl, rfl, hg1⟩, ?_⟩
  rintro i n w' ⟨j, rfl, hj, rfl, hf, hg⟩
  refine br_dec (fun h2 => ?_) (fun h2 => ?_)
  · have hlt : j < s.length := by omega
    rw [Int.toNat_natCast, byteAt_eq s j hlt]
    have next : ∀ w'', Grow w w'' → M.innerB s[j] = true → InI64 ((j : Int) + 1) ∧ ∃ m, m < s.length - j ∧ ∃ j' : Nat, (j : Int) + 1 = j' ∧ j' ≤ s.length ∧ m = s.length - j' ∧ k + M.spanL M.innerB (s.drop k) = j' + M.spanL M.innerB (s.drop j') ∧ Grow w w'' := by
      intro w'' hw hin
      refine ⟨inI64 (by omega) (by omega), s.length - (j + 1), by omega, j + 1, by omega, by omega, rfl, ?_, hw⟩
      rw [hf, M.spanL_yes hlt hin]; omega
    refine useR (begin_spec s j rfl w') fun w2 hg2 => ⟨_, rfl, br_intro (fun h3 => ?_) (fun h3 => ⟨by omega, h2, ?_⟩)⟩
    · exact next _ (hg.trans hg2) (M.innerB_head (M.begin_lt h3).2)
    · rw [drop_cons hlt] at h3
      refine useR (digit_spec _ _) fun w3 hg3 => ⟨_, rfl, br_dec (fun h4 => ?_) (fun h4 => ?_)⟩
      · exact next _ ((hg.trans hg2).trans hg3) (M.innerB_digit h4)
      · refine Ret.int ?_ ((hg.trans hg2).trans hg3)
        rw [hf, M.spanL_no hlt (M.innerB_no h3 h4)]; rfl
  · refine Ret.int ?_ hg
    rw [hf, M.spanL_end (by omega)]; rfl

theorem dots_spec (s : Bytes) {at_ : Int} (k : Nat) (ha : at_ = k) (w : World) (hk : k ≤ s.length) (hs : s.length < 4611686018427387904) :
    Calls P F_ref18_dots #[.string (bs s), .int .i64 at_] w (Ret w (.tuple #[.int .i64 ((k + (M.dots (s.drop k)).1 : Nat) : Int), .int .i64 (M.dots (s.drop k)).2])) := by
  subst ha
  refine ok_ref18_dots _ _ ?_
  unfold vc_ref18_dots
  refine ⟨fun i n w' => ∃ j f : Nat, i = j ∧ j ≤ s.length ∧ n = s.length - j ∧ s.length - j ≤ f ∧ k + (M.dots (s.drop k)).1 = j + (M.dotsF f (s.drop j)).1 ∧ (M.dots (s.drop k)).2 = (M.dotsF f (s.drop j)).2 ∧ Grow w w', s.length - k, ⟨k, s.length - k, rfl, by omega, rfl, Nat.le_refl _, ?_, ?_, Grow.refl _⟩, ?_⟩
  · rw [M.dots, List.length_drop]
  · rw [M.dots, List.length_drop]
  rintro i n w' ⟨j, f, rfl, hj, rfl, hfu, hf, he, hg⟩
  refine ⟨fun w'' => w'' = w' ∧ j + 1 < s.length ∧ (s.drop j).head? = some 46, ⟨inI64 (by omega) (by omega), br_dec (fun h => ⟨by omega, by omega, ?_⟩) (fun h => ?_)⟩, ?_⟩
  · have hlt : j < s.length := by omega
    rw [Int.toNat_natCast, byteAt_eq s j hlt]
    refine br_dec (fun h2 => ⟨rfl, by omega, ?_⟩) (fun h2 => Ret.int2 ?_ ?_ hg)
    · rw [drop_cons hlt, List.head?_cons, u8_eq (b := 46) h2]
    all_goals
      have : M.dotsF f (s.drop j) = (0, 0) := by
        cases f with
        | zero => rfl
        | succ f =>
          rw [M.dotsF, if_neg]
          rintro ⟨_, h4⟩
          rw [drop_cons hlt, List.head?_cons] at h4
          exact h2 (by rw [Option.some.inj h4]; rfl)
      simp [hf, he, this]
  · have : M.dotsF f (s.drop j) = (0, 0) := by
      cases f with
      | zero => rfl
      | succ f =>
        rw [M.dotsF, if_neg]
        rintro ⟨h4, _⟩
        rw [List.length_drop] at h4
        omega
    refine Ret.int2 ?_ ?_ hg <;> simp [hf, he, this]
  · rintro w1 ⟨rfl, h1, h2⟩
    obtain ⟨f', rfl⟩ : ∃ f', f = f' + 1 := ⟨f - 1, by omega⟩
    have hde : M.dotsF (f' + 1) (s.drop j) = (if M.nameLen (s.drop (j + 1)) = 0 then (0, 33) else if 32 < M.nameLen (s.drop (j + 1)) then (0, 5) else (1 + M.nameLen (s.drop (j + 1)) + (M.dotsF f' (s.drop (j + (1 + M.nameLen (s.drop (j + 1)))))).1, (M.dotsF f' (s.drop (j + (1 + M.nameLen (s.drop (j + 1)))))).2)) := by
      rw [M.dotsF, if_pos ⟨by rw [List.length_drop]; omega, h2⟩]
      simp only [List.drop_drop]
    have hnl := M.nameLen_le (s.drop (j + 1))
    rw [List.length_drop] at hnl
    refine ⟨inI64 (by omega) (by omega), useR (name18_spec s (j + 1) (by omega) _ hs) fun w2 hg2 => ⟨_, rfl, ?_⟩⟩
    by_cases h0 : M.nameLen (s.drop (j + 1)) = 0
    · rw [M.nameI, if_pos h0]
      refine br_dec (fun _ => Ret.int2 ?_ ?_ (hg.trans hg2)) (fun h => absurd rfl h)
      · rw [hf, hde, if_pos h0]; rfl
      · rw [he, hde, if_pos h0]
    · rw [M.nameI, if_neg h0]
      refine br_dec (fun h => absurd h (by omega)) (fun _ => ⟨inI64 (by omega) (by omega), inI64 (by omega) (by omega), br_dec (fun h3 => Ret.int2 ?_ ?_ (hg.trans hg2)) (fun h3 => ?_)⟩)
      · rw [hf, hde, if_neg h0, if_pos (by omega)]; rfl
      · rw [he, hde, if_neg h0, if_pos (by omega)]
      · refine ⟨s.length - (j + 1 + M.nameLen (s.drop (j + 1))), by omega, j + 1 + M.nameLen (s.drop (j + 1)), f', by omega, by omega, rfl, by omega, ?_, ?_, hg.trans hg2⟩
        · rw [hf, hde, if_neg h0, if_neg (by omega)]; simp only [Nat.add_assoc]
        · rw [he, hde, if_neg h0, if_neg (by omega)]; simp only [Nat.add_assoc]

end Go.Proofs.Ytpedoaeieabhoaa.V

/- Contracts: words (reference 18). -/
namespace Go.Proofs.Ytpedoaeieabhoaa.V
open Go Go.Vc Go.Proofs
open Go.Vc (Bytes)

theorem str_spec (s : Bytes) {at_ : Int} (k : Nat) (ha : at_ = k) (w : World) (hk : k < s.length) (hs : s.length ≤ 1099511627776) :
    Calls P F_ref18_str #[.string (bs s), .int .i64 at_] w (Ret w (.tuple #[.string (bs (M.strM k (s.drop (k + 1)) (k + 1 : Nat) []).1), .int .i64 (M.strM k (s.drop (k + 1)) (k + 1 : Nat) []).2.1, .int .i64 (M.strM k (s.drop (k + 1)) (k + 1 : Nat) []).2.2.1, .int .i64 (M.strM k (s.drop (k + 1)) (k + 1 : Nat) []).2.2.2])) := by
  subst ha
  refine ok_ref18_str _ _ ?_
  unfold vc_ref18_str
  generalize hX : M.strM k (s.drop (k + 1)) (k + 1 : Nat) [] = X
  refine ⟨inI64 (by omega) (by omega), fun b i n w' => ∃ (j : Nat) (acc : Bytes), i = j ∧ j ≤ s.length ∧ n = s.length - j ∧ acc.length ≤ j ∧ Own w.heap.size w' b 1 (bytesV acc) ∧ X = M.strM k (s.drop j) j acc ∧ Grow w w', s.length - (k + 1), ⟨k + 1, [], by omega, by omega, rfl, by simp, Own.nil _ _ _, hX.symm, Grow.refl _⟩, ?_⟩
  rintro b i n w' ⟨j, acc, rfl, hj, rfl, hal, hO, hf, hg⟩
  have hlen : b.len = acc.length := by have := hO.len; rw [bytesV_length] at this; omega
  refine br_dec (fun h => ⟨by omega, h, ?_⟩) (fun h => ?_)
  · have hlt : j < s.length := by omega
    rw [Int.toNat_natCast, byteAt_eq s j hlt]
    have hd : s.drop j = s[j] :: s.drop (j + 1) := drop_cons hlt
    have app : ∀ (w1 w2 : World) (b1 : Nat) (v : UInt8) (j' : Nat), Grow w w1 → w1.heap.size ≤ b1 → LocB [b1] w1 w2 → Own w.heap.size w1 b 1 (bytesV acc) → j < j' → j' ≤ s.length → X = M.strM k (s.drop j') j' (acc ++ [v]) →
        ∃ old : List Value, AppPre w2 b 1 1 1 old ∧ (∀ ad, b.a = some ad → ad.block ≠ b1) ∧
            ∀ (s1 : Sl) (w3 : World), AppRes w2 b 1 T_uint8 [Value.int .u8 (v.toNat : Int)] 1 old s1 w3 →
            InI64 (j' : Int) ∧ ∃ m : Nat, m < s.length - j ∧ ∃ (j'' : Nat) (acc : Bytes), (j' : Int) = j'' ∧ j'' ≤ s.length ∧ m = s.length - j'' ∧ acc.length ≤ j'' ∧ Own w.heap.size w3 s1 1 (bytesV acc) ∧ X = M.strM k (s.drop j'') j'' acc ∧ Grow w w3 := by
      intro w1 w2 b1 v j' hg1 hb1 hL hO1 hj1 hj2 hX'
      have hg2 := hL.g1 hb1
      have hO2 := hO1.grow hg2
      refine ⟨_, hO2.pre (by omega), hO1.ne hb1, fun s1 w3 hr => ?_⟩
      have hgg := hg1.trans hg2
      obtain ⟨hO3, hG3, hl3⟩ := hO2.res hgg.size (by simp) hr
      refine ⟨inI64 (by omega) (by omega), s.length - j', by omega, j', acc ++ [v], rfl, hj2, rfl, by simp; omega, by rw [bytesV_snoc]; exact hO3, hX', hgg.then hG3.bel⟩
    refine br_dec (fun h1 => br_dec (fun h2 => ?_) (fun h2 => ?_)) (fun h1 => br_dec (fun h2 => ?_) (fun h2 => br_dec (fun h3 => ?_) (fun h3 => ?_)))
    · refine ⟨?_, hg⟩
      rw [hf, hd, M.strM_cons, if_pos (by omega), if_pos (by omega)]
    · refine ⟨acc, by simpa using hO.cells, inI64 (by omega) (by omega), ?_, hg⟩
      rw [hf, hd, M.strM_cons, if_pos (by omega), if_neg (by omega)]
    · refine ⟨?_, hg⟩
      rw [hf, hd, M.strM_cons, if_neg (by omega), if_pos (by omega)]
    · have hne : j + 1 < s.length → M.strM k (s.drop j) j acc = if M.escB (s.getD (j + 1) 0) then M.strM k (s.drop (j + 2)) (j + 2) (acc ++ [M.unesc (s.getD (j + 1) 0)]) else ([], 0, 33, (j : Int)) := by
        intro hl2
        rw [hd, M.strM_cons, if_neg (by omega), if_neg (by omega), if_pos (by omega), drop_cons hl2]
        simp [List.getD, hl2]
      refine ⟨fun w'' => Grow w w'' ∧ Own w.heap.size w'' b 1 (bytesV acc) ∧ j + 1 < s.length ∧ M.escB (s.getD (j + 1) 0) = true, ⟨inI64 (by omega) (by omega), br_dec (fun h4 => ?_) (fun h4 => ⟨inI64 (by omega) (by omega), by omega, by omega, ?_⟩)⟩, ?_⟩
      · refine ⟨?_, hg⟩
        rw [hf, hd, M.strM_cons, if_neg (by omega), if_neg (by omega), if_pos (by omega), List.drop_eq_nil_of_le (by omega)]
      · have hl2 : j + 1 < s.length := by omega
        have e : ((j : Int) + 1).toNat = j + 1 := by omega
        rw [e]
        have eb : byteAt s (j + 1) = ((s.getD (j + 1) 0).toNat : Int) := rfl
        rw [eb]
        refine useR (has_spec _ _ _ (by simp)) fun w1 hg1 => ⟨_, rfl, br_not (fun h5 => ⟨?_, hg.trans hg1⟩) (fun h5 => ⟨hg.trans hg1, hO.grow hg1, hl2, ?_⟩)⟩
        · rw [M.contains_esc] at h5
          rw [hf, hne hl2, h5]; rfl
        · rw [M.contains_esc] at h5; exact h5
      · rintro w1 ⟨hg1, hO1, hl2, hesc⟩
        have e : ((j : Int) + 1).toNat = j + 1 := by omega
        rw [e]
        have eb : byteAt s (j + 1) = ((s.getD (j + 1) 0).toNat : Int) := rfl
        rw [eb]
        have e2 : ((j : Int) + 1) + 1 = ((j + 2 : Nat) : Int) := by omega
        rw [e2]
        rw [hne hl2, if_pos hesc] at hf
        refine ⟨inI64 (by omega) (by omega), by omega, by omega, br_dec (fun h4 => fun b1 hb1 w2 hL => ?_) (fun h4 => br_dec (fun h5 => fun b1 hb1 w2 hL => ?_) (fun h5 => ⟨by omega, by omega, fun b1 hb1 w2 hL => ?_⟩))⟩
        · exact app w1 w2 b1 10 (j + 2) hg1 hb1 hL hO1 (by omega) (by omega) (by rw [hf, M.unesc, if_pos (by omega)]; simp)
        · exact app w1 w2 b1 9 (j + 2) hg1 hb1 hL hO1 (by omega) (by omega) (by rw [hf, M.unesc, if_neg (by omega), if_pos (by omega)]; simp)
        · exact app w1 w2 b1 (s.getD (j + 1) 0) (j + 2) hg1 hb1 hL hO1 (by omega) (by omega) (by rw [hf, M.unesc, if_neg (by omega), if_neg (by omega)]; simp)
    · intro b1 hb1 w2 hL
      have e2 : ((j : Int) + 1) = ((j + 1 : Nat) : Int) := by omega
      rw [e2]
      exact app w' w2 b1 s[j] (j + 1) hg hb1 hL hO (by omega) (by omega) (by rw [hf, hd, M.strM_cons, if_neg (by omega), if_neg (by omega), if_neg (by omega)]; simp)
  · refine ⟨?_, hg⟩
    rw [hf, List.drop_eq_nil_of_le (by omega), M.strM_nil]

end Go.Proofs.Ytpedoaeieabhoaa.V

/- Contracts: a word (reference 18). -/
namespace Go.Proofs.Ytpedoaeieabhoaa.V
open Go Go.Vc Go.Proofs
open Go.Vc (Bytes)

theorem word_spec (s : Bytes) {at_ : Int} (k : Nat) (ha : at_ = k) (w : World) (hk : k < s.length) (hs : s.length ≤ 1099511627776) :
    Calls P F_ref18_word #[.string (bs s), .int .i64 at_] w (Ret w (.tuple #[.agg #[.int .i64 (M.wordAt s k).kind, .string (bs (M.wordAt s k).text), .int .i64 0], .int .i64 (M.wordAt s k).to_, .int .i64 (M.wordAt s k).err, .int .i64 (M.wordAt s k).place])) := by
  subst ha
  refine ok_ref18_word _ _ ?_
  unfold vc_ref18_word
  have hd : s.drop k = s[k] :: s.drop (k + 1) := drop_cons hk
  intro b hb
  refine ⟨by omega, by omega, inI64 (by omega) (by omega), fun b1 hb1 => ?_⟩
  rw [Int.toNat_natCast, byteAt_eq s k hk]
  generalize hc : s[k] = c at *
  generalize hr : s.drop (k + 1) = r at *
  have hrl : r.length = s.length - (k + 1) := by rw [← hr, List.length_drop]
  have hplain : ¬ (c.toNat = 34 ∧ M.headB c = false) → M.wordAt s k = if (M.plainWord c r).2.2 ≠ 0 then ⟨(M.plainWord c r).1, [], 0, (M.plainWord c r).2.2, k⟩ else ⟨(M.plainWord c r).1, (c :: r).take (M.plainWord c r).2.1, k + (M.plainWord c r).2.1, 0, 0⟩ := by
    intro h
    rw [M.wordAt, hd]
    simp only
    rw [if_neg h]
  have hpl := M.plainWord_le c r
  refine ⟨fun n e kind w' => Grow w w' ∧ b < w'.heap.size ∧ b1 < w'.heap.size ∧ ¬ (c.toNat = 34 ∧ M.headB c = false) ∧ kind = (M.plainWord c r).1 ∧ e = (M.plainWord c r).2.2 ∧ (e = 0 → n = ((k + (M.plainWord c r).2.1 : Nat) : Int)), ?_, ?_⟩
  · intro w0 hL0
    have hg0 := hL0.g2 hb1 hb
    have hmb : b < w0.heap.size := hL0.mem b (by simp)
    have hmb1 : b1 < w0.heap.size := hL0.mem b1 (by simp)
    refine useR (begin_spec s k rfl w0) fun w1 hg1 => ⟨_, rfl, hg1.block _ hmb1, hg1.block _ hmb, ?_⟩
    have hb_1 := Nat.lt_of_lt_of_le hmb hg1.size
    have hb1_1 := Nat.lt_of_lt_of_le hmb1 hg1.size
    rw [hd, M.beginB]
    refine br_intro (fun h => ?_) (fun h => br_dec (fun h2 => ⟨inI64 (by omega) (by omega), fun w2 hL2 => ?_⟩) (fun h2 => br_dec (fun h3 => ⟨inI64 (by omega) (by omega), fun w2 hL2 => ?_⟩) (fun h3 => ?_)))
    · have hnl := M.nameLen_le (c :: r)
      have hnp : M.nameLen (c :: r) ≠ 0 := by rw [M.nameLen, if_pos h]; omega
      have hp : M.plainWord c r = (1, M.nameLen (c :: r), if 32 < M.nameLen (c :: r) then 5 else 0) := by rw [M.plainWord]; rw [if_pos h]
      refine useR (name18_spec s k rfl w1 (by omega)) fun w2 hg2 => ⟨_, rfl, hg2.block _ hb1_1, hg2.block _ hb_1, ?_⟩
      have hb_2 := Nat.lt_of_lt_of_le hb_1 hg2.size
      have hb1_2 := Nat.lt_of_lt_of_le hb1_1 hg2.size
      rw [M.nameI, hd, if_neg hnp]
      rw [List.length_cons] at hnl
      refine ⟨inI64 (by omega) (by omega), br_dec (fun h2 w3 hL3 => ?_) (fun h2 w3 hL3 => ?_)⟩
      all_goals
        have hgL : Grow w w3 := ((hg0.trans hg1).trans hg2).then (hL3.below ((hg0.trans hg1).trans hg2).size (by simpa using ⟨hb1, hb⟩))
        refine ⟨hgL, hL3.mem b (by simp), hL3.mem b1 (by simp), (fun h4 => by rw [h] at h4; cases h4.2), by rw [hp], ?_, fun _ => by rw [hp]⟩
        rw [hp]
        simp only
      · rw [if_pos (by omega)]
      · rw [if_neg (by omega)]
    · have hgL : Grow w w2 := (hg0.trans hg1).then (hL2.below (hg0.trans hg1).size (by simpa using ⟨hb1, hb⟩))
      have hb_2 := hL2.mem b (by simp)
      have hb1_2 := hL2.mem b1 (by simp)
      have hn34 : ¬ (c.toNat = 34 ∧ M.headB c = false) := fun h4 => by omega
      have hp : M.plainWord c r = if 0 < M.nameLen r then (2, (M.dots (c :: r)).1, (M.dots (c :: r)).2) else (2, 1, 0) := by
        rw [M.plainWord]; rw [if_neg (by simp [h]), if_pos (by omega)]
      refine useR (begin_spec s (k + 1) (by omega) w2) fun w3 hg3 => ⟨_, rfl, hg3.block _ hb1_2, hg3.block _ hb_2, ?_⟩
      have hb_3 := Nat.lt_of_lt_of_le hb_2 hg3.size
      have hb1_3 := Nat.lt_of_lt_of_le hb1_2 hg3.size
      rw [hr, M.nameLen_pos]
      refine br_dec (fun h3 => ?_) (fun h3 => ?_)
      · refine useR (dots_spec s k rfl w3 (by omega) (by omega)) fun w4 hg4 => ⟨_, _, rfl, hg4.block _ hb1_3, hg4.block _ hb_3, ?_⟩
        rw [hd]
        refine ⟨(hgL.trans hg3).trans hg4, Nat.lt_of_lt_of_le hb_3 hg4.size, Nat.lt_of_lt_of_le hb1_3 hg4.size, hn34, ?_, ?_, fun _ => ?_⟩ <;> rw [hp, if_pos h3]
      · refine ⟨hgL.trans hg3, hb_3, hb1_3, hn34, ?_, ?_, fun _ => ?_⟩ <;> rw [hp, if_neg h3]
        rfl
    · have hgL : Grow w w2 := (hg0.trans hg1).then (hL2.below (hg0.trans hg1).size (by simpa using ⟨hb1, hb⟩))
      have hb_2 := hL2.mem b (by simp)
      have hb1_2 := hL2.mem b1 (by simp)
      have hn34 : ¬ (c.toNat = 34 ∧ M.headB c = false) := fun h4 => by omega
      have hp : M.plainWord c r = if 32 < M.nameLen r then (3, 1 + M.nameLen r, 5) else (3, 1 + M.nameLen r + (M.dots (r.drop (M.nameLen r))).1, (M.dots (r.drop (M.nameLen r))).2) := by
        rw [M.plainWord]; rw [if_neg (by simp [h]), if_neg (by omega), if_pos (by omega)]
      have hnl := M.nameLen_le r
      refine useR (name18_spec s (k + 1) (by omega) w2 (by omega)) fun w3 hg3 => ⟨_, rfl, hg3.block _ hb1_2, hg3.block _ hb_2, ?_⟩
      have hb_3 := Nat.lt_of_lt_of_le hb_2 hg3.size
      have hb1_3 := Nat.lt_of_lt_of_le hb1_2 hg3.size
      have hdd : s.drop (k + 1 + M.nameLen r) = r.drop (M.nameLen r) := by rw [← hr, List.drop_drop]
      have fin : ∀ (w4 : World) (p : Int), ¬ 32 < M.nameLen r → p = ((k + 1 + M.nameLen r : Nat) : Int) → Grow w w4 → b < w4.heap.size → b1 < w4.heap.size → Calls P F_ref18_dots #[Value.string (bs s), Value.int .i64 p] w4 (fun (e_5 : Ending) (w_10 : World) =>
                      ∃ r6 : Int, ∃ r7 : Int, e_5 = Ending.returned (Value.tuple #[Value.int .i64 r6, Value.int .i64 r7]) ∧ w_10.heap[b1]? = w4.heap[b1]? ∧ w_10.heap[b]? = w4.heap[b]? ∧
                      (Grow w w_10 ∧ b < w_10.heap.size ∧ b1 < w_10.heap.size ∧ ¬ (c.toNat = 34 ∧ M.headB c = false) ∧ (3 : Int) = (M.plainWord c r).1 ∧ r7 = (M.plainWord c r).2.2 ∧ (r7 = 0 → r6 = ((k + (M.plainWord c r).2.1 : Nat) : Int)))) := by
        intro w4 p h32 hpe hg4 hm hm1
        refine useR (dots_spec s _ hpe w4 (by omega) (by omega)) fun w5 hg5 => ⟨_, _, rfl, hg5.block _ hm1, hg5.block _ hm, hg4.trans hg5, Nat.lt_of_lt_of_le hm hg5.size, Nat.lt_of_lt_of_le hm1 hg5.size, hn34, ?_, ?_, fun _ => ?_⟩ <;> rw [hp, if_neg h32]
        · rw [hdd]
        · rw [hdd]; simp only [Nat.add_assoc]
      by_cases h0 : M.nameLen r = 0
      · rw [M.nameI, hr, if_pos h0]
        refine br_dec (fun h4 => absurd h4 (by omega)) (fun _ => br_dec (fun _ => ?_) (fun h5 => absurd rfl h5))
        exact fin w3 _ (by omega) (by omega) (hgL.trans hg3) hb_3 hb1_3
      · rw [M.nameI, hr, if_neg h0]
        refine br_dec (fun _ => ⟨inI64 (by omega) (by omega), inI64 (by omega) (by omega), br_dec (fun h4 => br_dec (fun h5 => absurd h5 (by omega)) (fun _ => ?_)) (fun h4 => br_dec (fun _ => ?_) (fun h5 => absurd rfl h5))⟩) (fun h4 => absurd h4 (by omega))
        · refine ⟨hgL.trans hg3, hb_3, hb1_3, hn34, ?_, ?_, fun h6 => absurd h6 (by omega)⟩ <;> rw [hp, if_pos (by omega)]
        · exact fin w3 _ (by omega) (by omega) (hgL.trans hg3) hb_3 hb1_3
    · have digits : ∀ (w2 : World) (J1 : Int → World → Prop), Grow w w2 → b < w2.heap.size → b1 < w2.heap.size →
          (∀ w3, Grow w w3 → b < w3.heap.size → b1 < w3.heap.size → J1 ((k + 1 + M.spanL (fun c => decide (M.Digit c)) r : Nat) : Int) w3) →
          ∀ w_19 : World, LocB [b1, b] w2 w_19 →
                    ∃ (J4 : Int → Nat → World → Prop) (n₀1 : Nat), J4 ((k : Int) + 1) n₀1 w_19 ∧
                    ∀ n4 : Int, ∀ (n3 : Nat) (w_20 : World), J4 n4 n3 w_20 →
                    br (decide (n4 < (s.length : Int)))
                      ((0 : Int) ≤ n4 ∧ n4 < (s.length : Int) ∧
                      Calls P F_ref01_Digit #[Value.int .u8 (byteAt s n4.toNat)] w_20 (fun (e_11 : Ending) (w_21 : World) =>
                        ∃ r16 : Bool, e_11 = Ending.returned (Value.bool r16) ∧ w_21.heap[b1]? = w_20.heap[b1]? ∧ w_21.heap[b]? = w_20.heap[b]? ∧
                        br r16
                          (InI64 (n4 + 1) ∧
                          ∃ m1 : Nat, m1 < n3 ∧ J4 (n4 + 1) m1 w_21)
                          (J1 n4 w_21)))
                      (J1 n4 w_20) := by
        intro w2 J1 hg2 hm hm1 hJ w3 hL3
        have hgL : Grow w w3 := hg2.then (hL3.below hg2.size (by simpa using ⟨hb1, hb⟩))
        refine ⟨fun i n w' => ∃ j : Nat, i = j ∧ j ≤ s.length ∧ n = s.length - j ∧ k + 1 + M.spanL (fun c => decide (M.Digit c)) r = j + M.spanL (fun c => decide (M.Digit c)) (s.drop j) ∧ Grow w w' ∧ b < w'.heap.size ∧ b1 < w'.heap.size, s.length - (k + 1), ⟨k + 1, by omega, by omega, rfl, by rw [hr], hgL, hL3.mem b (by simp), hL3.mem b1 (by simp)⟩, ?_⟩
        rintro i n w' ⟨j, rfl, hj, rfl, hf, hg', hm', hm1'⟩
        refine br_dec (fun h4 => ⟨by omega, h4, ?_⟩) (fun h4 => ?_)
        · have hlt : j < s.length := by omega
          rw [Int.toNat_natCast, byteAt_eq s j hlt]
          refine useR (digit_spec _ _) fun w4 hg4 => ⟨_, rfl, hg4.block _ hm1', hg4.block _ hm', br_dec (fun h5 => ?_) (fun h5 => ?_)⟩
          · refine ⟨inI64 (by omega) (by omega), s.length - (j + 1), by omega, j + 1, by omega, by omega, rfl, ?_, hg'.trans hg4, Nat.lt_of_lt_of_le hm' hg4.size, Nat.lt_of_lt_of_le hm1' hg4.size⟩
            rw [hf, M.spanL_yes hlt (decide_eq_true h5)]; omega
          · rw [M.spanL_no hlt (decide_eq_false h5)] at hf
            have := hJ w4 (hg'.trans hg4) (Nat.lt_of_lt_of_le hm' hg4.size) (Nat.lt_of_lt_of_le hm1' hg4.size)
            rw [hf] at this
            exact this
        · rw [M.spanL_end (by omega)] at hf
          have := hJ w' hg' hm' hm1'
          rw [hf] at this
          exact this
      have hsp := M.spanL_le (fun c => decide (M.Digit c)) r
      have number : (c.toNat = 45 ∨ M.Digit c) → ∀ (w_22 : World), (Grow w w_22 ∧ b < w_22.heap.size ∧ b1 < w_22.heap.size) → ∀ n5 : Int, n5 = ((k + 1 + M.spanL (fun c => decide (M.Digit c)) r : Nat) : Int) →
                  (0 : Int) ≤ k ∧ (k : Int) ≤ n5 ∧ n5 ≤ (s.length : Int) ∧
                  Calls P F_ref01_Parse #[Value.string (bs ((s.take n5.toNat).drop k))] w_22 (fun (e_12 : Ending) (w_23 : World) =>
                    ∃ r17 : Int, ∃ r18 : Int, e_12 = Ending.returned (Value.tuple #[Value.int .i64 r17, Value.int .i64 r18]) ∧ w_23.heap[b1]? = w_22.heap[b1]? ∧ w_23.heap[b]? = w_22.heap[b]? ∧
                    br (decide (r18 = 4))
                      (Grow w w_23 ∧ b < w_23.heap.size ∧ b1 < w_23.heap.size ∧ ¬ (c.toNat = 34 ∧ M.headB c = false) ∧ (4 : Int) = (M.plainWord c r).1 ∧ (4 : Int) = (M.plainWord c r).2.2 ∧ ((4 : Int) = 0 → n5 = ((k + (M.plainWord c r).2.1 : Nat) : Int)))
                      (br (!decide (r18 = 0))
                        (Grow w w_23 ∧ b < w_23.heap.size ∧ b1 < w_23.heap.size ∧ ¬ (c.toNat = 34 ∧ M.headB c = false) ∧ (4 : Int) = (M.plainWord c r).1 ∧ (33 : Int) = (M.plainWord c r).2.2 ∧ ((33 : Int) = 0 → n5 = ((k + (M.plainWord c r).2.1 : Nat) : Int)))
                        (Grow w w_23 ∧ b < w_23.heap.size ∧ b1 < w_23.heap.size ∧ ¬ (c.toNat = 34 ∧ M.headB c = false) ∧ (4 : Int) = (M.plainWord c r).1 ∧ (0 : Int) = (M.plainWord c r).2.2 ∧ ((0 : Int) = 0 → n5 = ((k + (M.plainWord c r).2.1 : Nat) : Int))))) := by
        rintro hcd w4 ⟨hg4, hm4, hm14⟩ n5 rfl
        have hn34 : ¬ (c.toNat = 34 ∧ M.headB c = false) := fun h4 => by unfold M.Digit at hcd; omega
        have hp : M.plainWord c r = (4, 1 + M.spanL (fun c => decide (M.Digit c)) r, M.numErr (c :: r.take (M.spanL (fun c => decide (M.Digit c)) r))) := by
          rw [M.plainWord]; rw [if_neg (by simp [h]), if_neg (by omega), if_neg (by omega), if_pos hcd]
        refine ⟨by omega, by omega, by omega, ?_⟩
        have htx : (s.take ((((k + 1 + M.spanL (fun c => decide (M.Digit c)) r : Nat) : Int)).toNat)).drop k = c :: r.take (M.spanL (fun c => decide (M.Digit c)) r) := by
          rw [Int.toNat_natCast, List.drop_take, hd]
          rw [show k + 1 + M.spanL (fun c => decide (M.Digit c)) r - k = M.spanL (fun c => decide (M.Digit c)) r + 1 by omega, List.take_succ_cons]
        rw [htx]
        refine useR (parse_spec _ _ (by simp; omega)) fun w5 hg5 => ⟨_, _, rfl, hg5.block _ hm14, hg5.block _ hm4, ?_⟩
        have e1 := hg4.trans hg5
        have e2 := Nat.lt_of_lt_of_le hm4 hg5.size
        have e3 := Nat.lt_of_lt_of_le hm14 hg5.size
        refine br_dec (fun h4 => ⟨e1, e2, e3, hn34, by rw [hp], ?_, fun _ => by rw [hp]; simp only [Nat.add_assoc]⟩) (fun h4 => br_ndec (fun h5 => ⟨e1, e2, e3, hn34, by rw [hp], ?_, fun _ => by rw [hp]; simp only [Nat.add_assoc]⟩) (fun h5 => ⟨e1, e2, e3, hn34, by rw [hp], ?_, fun _ => by rw [hp]; simp only [Nat.add_assoc]⟩))
        all_goals
          rw [hp]
          simp only [M.numErr]
        · rw [if_pos h4]
        · rw [if_neg h4, if_pos h5]
        · rw [if_neg h4, if_neg (by simpa using h5)]
      refine br_dec (fun h4 => ?_) (fun h4 => ?_)
      · refine ⟨fun n w' => n = ((k + 1 + M.spanL (fun c => decide (M.Digit c)) r : Nat) : Int) ∧ Grow w w' ∧ b < w'.heap.size ∧ b1 < w'.heap.size, digits w1 _ (hg0.trans hg1) hb_1 hb1_1 (fun w3 q1 q2 q3 => ⟨rfl, q1, q2, q3⟩), ?_⟩
        rintro n w' ⟨hn, hw⟩
        exact number (.inl (by omega)) w' hw n hn
      · refine useR (digit_spec _ _) fun w2 hg2 => ⟨_, rfl, hg2.block _ hb1_1, hg2.block _ hb_1, ?_⟩
        have hgw2 := (hg0.trans hg1).trans hg2
        have hb_2 := Nat.lt_of_lt_of_le hb_1 hg2.size
        have hb1_2 := Nat.lt_of_lt_of_le hb1_1 hg2.size
        refine br_dec (fun h5 => ?_) (fun h5 => br_dec (fun h6 => ?_) (fun h6 => ⟨by omega, by omega, ?_⟩))
        · refine ⟨fun n w' => n = ((k + 1 + M.spanL (fun c => decide (M.Digit c)) r : Nat) : Int) ∧ Grow w w' ∧ b < w'.heap.size ∧ b1 < w'.heap.size, digits w2 _ hgw2 hb_2 hb1_2 (fun w3 q1 q2 q3 => ⟨rfl, q1, q2, q3⟩), ?_⟩
          rintro n w' ⟨hn, hw⟩
          exact number (.inr h5) w' hw n hn
        · have hx : M.wordAt s k = ⟨5, (M.strM k r (k + 1 : Nat) []).1, (M.strM k r (k + 1 : Nat) []).2.1, (M.strM k r (k + 1 : Nat) []).2.2.1, (M.strM k r (k + 1 : Nat) []).2.2.2⟩ := by
            rw [M.wordAt, hd]; simp only; rw [if_pos ⟨by omega, h⟩]; rfl
          have hstr := str_spec s k rfl w2 hk hs
          rw [hr] at hstr
          refine useR hstr fun w3 hg3 => ⟨_, _, _, _, rfl, hg3.block _ hb1_2, hg3.block _ hb_2, fun w4 hL4 => ?_⟩
          have hgL : Grow w w4 := (hgw2.trans hg3).then (hL4.below (hgw2.trans hg3).size (by simpa using ⟨hb1, hb⟩))
          rw [hx]
          exact ⟨rfl, hgL⟩
        · have hn34 : ¬ (c.toNat = 34 ∧ M.headB c = false) := fun h4 => by omega
          have hp : M.plainWord c r = if [58, 61] <+: (c :: r) then (6, 2, 0) else if c.toNat ≠ 124 then (6, 1, 33) else (6, 1, 0) := by
            rw [M.plainWord]; rw [if_neg (by simp [h]), if_neg (by omega), if_neg (by omega), if_neg (fun q => q.elim (fun q => h4 (by omega)) h5)]
          refine useR (begins_spec _ _ _) fun w3 hg3 => ⟨_, rfl, hg3.block _ hb1_2, hg3.block _ hb_2, ?_⟩
          have q1 := hgw2.trans hg3
          have q2 := Nat.lt_of_lt_of_le hb_2 hg3.size
          have q3 := Nat.lt_of_lt_of_le hb1_2 hg3.size
          refine br_dec (fun h7 => ⟨inI64 (by omega) (by omega), q1, q2, q3, hn34, ?_, ?_, fun _ => ?_⟩) (fun h7 => br_ndec (fun h8 => ⟨q1, q2, q3, hn34, ?_, ?_, fun h9 => absurd h9 (by omega)⟩) (fun h8 => ⟨q1, q2, q3, hn34, ?_, ?_, fun _ => ?_⟩))
          all_goals rw [hp]
          all_goals first
            | (rw [if_pos h7]; done)
            | (rw [if_pos h7]; rfl)
            | (rw [if_neg h7, if_pos (by omega)]; done)
            | (rw [if_neg h7, if_neg (by omega)]; done)
            | (rw [if_neg h7, if_neg (by omega)]; rfl)
  · rintro n e kind w0 ⟨hg0, hm, hm1, hn34, rfl, rfl, hn⟩
    rw [hplain hn34]
    refine br_ndec (fun h w1 hL1 => ?_) (fun h => ⟨by omega, ?_, ?_, fun w1 hL1 => ?_⟩)
    · have hgL : Grow w w1 := hg0.then (hL1.below hg0.size (by simpa using ⟨hb1, hb⟩))
      rw [if_pos h]
      exact ⟨rfl, hgL⟩
    · rw [hn h]; omega
    · rw [hn h]; rw [List.length_cons] at hpl; omega
    · have hgL : Grow w w1 := hg0.then (hL1.below hg0.size (by simpa using ⟨hb1, hb⟩))
      rw [if_neg (by simpa using h), hn h]
      refine ⟨?_, hgL⟩
      have : (s.take (((k + (M.plainWord c r).2.1 : Nat) : Int)).toNat).drop k = (c :: r).take (M.plainWord c r).2.1 := by
        rw [Int.toNat_natCast, List.drop_take, hd, Nat.add_sub_cancel_left]
      rw [this]
      simp only [Int.natCast_add]

end Go.Proofs.Ytpedoaeieabhoaa.V

/- Contracts: words (reference 18). -/
namespace Go.Proofs.Ytpedoaeieabhoaa.V
open Go Go.Vc Go.Proofs
open Go.Vc (Bytes)

theorem words_spec (s : Bytes) (base : Int) (w : World) (hb0 : 0 ≤ base) (hb1 : base ≤ 1099511627776) (hs : s.length ≤ 1099511627776) :
    Calls P F_ref18_Words #[.string (bs s), .int .i64 base] w (fun e w' => ∃ sl : Sl, e = .returned (.tuple #[.slice sl.a sl.len sl.cap, .int .i64 (M.words s base).2.1, .int .i64 (M.words s base).2.2]) ∧ Own w.heap.size w' sl 3 (M.wsV (M.words s base).1) ∧ Grow w w') := by
  refine ok_ref18_Words _ _ ?_
  unfold vc_ref18_Words
  have hsp := M.spanL_le M.blankB s
  refine useR (skip_spec s 0 rfl w (by omega) (by omega)) fun w1 hg1 => ⟨_, rfl, ?_⟩
  refine ⟨fun out i n w' => ∃ (j f : Nat) (acc : List M.W), i = j ∧ j ≤ s.length ∧ n = s.length - j ∧ n ≤ f ∧ acc.length ≤ j ∧ M.words s base = M.wordsF s base f j acc ∧ Own w.heap.size w' out 3 (M.wsV acc) ∧ Grow w w', s.length - M.spanL M.blankB s, ⟨M.spanL M.blankB s, s.length, [], by simp, hsp, rfl, by omega, by simp, rfl, Own.nil _ _ _, hg1⟩, ?_⟩
  rintro out i n w' ⟨j, f, acc, rfl, hj, rfl, hf, hal, hm, hO, hg⟩
  refine br_dec (fun h => ?_) (fun h => ?_)
  · have hlt : j < s.length := by omega
    obtain ⟨f', rfl⟩ : ∃ f', f = f' + 1 := ⟨f - 1, by omega⟩
    rw [M.wordsF, if_pos hlt] at hm
    have hok := M.wordAt_ok s j hlt
    generalize hX : M.wordAt s j = X at *
    have hw := word_spec s j rfl w' hlt hs
    rw [hX] at hw
    refine useR hw fun w2 hg2 => ⟨_, _, _, _, _, _, rfl, fun b hb => br_ndec (fun h2 => ⟨inI64 (by omega) (by omega), fun w3 hL => ?_⟩) (fun h2 => ⟨inI64 (by omega) (by omega), fun b1 hb1 w3 hL => ?_⟩)⟩
    · rw [if_pos h2] at hm
      rw [hm]
      exact ⟨⟨none, 0, 0⟩, rfl, Own.nil _ _ _, (hg.trans hg2).trans (hL.g1 hb)⟩
    · rw [if_neg (by simpa using h2)] at hm
      obtain ⟨m, hm1, hm2, hm3⟩ := hok.1 h2
      have hO2 := hO.grow hg2
      have hg3 := hL.g2 hb1 hb
      have hO3 := hO2.grow hg3
      have hgg := (hg.trans hg2).trans hg3
      have hlen : out.len = acc.length := by have := hO.len; rw [M.wsV_length] at this; omega
      refine ⟨_, hO3.pre (by omega), hO2.ne hb1, hO2.ne hb, fun s1 w4 hr => ?_⟩
      obtain ⟨hO4, hG4, hl4⟩ := hO3.res hgg.size (by simp) hr
      have hmb := hL.mem b (by simp)
      have hmb1 := hL.mem b1 (by simp)
      have hs4 := hG4.size
      rw [hm1] at hm ⊢
      rw [Int.toNat_natCast] at hm
      have hsp2 := M.spanL_drop_le M.blankB s m hm3
      refine useR (skip_spec s m rfl w4 hm3 (by omega)) fun w5 hg5 => ⟨_, rfl, hg5.block _ (by omega), hg5.block _ (by omega), ?_⟩
      refine ⟨s.length - (m + M.spanL M.blankB (s.drop m)), by omega, m + M.spanL M.blankB (s.drop m), f', acc ++ [⟨X.kind, X.text, base + j⟩], rfl, hsp2, rfl, by omega, by simp; omega, hm, ?_, (hgg.and hG4.bel).trans hg5⟩
      rw [M.wsV_snoc]
      exact hO4.grow hg5
  · refine ⟨out, ?_, ?_, hg⟩
    · have : M.words s base = (acc, base, 0) := by
        rw [hm]
        cases f with
        | zero => rfl
        | succ f => rw [M.wordsF, if_neg (by omega)]
      rw [this]
    · have : M.words s base = (acc, base, 0) := by
        rw [hm]
        cases f with
        | zero => rfl
        | succ f => rw [M.wordsF, if_neg (by omega)]
      rw [this]
      exact hO

end Go.Proofs.Ytpedoaeieabhoaa.V

/- Contracts: pieces (reference 18). -/
namespace Go.Proofs.Ytpedoaeieabhoaa.V
open Go Go.Vc Go.Proofs
open Go.Vc (Bytes)

theorem imin_nat (a b : Nat) : imin (a : Int) (b : Int) = ((min a b : Nat) : Int) := by unfold imin; split <;> omega

theorem items_spec (s : Bytes) (w : World) :
    Calls P F_ref18_Items #[.string (bs s)] w (fun e w' => ∃ sl : Sl, e = .returned (.tuple #[.slice sl.a sl.len sl.cap, .int .i64 (M.items s).2.1, .int .i64 (M.items s).2.2]) ∧ Own w.heap.size w' sl 3 (M.wsV (M.items s).1) ∧ Grow w w') := by
  refine ok_ref18_Items _ ?_
  unfold vc_ref18_Items
  refine br_dec (fun h => ?_) (fun hs => ?_)
  · have : M.items s = ([], 0, 5) := by rw [M.items, if_pos (by omega)]
    rw [this]
    exact ⟨⟨none, 0, 0⟩, rfl, Own.nil _ _ _, Grow.refl _⟩
  have hI : M.items s = M.itemsF s (s.length + 1) [] [] 0 false 0 := by rw [M.items, if_neg (by omega)]
  refine ⟨fun out text place w' => ∃ acc : List M.W, acc.length ≤ 2 * s.length ∧ M.items s = (M.put1 acc text place, (s.length : Int), 0) ∧ Own w.heap.size w' out 3 (M.wsV acc) ∧ Grow w w', ?_, ?_⟩
  · refine ⟨fun out text place trim i n w' => ∃ (j f : Nat) (acc : List M.W), i = j ∧ j ≤ s.length ∧ n = s.length + 1 - j ∧ n ≤ f ∧ acc.length ≤ 2 * j ∧ text.length ≤ j ∧ M.items s = M.itemsF s f acc text place trim j ∧ Own w.heap.size w' out 3 (M.wsV acc) ∧ Grow w w', s.length + 1, ⟨0, s.length + 1, [], rfl, by omega, by omega, by omega, by simp, by simp, hI, Own.nil _ _ _, Grow.refl _⟩, ?_⟩
    rintro out text place trim i n w1 ⟨j, f, acc, rfl, hj, rfl, hf, hal, htl, hm, hO, hg⟩
    refine br_dec (fun _ => ⟨by omega, by omega, ?_⟩) (fun h => absurd h (by omega))
    obtain ⟨f', rfl⟩ : ∃ f', f = f' + 1 := ⟨f - 1, by omega⟩
    have hOlen : out.len = acc.length := by have := hO.len; rw [M.wsV_length] at this; omega
    rw [Int.toNat_natCast]
    refine useR (find_spec _ _ _ (by rw [List.length_drop]; omega) (by simp)) fun w2 hg2 => ⟨_, rfl, ?_⟩
    -- what the place of the next action is
    have hopen : ∃ open_ : Nat, j ≤ open_ ∧ open_ ≤ s.length ∧ ((M.find [123, 123] (s.drop j) = none ∧ open_ = s.length ∧ M.findI [123, 123] (s.drop j) = -1) ∨ ∃ m, M.find [123, 123] (s.drop j) = some m ∧ open_ = j + m ∧ open_ + 2 ≤ s.length ∧ M.findI [123, 123] (s.drop j) = (m : Int)) := by
      cases hfd : M.find [123, 123] (s.drop j) with
      | none => exact ⟨s.length, hj, Nat.le_refl _, .inl ⟨rfl, rfl, by simp [M.findI, hfd]⟩⟩
      | some m =>
        have := M.find_le hfd
        rw [List.length_drop] at this
        simp at this
        exact ⟨j + m, by omega, by omega, .inr ⟨m, rfl, rfl, by omega, by simp [M.findI, hfd]⟩⟩
    obtain ⟨open_, ho1, ho2, hcase⟩ := hopen
    refine ⟨inI64 (by rcases hcase with ⟨_, _, h⟩ | ⟨m, _, _, _, h⟩ <;> omega) (by rcases hcase with ⟨_, _, h⟩ | ⟨m, _, _, _, h⟩ <;> omega), fun o w' => o = open_ ∧ Grow w2 w', br_dec (fun h => ⟨?_, Grow.refl _⟩) (fun h => ⟨?_, Grow.refl _⟩), ?_⟩
    · rcases hcase with ⟨_, h1, h2⟩ | ⟨m, _, _, _, h2⟩ <;> omega
    · rcases hcase with ⟨_, h1, h2⟩ | ⟨m, _, _, _, h2⟩ <;> omega
    rintro _ w3 ⟨rfl, hg3⟩
    refine ⟨fun o w' => o = (M.fromAt s trim j open_ : Nat) ∧ Grow w3 w', br_intro (fun h => ?_) (fun h => ?_), ?_⟩
    · refine useR (skip_spec s j rfl w3 hj (by omega)) fun w4 hg4 => ⟨_, rfl, ?_, hg4⟩
      rw [imin_nat, M.fromAt, if_pos h]
    · refine ⟨?_, Grow.refl _⟩
      rw [M.fromAt, if_neg (by simp [h])]
    rintro _ w4 ⟨rfl, hg4⟩
    have hfa := M.fromAt_le (s := s) (trim := trim) ho1
    generalize hfr : M.fromAt s trim j open_ = from_ at *
    have hgl := M.gather_len (s := s) (text := text) (place := place) (from_ := from_) ho2
    refine ⟨fun t p w' => t = (M.gather s text place from_ open_).1 ∧ p = (M.gather s text place from_ open_).2 ∧ Grow w4 w', br_dec (fun h => br_dec (fun h2 => ⟨by omega, by omega, by omega, ?_, ?_⟩) (fun h2 => ⟨by omega, by omega, by omega, ?_, ?_⟩)) (fun h => ?_), ?_⟩
    · simp only [List.length_drop, List.length_take, Int.toNat_natCast]; omega
    · rw [M.gather, if_pos (by omega), if_pos h2]; exact ⟨rfl, rfl, Grow.refl _⟩
    · simp only [List.length_drop, List.length_take, Int.toNat_natCast]; omega
    · rw [M.gather, if_pos (by omega), if_neg h2]; exact ⟨rfl, rfl, Grow.refl _⟩
    · rw [M.gather, if_neg (by omega)]; exact ⟨rfl, rfl, Grow.refl _⟩
    rintro text1 place1 w5 ⟨ht1, hp1, hg5⟩
    have hgw5 : Grow w w5 := (((hg.trans hg2).trans hg3).trans hg4).trans hg5
    have hg15 : Grow w1 w5 := ((hg2.trans hg3).trans hg4).trans hg5
    refine br_dec (fun h => ?_) (fun h => ?_)
    · rcases hcase with ⟨h1, h2, h3⟩ | ⟨m, _, _, _, h3⟩
      · refine ⟨acc, by omega, ?_, hO.grow hg15, hgw5⟩
        rw [hm, M.itemsF, h1]
        simp only
        rw [h2] at hfr ht1 hp1
        rw [hfr, ← ht1, ← hp1]
      · omega
    rcases hcase with ⟨_, _, h3⟩ | ⟨m, h1, h2, ho3, h3⟩
    · omega
    have htl1 : text1.length ≤ open_ := by rw [ht1]; omega
    rw [M.itemsF, h1] at hm
    simp only at hm
    rw [← h2, hfr, ← ht1, ← hp1] at hm
    clear ht1 hp1 h3 h2 h1 h hgl hfr hfa
    have e2 : (open_ : Int) + 2 = ((open_ + 2 : Nat) : Int) := by omega
    rw [e2, Int.toNat_natCast]
    generalize hin : open_ + 2 = inner at *
    refine ⟨inI64 (by omega) (by omega), fun b w' => (∃ b' : Nat, b = b' ∧ b' ≤ s.length ∧ inner ≤ b' ∧ b' + M.spanL M.blankB (s.drop b') = M.bodyAt s inner) ∧ Grow w5 w', ⟨by omega, by omega, useR (begins_spec _ _ _) fun w6 hg6 => ⟨_, rfl, br_dec (fun h => ⟨inI64 (by omega) (by omega), ⟨inner + 1, by omega, ?_, by omega, ?_⟩, hg6⟩) (fun h => ⟨⟨inner, rfl, by omega, by omega, ?_⟩, hg6⟩)⟩⟩, ?_⟩
    · have := h.length_le; rw [List.length_drop] at this; simp at this; omega
    · rw [M.bodyAt, if_pos h]
    · rw [M.bodyAt, if_neg h]
    rintro _ w6 ⟨⟨b', rfl, hb1, hb2, hb3⟩, hg6⟩
    have hbl := M.bodyAt_le (s := s) (inner := inner) (by omega)
    refine useR (skip_spec s b' rfl w6 hb1 (by omega)) fun w7 hg7 => ⟨_, rfl, ?_⟩
    rw [hb3]
    have hbi : inner ≤ M.bodyAt s inner := by omega
    clear hb3
    refine ⟨by omega, by omega, ?_⟩
    rw [Int.toNat_natCast]
    refine useR (begins_spec _ _ _) fun w8 hg8 => ⟨_, rfl, ?_⟩
    have hgw8 : Grow w w8 := ((hgw5.trans hg6).trans hg7).trans hg8
    have hg18 : Grow w1 w8 := ((hg15.trans hg6).trans hg7).trans hg8
    -- where the action's end is looked for
    refine ⟨fun l w' => Grow w8 w' ∧ ∃ look : Nat, l = look ∧ inner ≤ look ∧ look ≤ s.length ∧ M.actionAt s inner = (M.closes (s.drop look)).map fun d => (decide ([47, 42] <+: s.drop (M.bodyAt s inner)), look + d), br_dec (fun h => ?_) (fun h => ?_), ?_⟩
    · have hbp := h.length_le
      rw [List.length_drop] at hbp
      simp at hbp
      have e3 : ((M.bodyAt s inner : Nat) : Int) + 2 = ((M.bodyAt s inner + 2 : Nat) : Int) := by omega
      rw [e3, Int.toNat_natCast]
      refine ⟨inI64 (by omega) (by omega), by omega, by omega, useR (find_spec _ _ _ (by rw [List.length_drop]; omega) (by simp)) fun w9 hg9 => ⟨_, rfl, ?_⟩⟩
      cases hfd : M.find [42, 47] (s.drop (M.bodyAt s inner + 2)) with
      | none =>
        have : M.findI [42, 47] (s.drop (M.bodyAt s inner + 2)) = -1 := by simp [M.findI, hfd]
        rw [this]
        refine br_dec (fun _ => ?_) (fun h => absurd (by omega) h)
        have ha : M.actionAt s inner = none := by rw [M.actionAt, if_pos h, hfd]
        rw [ha] at hm
        rw [hm]
        exact ⟨⟨none, 0, 0⟩, rfl, Own.nil _ _ _, hgw8.trans hg9⟩
      | some kk =>
        have : M.findI [42, 47] (s.drop (M.bodyAt s inner + 2)) = (kk : Int) := by simp [M.findI, hfd]
        rw [this]
        have hkl := M.find_le hfd
        rw [List.length_drop] at hkl
        simp at hkl
        refine br_dec (fun h => absurd h (by omega)) (fun _ => ⟨inI64 (by omega) (by omega), inI64 (by omega) (by omega), inI64 (by omega) (by omega), hg9, M.bodyAt s inner + 2 + kk + 2, by omega, by omega, by omega, ?_⟩)
        rw [M.actionAt, if_pos h, hfd, decide_eq_true h]
    · refine ⟨Grow.refl _, inner, rfl, by omega, by omega, ?_⟩
      rw [M.actionAt, if_neg h, decide_eq_false h]
    rintro _ w9 ⟨hg9, look, rfl, hl1, hl2, hact⟩
    refine useR (closes_spec s look rfl w9 hl2 (by omega)) fun w10 hg10 => ⟨_, rfl, ?_⟩
    have hgw10 : Grow w w10 := (hgw8.trans hg9).trans hg10
    have hg110 : Grow w1 w10 := (hg18.trans hg9).trans hg10
    rw [M.closesI]
    generalize hrm : decide ([47, 42] <+: s.drop (M.bodyAt s inner)) = remark at *
    cases hcl : M.closes (s.drop look) with
    | none =>
      rw [hcl] at hact
      rw [hact] at hm
      refine br_dec (fun _ => ?_) (fun h => absurd (by simp [M.optI]) h)
      rw [hm]
      exact ⟨⟨none, 0, 0⟩, rfl, Own.nil _ _ _, hgw10⟩
    | some d =>
    rw [hcl] at hact
    have hact' : M.actionAt s inner = some (remark, look + d) := hact
    obtain ⟨hx1, hx2⟩ := M.actionAt_le (by omega) hact'
    simp only at hx1 hx2
    rw [hact'] at hm
    simp only at hm
    rw [M.optI]
    generalize look + d = fin at *
    clear hact hact' hcl hl1 hl2 hbl hbi hb1 hb2
    rw [Int.toNat_natCast]
    have htlen : ((s.take fin).drop inner).length = fin - inner := by simp; omega
    generalize (s.take fin).drop inner = t0 at *
    refine br_dec (fun h => absurd h (by omega)) (fun _ => ⟨by omega, by omega, by omega, ?_⟩)
    refine ⟨fun tx t w' => tx = (if M.cutL t0 = true then M.backM text1 else text1) ∧ t = M.lead t0 ∧ Grow w10 w', ?_, ?_⟩
    · have keep : ∀ w', Grow w10 w' → M.cutL t0 = false → text1 = (if M.cutL t0 = true then M.backM text1 else text1) ∧ t0 = M.lead t0 ∧ Grow w10 w' := by
        intro w' hw' hc
        rw [M.lead, hc]; exact ⟨rfl, rfl, hw'⟩
      refine br_dec (fun h => ⟨by omega, by omega, ?_⟩) (fun h => keep _ (Grow.refl _) (by rw [M.cutL, decide_eq_false (by omega)]; rfl))
      obtain ⟨c, r, rfl⟩ : ∃ c r, t0 = c :: r := by cases t0 with
        | nil => simp at h
        | cons c r => exact ⟨c, r, rfl⟩
      have hh : (decide ((c :: r).head? = some 45)) = decide ((c.toNat : Int) = 45) := by
        refine decide_eq_decide.2 ⟨fun e => ?_, fun e => ?_⟩
        · rw [List.head?_cons] at e; rw [Option.some.inj e]; rfl
        · rw [List.head?_cons, u8_eq (a := c) (b := 45) e]
      rw [show byteAt (c :: r) (Int.toNat 0) = (c.toNat : Int) from rfl]
      refine br_dec (fun h2 => ⟨by omega, by omega, ?_⟩) (fun h2 => keep _ (Grow.refl _) (by rw [M.cutL, hh, decide_eq_false h2]; simp))
      rw [show byteAt (c :: r) (Int.toNat 1) = (((c :: r).getD 1 0).toNat : Int) from rfl]
      have hcut : M.cutL (c :: r) = M.blankB ((c :: r).getD 1 0) := by rw [M.cutL, hh, decide_eq_true h2, decide_eq_true (by omega)]; simp
      refine useR (blank_spec _ _) fun w11 hg11 => ⟨_, rfl, br_intro (fun h3 => ⟨by omega, by omega, ?_⟩) (fun h3 => keep _ hg11 (by rw [hcut, h3]))⟩
      refine useR (back_spec _ _ (by omega)) fun w12 hg12 => ⟨_, rfl, ?_, ?_, hg11.trans hg12⟩
      · rw [hcut, h3]; rfl
      · rw [M.lead, hcut, h3]; rfl
    rintro text2 t w11 ⟨htx2, rfl, hg11⟩
    have htl2 : text2.length ≤ open_ := by
      rw [htx2]; split
      · have := M.backM_len text1; omega
      · exact htl1
    rw [← htx2] at hm
    have hll := M.lead_len t0
    generalize M.lead t0 = t at *
    refine ⟨fun c w' => c = M.cutR t ∧ Grow w11 w', br_dec (fun h => ⟨inI64 (by omega) (by omega), by omega, by omega, ?_⟩) (fun h => ⟨?_, Grow.refl _⟩), ?_⟩
    · have e4 : ((t.length : Int) - 1).toNat = t.length - 1 := by omega
      have e5 : ((t.length : Int) - 2).toNat = t.length - 2 := by omega
      rw [e4, e5]
      rw [show byteAt t (t.length - 1) = ((t.getD (t.length - 1) 0).toNat : Int) from rfl, show byteAt t (t.length - 2) = ((t.getD (t.length - 2) 0).toNat : Int) from rfl]
      refine br_dec (fun h2 => ⟨inI64 (by omega) (by omega), by omega, by omega, useR (blank_spec _ _) fun w12 hg12 => ⟨_, rfl, ?_, hg12⟩⟩) (fun h2 => ⟨?_, Grow.refl _⟩)
      · rw [M.cutR, decide_eq_true (by omega), decide_eq_true (u8_eq (b := 45) h2)]; rfl
      · rw [M.cutR, decide_eq_false (p := t.getD (t.length - 1) 0 = 45) (fun e => h2 (by rw [e]; rfl))]; simp
    · rw [M.cutR, decide_eq_false (by omega)]; rfl
    rintro _ w12 ⟨rfl, hg12⟩
    refine ⟨fun t1 w' => t1 = M.tail t ∧ Grow w12 w', br_intro (fun h => ⟨inI64 (by omega) (by omega), ?_, by omega, ?_, Grow.refl _⟩) (fun h => ⟨?_, Grow.refl _⟩), ?_⟩
    · have : 1 < t.length := by
        rw [M.cutR, Bool.and_eq_true] at h
        exact of_decide_eq_true h.1
      omega
    · rw [M.tail, if_pos h]
      congr 1
      omega
    · rw [M.tail, if_neg (by simp [h])]
    rintro t1 w13 ⟨rfl, hg13⟩
    have htt := M.tail_len t
    have hgw13 : Grow w w13 := ((hgw10.trans hg11).trans hg12).trans hg13
    have hg113 : Grow w1 w13 := ((hg110.trans hg11).trans hg12).trans hg13
    have hO13 := hO.grow hg113
    have e6 : (fin : Int) + 2 = ((fin + 2 : Nat) : Int) := by omega
    rw [e6]
    refine br_not (fun h => ?_) (fun h => ?_)
    · rw [h] at hm
      simp only [Bool.false_eq_true, if_false] at hm
      have item : ∀ (s1 : Sl) (acc1 : List M.W) (w20 w21 w22 : World) (b1 b : Nat), acc1.length ≤ acc.length + 1 → Own w.heap.size w20 s1 3 (M.wsV acc1) → Grow w w21 → Grow w20 w21 → w21.heap.size ≤ b1 → b < w21.heap.size → (∀ ad, s1.a = some ad → ad.block ≠ b) → w.heap.size ≤ b → LocB [b1, b] w21 w22 → M.items s = M.itemsF s f' (acc1 ++ [⟨2, M.trimM (M.tail t), (open_ : Int)⟩]) [] place1 (M.cutR t) (fin + 2) →
          ∃ old1 : List Value, AppPre w22 s1 3 32 1 old1 ∧ (∀ ad, s1.a = some ad → ad.block ≠ b1) ∧ (∀ ad, s1.a = some ad → ad.block ≠ b) ∧
                          ∀ (s2 : Sl) (w_23 : World), AppRes w22 s1 3 T_ref18_Item [Value.int .i64 2, Value.string (bs (M.trimM (M.tail t))), Value.int .i64 open_] 1 old1 s2 w_23 →
                          InI64 ((fin + 2 : Nat) : Int) ∧
                          ∃ m : Nat, m < s.length + 1 - j ∧ ∃ (j f : Nat) (acc : List M.W), ((fin + 2 : Nat) : Int) = j ∧ j ≤ s.length ∧ m = s.length + 1 - j ∧ m ≤ f ∧ acc.length ≤ 2 * j ∧ ([] : Bytes).length ≤ j ∧ M.items s = M.itemsF s f acc [] place1 (M.cutR t) j ∧ Own w.heap.size w_23 s2 3 (M.wsV acc) ∧ Grow w w_23 := by
        intro s1 acc1 w20 w21 w22 b1 b hac hO1 hgw21 hg21 hb1 hb hbne hbn hL hm1
        have hO21 := hO1.grow hg21
        have hbel : Bel w.heap.size w21 w22 := hL.below hgw21.size (by intro q hq; simp at hq; rcases hq with rfl | rfl; have := hgw21.size; omega; omega)
        have hO22 := hO21.loc hL (by intro ad had hq; simp at hq; rcases hq with hq | hq; exact hO21.ne hb1 _ had hq; exact hbne _ had hq)
        have hlen : s1.len = acc1.length := by have := hO1.len; rw [M.wsV_length] at this; omega
        refine ⟨_, hO22.pre (by omega), hO21.ne hb1, hbne, fun s2 w23 hr => ?_⟩
        have hgg := hgw21.and hbel
        obtain ⟨hO3, hG3, _⟩ := hO22.res hgg.size (by simp) hr
        refine ⟨inI64 (by omega) (by omega), s.length + 1 - (fin + 2), by omega, fin + 2, f', _, rfl, by omega, rfl, by omega, ?_, by simp, hm1, ?_, hgg.and hG3.bel⟩
        · rw [List.length_append]; simp; omega
        · rw [M.wsV_snoc]; exact hO3
      refine br_ndec (fun h2 => fun b hb w14 hL => ?_) (fun h2 => ?_)
      · have hg14 := hL.g1 hb
        have hO14 := hO13.grow hg14
        refine ⟨_, hO14.pre (by omega), hO13.ne hb, fun s1 w15 hr => ?_⟩
        have hgg := hgw13.trans hg14
        obtain ⟨hO15, hG15, _⟩ := hO14.res hgg.size (by simp) hr
        have hmb := hL.mem b (by simp)
        have hs15 := hG15.size
        have hg15' := hgg.and hG15.bel
        refine useR (trim_spec _ _ (by omega)) fun w16 hg16 => ⟨_, rfl, hg16.block _ (by omega), fun b1 hb1 w17 hL17 => ?_⟩
        have hsz16 := hg16.size
        refine item s1 (acc ++ [⟨1, text2, place1⟩]) w15 w16 w17 b1 b (by simp) (by rw [M.wsV_snoc]; exact hO15) (hg15'.trans hg16) hg16 hb1 (by omega) ?_ (Nat.le_trans hgw13.size hb) hL17 ?_
        · intro ad had hq
          rcases hG15.at_ ad had with h3 | h3
          · exact hO13.ne hb ad h3 hq
          · omega
        · rw [hm, M.put1, if_neg (by simpa using h2)]
      · refine useR (trim_spec _ _ (by omega)) fun w14 hg14 => ⟨_, rfl, fun b hb w15 hL15 => ?_⟩
        have hO14 := hO13.grow hg14
        have hgg := hgw13.trans hg14
        have hg15' := hL15.g1 hb
        have hO15 := hO14.grow hg15'
        refine ⟨_, hO15.pre (by omega), hO14.ne hb, fun s2 w16 hr => ?_⟩
        have hgg2 := hgg.trans hg15'
        obtain ⟨hO3, hG3, _⟩ := hO15.res hgg2.size (by simp) hr
        refine ⟨inI64 (by omega) (by omega), s.length + 1 - (fin + 2), by omega, fin + 2, f', acc ++ [⟨2, M.trimM (M.tail t), (open_ : Int)⟩], rfl, by omega, rfl, by omega, ?_, by simp, ?_, ?_, hgg2.and hG3.bel⟩
        · simp; omega
        · rw [hm, M.put1, if_pos (by simpa using h2)]
        · rw [M.wsV_snoc]; exact hO3
    · rw [h] at hm
      simp only [if_true] at hm
      refine ⟨inI64 (by omega) (by omega), s.length + 1 - (fin + 2), by omega, fin + 2, f', acc, rfl, by omega, rfl, by omega, by omega, by omega, hm, hO13, hgw13⟩
  · rintro out text place w1 ⟨acc, hal, hm, hO, hg⟩
    rw [hm]
    refine br_ndec (fun h => fun b hb w2 hL => ?_) (fun h => ⟨out, rfl, ?_, hg⟩)
    · have hg2 := hL.g1 hb
      have hO2 := hO.grow hg2
      have hlen : out.len = acc.length := by have := hO.len; rw [M.wsV_length] at this; omega
      refine ⟨_, hO2.pre (by omega), hO.ne hb, fun s1 w3 hr => ?_⟩
      have hgg := hg.trans hg2
      obtain ⟨hO3, hG3, _⟩ := hO2.res hgg.size (by simp) hr
      refine ⟨s1, rfl, ?_, hgg.and hG3.bel⟩
      rw [M.put1, if_neg (by simpa using h), M.wsV_snoc]
      exact hO3
    · rw [M.put1, if_pos (by simpa using h)]
      exact hO

end Go.Proofs.Ytpedoaeieabhoaa.V

/- Contracts: arguments (reference 19). -/
namespace Go.Proofs.Ytpedoaeieabhoaa.V
open Go Go.Vc Go.Proofs
open Go.Vc (Bytes)

theorem arity_spec (s : Bytes) (w : World) : Calls P F_ref19_Arity #[.string (bs s)] w (Ret w (.tuple #[.int .i64 (M.arity s).1, .int .i64 (M.arity s).2.1, .bool (M.arity s).2.2])) := by
  refine ok_ref19_Arity _ ?_
  unfold vc_ref19_Arity
  by_cases h1 : s = [108, 101, 110]
  · subst h1; exact ⟨rfl, Grow.refl _⟩
  by_cases h2 : s = [110, 111, 116]
  · subst h2; exact ⟨rfl, Grow.refl _⟩
  by_cases h3 : s = [117, 112, 112, 101, 114]
  · subst h3; exact ⟨rfl, Grow.refl _⟩
  by_cases h4 : s = [108, 111, 119, 101, 114]
  · subst h4; exact ⟨rfl, Grow.refl _⟩
  by_cases h5 : s = [101, 113]
  · subst h5; exact ⟨rfl, Grow.refl _⟩
  by_cases h6 : s = [108, 116]
  · subst h6; exact ⟨rfl, Grow.refl _⟩
  by_cases h7 : s = [97, 110, 100]
  · subst h7; exact ⟨rfl, Grow.refl _⟩
  by_cases h8 : s = [111, 114]
  · subst h8; exact ⟨rfl, Grow.refl _⟩
  by_cases h9 : s = [106, 111, 105, 110]
  · subst h9; exact ⟨rfl, Grow.refl _⟩
  by_cases h10 : s = [100, 101, 102, 97, 117, 108, 116]
  · subst h10; exact ⟨rfl, Grow.refl _⟩
  by_cases h11 : s = [105, 110, 100, 101, 120]
  · subst h11; exact ⟨rfl, Grow.refl _⟩
  by_cases h12 : s = [112, 114, 105, 110, 116]
  · subst h12; exact ⟨rfl, Grow.refl _⟩
  have hm : M.arity s = (0, 0, false) := by simp [M.arity, h1, h2, h3, h4, h5, h6, h7, h8, h9, h10, h11, h12]
  rw [hm]
  simp only [h1, h2, h3, h4, h5, h6, h7, h8, h9, h10, h11, h12, decide_false, br]
  exact ⟨rfl, Grow.refl _⟩

theorem constant_spec (s : Bytes) (w : World) : Calls P F_ref19_constant #[.string (bs s)] w (Ret w (.bool (M.constB s))) := by
  refine ok_ref19_constant _ ?_
  unfold vc_ref19_constant
  refine br_dec (fun h => Ret.bool ?_ (Grow.refl _)) (fun h => br_dec (fun h2 => Ret.bool ?_ (Grow.refl _)) (fun h2 => Ret.bool ?_ (Grow.refl _)))
  · exact dec_t (.inl h)
  · exact dec_t (.inr (.inl h2))
  · unfold M.constB; exact decide_eq_decide.2 ⟨fun e => .inr (.inr e), fun e => e.elim (fun e => absurd e h) (fun e => e.elim (fun e => absurd e h2) id)⟩

theorem path_spec (s : Bytes) (w : World) (hs : s.length ≤ 1099511627776) :
    Calls P F_ref19_path #[.string (bs s)] w (fun e w' => ∃ sl : Sl, e = .returned (.tuple #[.slice sl.a sl.len sl.cap, .int .i64 (M.pathM s).2]) ∧ LstAt M.strR w' (rng w.heap.size w'.heap.size) sl (M.pathM s).1 ∧ Grow w w') := by
  refine ok_ref19_path _ ?_
  unfold vc_ref19_path
  refine ⟨fun out now i n w' => ∃ (j : Nat) (acc : List Bytes), i = j ∧ j ≤ s.length ∧ n = s.length - j ∧ acc.length ≤ j ∧ now.length ≤ j ∧ M.pathF s true [] [] = M.pathF (s.drop j) (decide (j = 0)) acc now ∧ Bld (fun _ _ => M.strR) w.heap.size w' out 1 acc [] ∧ Grow w w', s.length, ⟨0, [], rfl, by omega, by omega, by simp, by simp, by simp, Bld.nil _ _ _ _ _, Grow.refl _⟩, ?_⟩
  rintro out now i n w1 ⟨j, acc, rfl, hj, rfl, hal, hnl, hm, hB, hg⟩
  have hol := hB.len M.niceStr
  have push : ∀ (w2 w3 : World) (b : Nat) (old : List Value) (s1 : Sl), w1.heap.size ≤ b → LocB [b] w1 w2 → (∃ (S : Nat → Prop) (cs : List (List Value)), old = cs.flatten ∧ Own w.heap.size w2 out 1 cs.flatten ∧ allR ((fun _ _ => M.strR) w2 S) acc cs ∧ (∀ k, S k → rng w.heap.size w2.heap.size k ∧ (∀ ad, out.a = some ad → ad.block ≠ k) ∧ k ∉ []) ∧ (∀ ad, out.a = some ad → ad.block ∉ [])) → AppRes w2 out 1 T_string [Value.string (bs now)] 1 old s1 w3 →
      Bld (fun _ _ => M.strR) w.heap.size w3 s1 1 (acc ++ [now]) [] ∧ Grow w w3 ∧ s1.len = out.len + 1 := by
    intro w2 w3 b old s1 hb hL hex hr
    have hg2 := hg.trans (hL.g1 hb)
    obtain ⟨h1, h2, h3⟩ := Bld.push M.niceStr (S' := fun _ => False) (x := now) hex hg2.size (by simp) (rfl : M.strR now _) (by intro k h; exact h.elim) hr
    exact ⟨h1, hg2.and h2.bel, h3⟩
  refine br_dec (fun h => ⟨by omega, h, ?_⟩) (fun h => ?_)
  · have hlt : j < s.length := by omega
    rw [Int.toNat_natCast, byteAt_eq s j hlt]
    have hd : s.drop j = s[j] :: s.drop (j + 1) := drop_cons hlt
    refine br_dec (fun h2 => br_dec (fun h3 => fun b hb w2 hL => ?_) (fun h3 => ?_)) (fun h2 => ?_)
    · obtain ⟨old, hpre, hex⟩ := (hB.grow M.niceStr (hL.g1 hb)).pre (bytes := 16) (n := 1) (by omega)
      refine ⟨old, hpre, hB.ne hb, fun s1 w3 hr => ?_⟩
      obtain ⟨q1, q2, q3⟩ := push w2 w3 b old s1 hb hL hex hr
      refine ⟨inI64 (by omega) (by omega), s.length - (j + 1), by omega, j + 1, acc ++ [now], by omega, by omega, rfl, by simp; omega, by simp, ?_, q1, q2⟩
      rw [hm, hd, M.pathF, if_pos (by omega), decide_eq_false (by omega), decide_eq_false (by omega)]
      simp
    · refine ⟨inI64 (by omega) (by omega), s.length - (j + 1), by omega, j + 1, acc, by omega, by omega, rfl, by omega, by simp, ?_, hB, hg⟩
      rw [hm, hd, M.pathF, if_pos (by omega), decide_eq_true (by omega), decide_eq_false (by omega)]
      simp
    · have e : ((s.take (((j : Int) + 1).toNat)).drop j) = [s[j]] := by
        rw [show ((j : Int) + 1).toNat = j + 1 by omega, List.drop_take, hd, show j + 1 - j = 1 by omega]; rfl
      rw [e]
      refine ⟨inI64 (by omega) (by omega), by omega, by omega, by omega, by simp; omega, inI64 (by omega) (by omega), s.length - (j + 1), by omega, j + 1, acc, by omega, by omega, rfl, by omega, by simp; omega, ?_, hB, hg⟩
      rw [hm, hd, M.pathF, if_neg (by omega), decide_eq_false (p := j + 1 = 0) (by omega)]
  · rw [List.drop_eq_nil_of_le (by omega), M.pathF] at hm
    have fin : ∀ (w3 : World) (s2 : Sl) (l : List Bytes), M.pathF s true [] [] = l → Bld (fun _ _ => M.strR) w.heap.size w3 s2 1 l [] → Grow w w3 →
        br (decide ((16 : Int) < ((s2.len : Nat) : Int)))
        (∃ sl : Sl, Ending.returned (Value.tuple #[Value.slice none 0 0, Value.int .i64 42]) = .returned (.tuple #[.slice sl.a sl.len sl.cap, .int .i64 (M.pathM s).2]) ∧ LstAt M.strR w3 (rng w.heap.size w3.heap.size) sl (M.pathM s).1 ∧ Grow w w3)
        (∃ sl : Sl, Ending.returned (Value.tuple #[Value.slice s2.a s2.len s2.cap, Value.int .i64 0]) = .returned (.tuple #[.slice sl.a sl.len sl.cap, .int .i64 (M.pathM s).2]) ∧ LstAt M.strR w3 (rng w.heap.size w3.heap.size) sl (M.pathM s).1 ∧ Grow w w3) := by
      intro w3 s2 l hl hB3 hg3
      have := hB3.len M.niceStr
      refine br_dec (fun h2 => ⟨⟨none, 0, 0⟩, ?_, ?_, hg3⟩) (fun h2 => ⟨s2, ?_, ?_, hg3⟩)
      · rw [M.pathM, hl, if_pos (by omega)]
      · rw [M.pathM, hl, if_pos (by omega)]; exact LstAt.nil _ _
      · rw [M.pathM, hl, if_neg (by omega)]
      · rw [M.pathM, hl, if_neg (by omega)]; exact hB3.lst M.niceStr
    refine br_ndec (fun h2 => fun b hb w2 hL => ?_) (fun h2 => ?_)
    · obtain ⟨old, hpre, hex⟩ := (hB.grow M.niceStr (hL.g1 hb)).pre (bytes := 16) (n := 1) (by omega)
      refine ⟨old, hpre, hB.ne hb, fun s1 w3 hr => ?_⟩
      obtain ⟨q1, q2, q3⟩ := push w2 w3 b old s1 hb hL hex hr
      rw [if_neg h2] at hm
      exact fin w3 s1 _ hm q1 q2
    · rw [if_pos h2] at hm
      exact fin w1 out _ hm hB hg

theorem arg_spec (x : M.W) (w : World) (hs : x.text.length ≤ 1099511627776) (hk : x.kind = 3 → x.text ≠ []) :
    Calls P F_ref19_arg #[.agg #[.int .i64 x.kind, .string (bs x.text), .int .i64 x.at_]] w (fun e w' => ∃ sl : Sl, e = .returned (.tuple #[.agg #[.int .i64 (M.argM x).1.kind, .string (bs (M.argM x).1.name), .slice sl.a sl.len sl.cap, .int .i64 (M.argM x).1.int, .string (bs (M.argM x).1.text)], .int .i64 (M.argM x).2]) ∧ LstAt M.strR w' (rng w.heap.size w'.heap.size) sl (M.argM x).1.path ∧ Grow w w') := by
  refine ok_ref19_arg _ _ _ ?_
  unfold vc_ref19_arg
  intro b hb b1 hb1
  have flat : ∀ (a : M.ArgM) (e : Int) (w1 : World), M.argM x = (a, e) → a.path = [] → LocB [b1, b] w w1 → ∃ sl : Sl, Ending.returned (Value.tuple #[.agg #[.int .i64 a.kind, .string (bs a.name), .slice none 0 0, .int .i64 a.int, .string (bs a.text)], .int .i64 e]) = .returned (.tuple #[.agg #[.int .i64 (M.argM x).1.kind, .string (bs (M.argM x).1.name), .slice sl.a sl.len sl.cap, .int .i64 (M.argM x).1.int, .string (bs (M.argM x).1.text)], .int .i64 (M.argM x).2]) ∧ LstAt M.strR w1 (rng w.heap.size w1.heap.size) sl (M.argM x).1.path ∧ Grow w w1 := by
    intro a e w1 hm hp hL
    rw [hm]
    refine ⟨⟨none, 0, 0⟩, rfl, ?_, hL.g2 hb1 hb⟩
    rw [hp]; exact LstAt.nil _ _
  refine br_dec (fun h1 => br_dec (fun h2 w1 hL => ?_) (fun h2 => br_dec (fun h3 w1 hL => ?_) (fun h3 => br_dec (fun h4 w1 hL => ?_) (fun h4 w1 hL => ?_)))) (fun h1 => br_dec (fun h2 w1 hL => ?_) (fun h2 => br_dec (fun h3 => ?_) (fun h3 => br_dec (fun h4 w1 hL => ?_) (fun h4 => br_dec (fun h5 w1 hL => ?_) (fun h5 w1 hL => ?_)))))
  · exact flat ⟨5, [], [], 0, []⟩ 0 w1 (by rw [M.argM, if_pos h1, if_pos h2]) rfl hL
  · exact flat ⟨6, [], [], 0, []⟩ 0 w1 (by rw [M.argM, if_pos h1, if_neg h2, if_pos h3]) rfl hL
  · exact flat ⟨7, [], [], 0, []⟩ 0 w1 (by rw [M.argM, if_pos h1, if_neg h2, if_neg h3, if_pos h4]) rfl hL
  · exact flat ⟨0, [], [], 0, []⟩ 33 w1 (by rw [M.argM, if_pos h1, if_neg h2, if_neg h3, if_neg h4]) rfl hL
  · have hm : M.argM x = (⟨1, [], (M.pathM x.text).1, 0, []⟩, (M.pathM x.text).2) := by rw [M.argM, if_neg h1, if_pos h2]
    rw [hm]
    refine (path_spec x.text w1 hs).mono ?_
    rintro e w2 ⟨sl, rfl, hl, hg2⟩
    refine ⟨sl, _, rfl, hg2.block _ (hL.mem b1 (by simp)), hg2.block _ (hL.mem b (by simp)), fun w3 hL3 => ⟨sl, rfl, ?_, ?_⟩⟩
    · have hs1 := hL.size
      have hb' := hL.mem b (by simp)
      have hb1' := hL.mem b1 (by simp)
      refine LstAt.mono (hl.keep (R' := M.strR) (w' := w3) (fun _ _ h => h) fun k hk => ?_) (fun _ _ h => h) fun k hk => ⟨Nat.le_trans hs1 hk.1, Nat.lt_of_lt_of_le hk.2 hL3.size⟩
      refine hL3.block k hk.2 ?_
      have := hk.1
      simp; omega
    · have hgg := (hL.g2 hb1 hb).trans hg2
      exact hgg.and (hL3.below hgg.size (by simpa using ⟨hb1, hb⟩))
  · have hne := hk h3
    have hlen : 1 ≤ x.text.length := by
      rcases Nat.eq_zero_or_pos x.text.length with e | e
      · exact absurd (List.eq_nil_of_length_eq_zero e) hne
      · exact e
    have hsp := M.spanL_drop_le M.notDot x.text 1 hlen
    have hm : M.argM x = (⟨2, (x.text.take (M.headLen x.text)).drop 1, (M.pathM (x.text.drop (M.headLen x.text))).1, 0, []⟩, (M.pathM (x.text.drop (M.headLen x.text))).2) := by rw [M.argM, if_neg h1, if_neg h2, if_pos h3]
    rw [hm]
    refine ⟨fun n w' => n = (M.headLen x.text : Nat) ∧ Grow w w' ∧ b < w'.heap.size ∧ b1 < w'.heap.size, fun w1 hL => ?_, ?_⟩
    · refine ⟨fun i n w' => ∃ j : Nat, i = j ∧ j ≤ x.text.length ∧ n = x.text.length - j ∧ M.headLen x.text = j + M.spanL M.notDot (x.text.drop j) ∧ w' = w1, x.text.length - 1, ⟨1, rfl, hlen, rfl, rfl, rfl⟩, ?_⟩
      rintro i n w' ⟨j, rfl, hj, rfl, hf, rfl⟩
      have stop : M.spanL M.notDot (x.text.drop j) = 0 → (j : Int) = (M.headLen x.text : Nat) ∧ Grow w w' ∧ b < w'.heap.size ∧ b1 < w'.heap.size := by
        intro h0
        exact ⟨by omega, hL.g2 hb1 hb, hL.mem b (by simp), hL.mem b1 (by simp)⟩
      refine br_dec (fun h => ⟨by omega, h, ?_⟩) (fun h => stop (M.spanL_end (by omega)))
      have hlt : j < x.text.length := by omega
      rw [Int.toNat_natCast, byteAt_eq _ j hlt]
      refine br_ndec (fun h5 => ⟨inI64 (by omega) (by omega), x.text.length - (j + 1), by omega, j + 1, by omega, by omega, rfl, ?_, rfl⟩) (fun h5 => stop (M.spanL_no hlt ?_))
      · rw [hf, M.spanL_yes hlt (by rw [M.notDot, decide_eq_false (by omega)]; rfl)]; omega
      · rw [M.notDot, decide_eq_true (by omega)]; rfl
    · rintro _ w1 ⟨rfl, hg1, hm1, hm2⟩
      rw [Int.toNat_natCast]
      have hle : M.headLen x.text ≤ x.text.length := hsp
      have hge : 1 ≤ M.headLen x.text := by unfold M.headLen; omega
      refine ⟨by omega, by omega, (path_spec _ w1 (by rw [List.length_drop]; omega)).mono ?_⟩
      rintro e w2 ⟨sl, rfl, hl, hg2⟩
      refine ⟨sl, _, rfl, hg2.block _ hm2, hg2.block _ hm1, by omega, by omega, by omega, fun w3 hL3 => ⟨sl, rfl, ?_, ?_⟩⟩
      · have hs1 := hg1.size
        refine LstAt.mono (hl.keep (R' := M.strR) (w' := w3) (fun _ _ h => h) fun k hk => ?_) (fun _ _ h => h) fun k hk => ⟨Nat.le_trans hs1 hk.1, Nat.lt_of_lt_of_le hk.2 hL3.size⟩
        refine hL3.block k hk.2 ?_
        have := hk.1
        simp; omega
      · have hgg := hg1.trans hg2
        exact hgg.and (hL3.below hgg.size (by simpa using ⟨hb1, hb⟩))
  · have hm : M.argM x = (⟨3, [], [], (M.parseNum x.text).1, []⟩, 0) := by rw [M.argM, if_neg h1, if_neg h2, if_neg h3, if_pos h4]
    rw [hm]
    refine useR (parse_spec _ _ (by omega)) fun w2 hg2 => ⟨_, _, rfl, hg2.block _ (hL.mem b1 (by simp)), hg2.block _ (hL.mem b (by simp)), fun w3 hL3 => ⟨⟨none, 0, 0⟩, rfl, LstAt.nil _ _, ?_⟩⟩
    have hgg := (hL.g2 hb1 hb).trans hg2
    exact hgg.and (hL3.below hgg.size (by simpa using ⟨hb1, hb⟩))
  · exact flat ⟨4, [], [], 0, x.text⟩ 0 w1 (by rw [M.argM, if_neg h1, if_neg h2, if_neg h3, if_neg h4, if_pos h5]) rfl hL
  · exact flat ⟨0, [], [], 0, []⟩ 33 w1 (by rw [M.argM, if_neg h1, if_neg h2, if_neg h3, if_neg h4, if_neg h5]) rfl hL

end Go.Proofs.Ytpedoaeieabhoaa.V

/- Contracts: a call (reference 19). -/
namespace Go.Proofs.Ytpedoaeieabhoaa.V
open Go Go.Vc Go.Proofs
open Go.Vc (Bytes)

theorem call_spec (l : Sl) (ls : List M.W) (ahead : Bool) (w : World) {S : Nat → Prop} (hl : LstAt M.wR w S l ls) (hS : ∀ k, S k → k < w.heap.size) (hne : ls ≠ []) (hok : ∀ x ∈ ls, M.WOk x) (hll : ls.length ≤ 1099511627776) :
    Calls P F_ref19_call #[.slice l.a l.len l.cap, .bool ahead] w (fun e w' => ∃ sl : Sl, e = .returned (.tuple #[.agg #[.string (bs (M.callM ls ahead).1.name), .slice sl.a sl.len sl.cap], .int .i64 (M.callM ls ahead).2.1, .int .i64 (M.callM ls ahead).2.2]) ∧ LstAt (M.argR w' (rng w.heap.size w'.heap.size)) w' (rng w.heap.size w'.heap.size) sl (M.callM ls ahead).1.args ∧ Grow w w') := by
  refine ok_ref19_call _ _ ?_
  unfold vc_ref19_call
  have hlen := hl.len
  obtain ⟨x, r, rfl⟩ : ∃ x r, ls = x :: r := by cases ls with
    | nil => exact absurd rfl hne
    | cons x r => exact ⟨x, r, rfl⟩
  have rd := fun (w' : World) (hg : Grow w w') (i : Nat) (hi : i < (x :: r).length) => M.words_read hl hS hg i hi
  clear hl
  rw [List.length_cons] at hlen hll
  intro b hb
  obtain ⟨a, ha, hab, _⟩ := rd w (Grow.refl _) 0 (by simp)
  refine ⟨by omega, by omega, a, ha, fun w0 hL0 => ?_⟩
  have hg0 := hL0.g1 hb
  have hb0 := hL0.mem b (by simp)
  obtain ⟨a', ha', _, hc, _⟩ := rd w0 hg0 0 (by simp)
  rw [ha] at ha'
  cases ha'
  refine ⟨x.kind, x.text, x.at_, by simpa using hc, fun b1 hb1' => ?_⟩
  have hb1 : w.heap.size ≤ b1 := Nat.le_trans hg0.size hb1'
  have hxok := hok x (by simp)
  -- a failure
  generalize hR : (fun (e : Ending) (w' : World) => ∃ sl : Sl, e = .returned (.tuple #[.agg #[.string (bs (M.callM (x :: r) ahead).1.name), .slice sl.a sl.len sl.cap], .int .i64 (M.callM (x :: r) ahead).2.1, .int .i64 (M.callM (x :: r) ahead).2.2]) ∧ LstAt (M.argR w' (rng w.heap.size w'.heap.size)) w' (rng w.heap.size w'.heap.size) sl (M.callM (x :: r) ahead).1.args ∧ Grow w w') = R
  have fin : ∀ (w1 : World) (sl : Sl) (c : M.CallM) (p e : Int), Grow w w1 → M.callM (x :: r) ahead = (c, p, e) → LstAt (M.argR w1 (rng w.heap.size w1.heap.size)) w1 (rng w.heap.size w1.heap.size) sl c.args → R (Ending.returned (Value.tuple #[.agg #[.string (bs c.name), .slice sl.a sl.len sl.cap], .int .i64 p, .int .i64 e])) w1 := by
    intro w1 sl c p e hg hm hl
    rw [← hR, hm]
    exact ⟨sl, rfl, hl, hg⟩
  have fail : ∀ (w1 : World) (p e : Int), Grow w w1 → M.callM (x :: r) ahead = (⟨[], []⟩, p, e) → R (Ending.returned (Value.tuple #[.agg #[.string (bs ([] : Bytes)), .slice none 0 0], .int .i64 p, .int .i64 e])) w1 :=
    fun w1 p e hg hm => fin w1 ⟨none, 0, 0⟩ ⟨[], []⟩ p e hg hm (LstAt.nil _ _)
  -- what is not a function's call
  have alone : (x.kind ≠ 1 ∨ M.constB x.text = true) → ∀ (w3 : World), Grow w w3 → b < w3.heap.size → b1 < w3.heap.size → ahead = false →
      Calls P F_ref19_arg #[Value.agg #[Value.int .i64 x.kind, Value.string (bs x.text), Value.int .i64 x.at_]] w3 (fun (e_ : Ending) (w_4 : World) =>
          ∃ r_ : Int, ∃ r1 : Bytes, ∃ r2 : Sl, ∃ r3 : Int, ∃ r4 : Bytes, ∃ r5 : Int, e_ = Ending.returned (Value.tuple #[Value.agg #[Value.int .i64 r_, Value.string (bs r1), Value.slice r2.a r2.len r2.cap, Value.int .i64 r3, Value.string (bs r4)], Value.int .i64 r5]) ∧ w_4.heap[b1]? = w3.heap[b1]? ∧ w_4.heap[b]? = w3.heap[b]? ∧
          ∀ b2 : Nat, w_4.heap.size ≤ b2 →
          br (!decide (r5 = 0))
            (∀ w_5 : World, LocB [b2, b1, b] w_4 w_5 →
            ∀ w_6 : World, LocB [b2, b1, b] w_5 w_6 →
            R (Ending.returned (Value.tuple #[Value.agg #[Value.string (bs ([] : Bytes)), Value.slice none 0 0], Value.int .i64 x.at_, Value.int .i64 r5])) w_6)
            (br (decide ((1 : Int) < ((l.len : Nat) : Int)))
              (∀ w_7 : World, LocB [b2, b1, b] w_4 w_7 →
              (0 : Int) ≤ 1 ∧ (1 : Int) < ((l.len : Nat) : Int) ∧ ∃ a1 : Addr, l.a = some a1 ∧
              ((a1.add ((1 : Int).toNat * 3)).add 2).block ≠ b ∧ ∃ x : Int, CellsAt w_7 ((a1.add ((1 : Int).toNat * 3)).add 2) [Value.int .i64 x] ∧
              ∀ w_8 : World, LocB [b2, b1, b] w_7 w_8 →
              R (Ending.returned (Value.tuple #[Value.agg #[Value.string (bs ([] : Bytes)), Value.slice none 0 0], Value.int .i64 x, Value.int .i64 33])) w_8)
              (∀ w_9 : World, LocB [b2, b1, b] w_4 w_9 →
              ∀ w_10 : World, LocB [b2, b1, b] (w_9.alloc (.cells #[Value.int .i64 r_, Value.string (bs r1), Value.slice r2.a r2.len r2.cap, Value.int .i64 r3, Value.string (bs r4)] T_api_Arg)) w_10 →
              R (Ending.returned (Value.tuple #[Value.agg #[Value.string (bs ([] : Bytes)), Value.slice (some (Addr.mk w_9.heap.size 0 none)) 1 1], Value.int .i64 0, Value.int .i64 0])) w_10))) := by
    intro hc3 w3 hg3 hb3 hb13 hah
    refine (arg_spec x w3 hxok.1 hxok.2).mono ?_
    rintro e w4 ⟨sl, rfl, hl4, hg4⟩
    have hgw4 := hg3.trans hg4
    have hz3 := hg3.size
    have hz4 := hg4.size
    refine ⟨_, _, sl, _, _, _, rfl, hg4.block _ hb13, hg4.block _ hb3, fun b2 hb2 => ?_⟩
    have hbs : ∀ k, k ∈ [b2, b1, b] → w.heap.size ≤ k := by intro k hk; simp at hk; omega
    have hm0 : M.callM (x :: r) ahead = if (M.argM x).2 ≠ 0 then (⟨[], []⟩, x.at_, (M.argM x).2) else match r with
        | y :: _ => (⟨[], []⟩, y.at_, 33)
        | [] => (⟨[], [(M.argM x).1]⟩, 0, 0) := by
      rw [M.callM_cons]; rw [if_pos hc3, if_neg (by simp [hah])]; rfl
    refine br_ndec (fun h => fun w5 hL5 w6 hL6 => ?_) (fun h => ?_)
    · exact fail w6 _ _ ((hgw4.loc hL5 hbs).loc hL6 hbs) (by rw [hm0, if_pos h])
    rw [if_neg (by simpa using h)] at hm0
    refine br_dec (fun h2 => fun w5 hL5 => ⟨by omega, h2, ?_⟩) (fun h2 => fun w5 hL5 w6 hL6 => ?_)
    · have hg5 := hgw4.loc hL5 hbs
      obtain ⟨y, r', rfl⟩ : ∃ y r', r = y :: r' := by cases r with
        | nil => simp at hlen; omega
        | cons y r' => exact ⟨y, r', rfl⟩
      obtain ⟨ad, q1, q2, _, _, _, q3⟩ := rd w5 hg5 1 (by simp)
      refine ⟨ad, q1, ?_, y.at_, by simpa using q3, fun w6 hL6 => ?_⟩
      · rw [add_block, add_block]; omega
      · exact fail w6 _ _ (hg5.loc hL6 hbs) hm0
    · have hg5 := hgw4.loc hL5 hbs
      have hr0 : r = [] := List.eq_nil_of_length_eq_zero (by omega)
      subst hr0
      have hn : w5.heap.size ∉ [b2, b1, b] := by
        have := hL5.size
        have h1 := hL5.mem b2 (by simp)
        have h2 := hL5.mem b1 (by simp)
        have h3 := hL5.mem b (by simp)
        simp; omega
      obtain ⟨k1, k2, k3⟩ := M.one_new (vs := [Value.int .i64 (M.argM x).1.kind, Value.string (bs (M.argM x).1.name), Value.slice sl.a sl.len sl.cap, Value.int .i64 (M.argM x).1.int, Value.string (bs (M.argM x).1.text)]) rfl hL6 hn
      have hg6 : Grow w w6 := (hg5.trans (M.grow_alloc w5 _)).loc hL6 hbs
      have h45 := hL5.size
      refine fin w6 ⟨some ⟨w5.heap.size, 0, none⟩, 1, 1⟩ _ _ _ hg6 hm0 ⟨[_], ⟨⟨sl, rfl, ?_⟩, trivial⟩, rfl, Nat.le_refl _, .inr ⟨_, rfl, ⟨?_, k3⟩, by simpa using k1, fun i _ => k2 i⟩⟩
      · refine LstAt.mono (hl4.keep (R' := M.strR) (w' := w6) (fun _ _ h => h) fun k hk => ?_) (fun _ _ h => h) fun k hk => ?_
        · have hk1 : k ∉ [b2, b1, b] := by have := hk.1; have := hk.2; simp; omega
          rw [hL6.block k (by show _ < (w5.heap.push _).size; have := hk.2; simp; omega) hk1]
          rw [(M.grow_alloc w5 _).block k (by have := hk.2; omega)]
          exact hL5.block k hk.2 hk1
        · have := hk.1
          have := hk.2
          exact ⟨by omega, by omega⟩
      · show w.heap.size ≤ w5.heap.size; omega
  refine ⟨fun w' => Grow w w' ∧ b < w'.heap.size ∧ b1 < w'.heap.size ∧ ¬ (x.kind ≠ 1 ∨ M.constB x.text = true), br_ndec (fun h => ?_) (fun h w1 hL1 => ?_), ?_⟩
  · refine br_intro (fun hah w1 hL1 w2 hL2 => ?_) (fun hah w1 hL1 => ?_)
    · have hbs : ∀ k, k ∈ [b1, b] → w.heap.size ≤ k := by intro k hk; simp at hk; omega
      exact fail w2 _ _ ((hg0.loc hL1 hbs).loc hL2 hbs) (by rw [M.callM_cons]; rw [if_pos (.inl h), if_pos hah])
    · have hbs : ∀ k, k ∈ [b1, b] → w.heap.size ≤ k := by intro k hk; simp at hk; omega
      exact alone (.inl h) w1 (hg0.loc hL1 hbs) (hL1.mem b (by simp)) (hL1.mem b1 (by simp)) hah
  · have hbs : ∀ k, k ∈ [b1, b] → w.heap.size ≤ k := by intro k hk; simp at hk; omega
    have hg1 := hg0.loc hL1 hbs
    have q1 := hL1.mem b (by simp)
    have q2 := hL1.mem b1 (by simp)
    refine useR (constant_spec _ _) fun w2 hg2 => ⟨_, rfl, hg2.block _ q2, hg2.block _ q1, br_intro (fun h2 => br_intro (fun hah w3 hL3 w4 hL4 => ?_) (fun hah => ?_)) (fun h2 => ?_)⟩
    · exact fail w4 _ _ (((hg1.trans hg2).loc hL3 hbs).loc hL4 hbs) (by rw [M.callM_cons]; rw [if_pos (.inr h2), if_pos hah])
    · exact alone (.inr h2) w2 (hg1.trans hg2) (Nat.lt_of_lt_of_le q1 hg2.size) (Nat.lt_of_lt_of_le q2 hg2.size) hah
    · exact ⟨hg1.trans hg2, Nat.lt_of_lt_of_le q1 hg2.size, Nat.lt_of_lt_of_le q2 hg2.size, fun hc => hc.elim (fun e => e h) (fun e => by rw [h2] at e; cases e)⟩
  rintro w1 ⟨hg1, q1, q2, hc3⟩
  have hbs : ∀ k, k ∈ [b1, b] → w.heap.size ≤ k := by intro k hk; simp at hk; omega
  have hm0 : M.callM (x :: r) ahead = if (M.arity x.text).2.2 = false then (⟨[], []⟩, x.at_, 31)
    else if (M.argsM r []).2.2 ≠ 0 then (⟨[], []⟩, (M.argsM r []).2.1, (M.argsM r []).2.2)
    else if M.bump ahead (M.argsM r []).1.length < (M.arity x.text).1 ∨ (M.arity x.text).2.1 < M.bump ahead (M.argsM r []).1.length then (⟨[], []⟩, x.at_, 3)
    else (⟨x.text, (M.argsM r []).1⟩, 0, 0) := by
    rw [M.callM_cons]; rw [if_neg hc3]
  refine useR (arity_spec _ _) fun w2 hg2 => ⟨_, _, _, rfl, hg2.block _ q2, hg2.block _ q1, br_not (fun h w3 hL3 w4 hL4 => ?_) (fun h b4 hb4 w3 hL3 => ?_)⟩
  · exact fail w4 _ _ (((hg1.trans hg2).loc hL3 hbs).loc hL4 hbs) (by rw [hm0, if_pos h])
  rw [if_neg (by simp [h])] at hm0
  have hgw2 := hg1.trans hg2
  have hz2 := hgw2.size
  have hbs4 : ∀ k, k ∈ [b4, b1, b] → w.heap.size ≤ k := by intro k hk; simp at hk; omega
  have hgw3 := hgw2.loc hL3 hbs4
  refine ⟨fun i cArgs n w' => ∃ (j : Nat) (acc : List M.ArgM), i = j ∧ 1 ≤ j ∧ j ≤ r.length + 1 ∧ n = r.length + 1 - j ∧ acc.length = j - 1 ∧ M.argsM r [] = M.argsM ((x :: r).drop j) acc ∧ Bld M.argR w.heap.size w' cArgs 5 acc [b4, b1, b] ∧ Grow w w' ∧ (∀ k, k ∈ [b4, b1, b] → k < w'.heap.size), r.length, ⟨1, [], rfl, by omega, by omega, by omega, by simp, by simp, Bld.nil _ _ _ _ _, hgw3, hL3.mem⟩, ?_⟩
  rintro i cArgs n w4 ⟨j, acc, rfl, hj1, hj2, rfl, hal, hma, hB, hg4, hmem⟩
  have hcl := hB.len M.niceArg
  refine br_dec (fun h1 => ⟨by omega, h1, ?_⟩) (fun h1 => ?_)
  · have hjl : j < (x :: r).length := by rw [List.length_cons]; omega
    obtain ⟨ad, p1, p2, p3, _, _, p4⟩ := rd w4 hg4 j hjl
    refine ⟨ad, p1, (x :: r)[j].kind, (x :: r)[j].text, (x :: r)[j].at_, by simpa using p3, ?_⟩
    have hyok := hok (x :: r)[j] (List.getElem_mem hjl)
    have hdr : (x :: r).drop j = (x :: r)[j] :: (x :: r).drop (j + 1) := List.drop_eq_getElem_cons hjl
    rw [hdr, M.argsM] at hma
    generalize hy : (x :: r)[j] = y at *
    refine (arg_spec y w4 hyok.1 hyok.2).mono ?_
    rintro e w5 ⟨sl, rfl, hl5, hg5⟩
    have hgw5 := hg4.trans hg5
    have hz5 := hg5.size
    have hB5 := hB.grow M.niceArg hg5
    refine ⟨_, _, sl, _, _, _, rfl, hg5.block _ (hmem _ (by simp)), hg5.block _ (hmem _ (by simp)), hg5.block _ (hmem _ (by simp)), fun b5 hb5 => ?_⟩
    have hz4 := hg4.size
    have hbs5 : ∀ k, k ∈ [b5, b4, b1, b] → w.heap.size ≤ k := by intro k hk; simp at hk; omega
    refine br_ndec (fun h2 w6 hL6 => ⟨by omega, h1, ?_⟩) (fun h2 b6 hb6 w6 hL6 => ?_)
    · obtain ⟨ad2, s1, s2, _, _, _, s3⟩ := rd w6 (hgw5.loc hL6 hbs5) j hjl
      rw [p1] at s1
      cases s1
      rw [hy] at s3
      rw [if_pos h2] at hma
      refine ⟨ad, p1, by rw [add_block, add_block]; omega, y.at_, by simpa using s3, fun w7 hL7 => ?_⟩
      · rw [hma] at hm0
        exact fail w7 _ _ ((hgw5.loc hL6 hbs5).loc hL7 hbs5) (by rw [hm0, if_pos h2])
    · rw [if_neg (by simpa using h2)] at hma
      have hbs6 : ∀ k, k ∈ [b6, b5, b4, b1, b] → w.heap.size ≤ k := by intro k hk; simp at hk; omega
      have hB6 : Bld M.argR w.heap.size w6 cArgs 5 acc [b6, b5, b4, b1, b] := ((hB5.more hb5).more hb6).loc M.niceArg hL6 (fun k hk => .inl hk)
      have hg6 := hgw5.loc hL6 hbs6
      obtain ⟨old, hpre, hex⟩ := hB6.pre (bytes := 72) (n := 1) (by omega)
      refine ⟨old, hpre, hB5.ne hb6, hB5.ne hb5, hB5.neB (by simp), hB5.neB (by simp), hB5.neB (by simp), fun s w7 hr => ?_⟩
      have hmem6 := hL6.mem
      have hz6 := hL6.size
      have hx6 : M.argR w6 (rng w4.heap.size w5.heap.size) (M.argM y).1 [Value.int .i64 (M.argM y).1.kind, Value.string (bs (M.argM y).1.name), Value.slice sl.a sl.len sl.cap, Value.int .i64 (M.argM y).1.int, Value.string (bs (M.argM y).1.text)] := by
        refine ⟨sl, rfl, hl5.keep (fun _ _ h => h) fun k hk => hL6.block k hk.2 ?_⟩
        have m1 := hmem b4 (by simp)
        have m2 := hmem b1 (by simp)
        have m3 := hmem b (by simp)
        have := hk.1
        have := hk.2
        simp; omega
      obtain ⟨hB7, hG7, hl7⟩ := Bld.push M.niceArg hex hg6.size hmem6 hx6 (fun k hk => ⟨⟨Nat.le_trans hz4 hk.1, Nat.lt_of_lt_of_le hk.2 hz6⟩, fun ad had => by
          obtain ⟨cells, hO⟩ := hB.own
          have := (hO.lt had).1
          have := hk.1
          omega, by
          have m1 := hmem b4 (by simp)
          have m2 := hmem b1 (by simp)
          have m3 := hmem b (by simp)
          have := hk.1
          have := hk.2
          simp; omega⟩) hr
      refine ⟨inI64 (by omega) (by omega), fun w8 hL8 => ⟨r.length + 1 - (j + 1), by omega, j + 1, acc ++ [(M.argM y).1], by omega, by omega, by omega, rfl, by simp; omega, hma, ?_, ?_, ?_⟩⟩
      · exact (hB7.loc M.niceArg hL8 (fun k hk => .inl hk)).less (by intro k hk; simp at hk ⊢; omega)
      · exact (hg6.and hG7.bel).loc hL8 hbs6
      · intro k hk; exact hL8.mem k (by simp at hk ⊢; omega)
  · have hje : j = r.length + 1 := by omega
    have hma' : M.argsM r [] = (acc, 0, 0) := by rw [hma, List.drop_eq_nil_of_le (by rw [List.length_cons]; omega), M.argsM]
    rw [hma'] at hm0
    simp only [ne_eq, not_true, if_false] at hm0
    refine ⟨fun n w' => n = M.bump ahead acc.length ∧ w' = w4, br_intro (fun h2 => ⟨inI64 (by omega) (by omega), ?_, rfl⟩) (fun h2 => ⟨?_, rfl⟩), ?_⟩
    · rw [M.bump, if_pos h2, hcl]
    · rw [M.bump, if_neg (by simp [h2]), hcl]
    rintro _ w5 ⟨rfl, rfl⟩
    refine br_dec (fun h2 w6 hL6 w7 hL7 => ?_) (fun h2 => br_dec (fun h3 w6 hL6 w7 hL7 => ?_) (fun h3 w6 hL6 => ?_))
    · exact fail w7 _ _ ((hg4.loc hL6 hbs4).loc hL7 hbs4) (by rw [hm0, if_pos (.inl h2)])
    · exact fail w7 _ _ ((hg4.loc hL6 hbs4).loc hL7 hbs4) (by rw [hm0, if_pos (.inr h3)])
    · exact fin w6 cArgs ⟨x.text, acc⟩ 0 0 (hg4.loc hL6 hbs4) (by rw [hm0, if_neg (fun e => e.elim h2 h3)]) ((hB.loc M.niceArg hL6 (by intro k hk; exact .inl hk)).lst M.niceArg)

end Go.Proofs.Ytpedoaeieabhoaa.V

/- Contracts: a pipeline (reference 19). -/
namespace Go.Proofs.Ytpedoaeieabhoaa.V
open Go Go.Vc Go.Proofs
open Go.Vc (Bytes)

theorem pipeline_spec (l : Sl) (ls : List M.W) (at_ : Int) (w : World) {S : Nat → Prop} (hl : LstAt M.wR w S l ls) (hS : ∀ k, S k → k < w.heap.size) (hok : ∀ x ∈ ls, M.WOk x) (hll : ls.length ≤ 1099511627776) :
    Calls P F_ref19_Parse #[.slice l.a l.len l.cap, .int .i64 at_] w (fun e w' => ∃ sl : Sl, e = .returned (.tuple #[.slice sl.a sl.len sl.cap, .int .i64 (M.pipeM ls at_).2.1, .int .i64 (M.pipeM ls at_).2.2]) ∧ LstAt (M.callR w' (rng w.heap.size w'.heap.size)) w' (rng w.heap.size w'.heap.size) sl (M.pipeM ls at_).1 ∧ Grow w w') := by
  refine ok_ref19_Parse _ _ ?_
  unfold vc_ref19_Parse
  have hlen := hl.len
  have hle := hl.le
  have rd := fun (w' : World) (hg : Grow w w') (i : Nat) (hi : i < ls.length) => M.words_read hl hS hg i hi
  generalize hR : (fun (e : Ending) (w' : World) => ∃ sl : Sl, e = .returned (.tuple #[.slice sl.a sl.len sl.cap, .int .i64 (M.pipeM ls at_).2.1, .int .i64 (M.pipeM ls at_).2.2]) ∧ LstAt (M.callR w' (rng w.heap.size w'.heap.size)) w' (rng w.heap.size w'.heap.size) sl (M.pipeM ls at_).1 ∧ Grow w w') = R
  have fin : ∀ (w1 : World) (sl : Sl) (c : List M.CallM) (p e : Int), Grow w w1 → M.pipeM ls at_ = (c, p, e) → LstAt (M.callR w1 (rng w.heap.size w1.heap.size)) w1 (rng w.heap.size w1.heap.size) sl c → R (Ending.returned (Value.tuple #[.slice sl.a sl.len sl.cap, .int .i64 p, .int .i64 e])) w1 := by
    intro w1 sl c p e hg hm hl
    rw [← hR, hm]
    exact ⟨sl, rfl, hl, hg⟩
  have fail : ∀ (w1 : World) (p e : Int), Grow w w1 → M.pipeM ls at_ = ([], p, e) → R (Ending.returned (Value.tuple #[.slice none 0 0, .int .i64 p, .int .i64 e])) w1 :=
    fun w1 p e hg hm => fin w1 ⟨none, 0, 0⟩ [] p e hg hm (LstAt.nil _ _)
  refine br_dec (fun h => ?_) (fun h => ?_)
  · have : ls = [] := List.eq_nil_of_length_eq_zero (by omega)
    exact fail w _ _ (Grow.refl _) (by rw [M.pipeM, if_pos this])
  have hne : ls ≠ [] := fun e => h (by rw [hlen, e]; rfl)
  have hpos : 0 < ls.length := List.length_pos_iff.2 hne
  refine ⟨fun out i n w' => ∃ (j f : Nat) (acc : List M.CallM), i = j ∧ j < ls.length ∧ n = ls.length - j ∧ n ≤ f ∧ M.pipeM ls at_ = M.pipeF at_ f (ls.drop j) acc ∧ acc.length ≤ 16 ∧ Bld M.callR w.heap.size w' out 2 acc [] ∧ Grow w w', ls.length, ⟨0, ls.length, [], rfl, hpos, rfl, by omega, by rw [M.pipeM, if_neg hne]; rfl, by simp, Bld.nil _ _ _ _ _, Grow.refl _⟩, ?_⟩
  rintro out i n w1 ⟨j, f, acc, rfl, hj, rfl, hf, hm, hal, hB, hg⟩
  obtain ⟨f', rfl⟩ : ∃ f', f = f' + 1 := ⟨f - 1, by omega⟩
  have hcl := hB.len M.niceCall
  rw [M.pipeF, M.headAt_drop hj] at hm
  have hsp := M.spanW_le (ls.drop j)
  rw [List.length_drop] at hsp
  refine ⟨fun to w' => to = ((j + M.spanW (ls.drop j) : Nat) : Int) ∧ w' = w1, ?_, ?_⟩
  · refine ⟨fun to n w' => ∃ k : Nat, to = k ∧ j ≤ k ∧ k ≤ ls.length ∧ n = ls.length - k ∧ j + M.spanW (ls.drop j) = k + M.spanW (ls.drop k) ∧ w' = w1, ls.length - j, ⟨j, rfl, Nat.le_refl _, by omega, rfl, rfl, rfl⟩, ?_⟩
    rintro to n w' ⟨k, rfl, hk1, hk2, rfl, hk3, rfl⟩
    refine br_dec (fun h1 => ⟨by omega, h1, ?_⟩) (fun h1 => ⟨?_, rfl⟩)
    · have hlt : k < ls.length := by omega
      obtain ⟨ad, p1, _, _, p2, _⟩ := rd w' hg k hlt
      refine ⟨ad, p1, ls[k].kind, by simpa using p2, br_ndec (fun h2 => ⟨inI64 (by omega) (by omega), ls.length - (k + 1), by omega, k + 1, by omega, by omega, by omega, rfl, ?_, rfl⟩) (fun h2 => ⟨?_, rfl⟩)⟩
      · rw [hk3, M.spanW_go hlt h2]; omega
      · rw [hk3, M.spanW_stop hlt h2]; rfl
    · rw [hk3, List.drop_eq_nil_of_le (by omega)]; rfl
  rintro _ w2 ⟨rfl, rfl⟩
  generalize hsn : M.spanW (ls.drop j) = m at *
  refine br_dec (fun h1 => fun w3 hL3 => ⟨by omega, by omega, ?_⟩) (fun h1 => ⟨by omega, by omega, by omega, ?_⟩)
  · have hg3 : Grow w w3 := hg.loc hL3 (by simp)
    obtain ⟨ad, p1, _, _, _, _, p2⟩ := rd w3 hg3 j hj
    exact ⟨ad, p1, ls[j].at_, by simpa using p2, fail w3 _ _ hg3 (by rw [hm, if_pos (by omega)])⟩
  rw [if_neg (by omega)] at hm
  have hsub : LstAt M.wR w2 S ⟨cutA l.a ((j : Int)).toNat l.cap 3, (((j + m : Nat) : Int)).toNat - ((j : Int)).toNat, l.cap - ((j : Int)).toNat⟩ ((ls.drop j).take m) := by
    have := (hl.keep (R' := M.wR) (w' := w2) (fun _ _ h => h) (fun k hk => hg.block k (hS k hk))).sub M.wR.size j (j + m) (by omega) (by omega) (by omega)
    rw [Nat.add_sub_cancel_left] at this
    rw [Int.toNat_natCast, Int.toNat_natCast, Nat.add_sub_cancel_left]
    exact this
  have hcall := call_spec _ ((ls.drop j).take m) (decide (0 < acc.length)) w2 hsub (fun k hk => Nat.lt_of_lt_of_le (hS k hk) hg.size) (by
    intro e
    have : ((ls.drop j).take m).length = 0 := by rw [e]; rfl
    rw [List.length_take, List.length_drop] at this
    omega) (fun x hx => hok x (List.mem_of_mem_drop (List.mem_of_mem_take hx))) (by rw [List.length_take, List.length_drop]; omega)
  have hdec : decide ((0 : Int) < ((out.len : Nat) : Int)) = decide (0 < acc.length) := decide_eq_decide.2 (by omega)
  rw [hdec]
  refine hcall.mono ?_
  generalize M.callM ((ls.drop j).take m) (decide (0 < acc.length)) = c at *
  rintro e w3 ⟨sl, rfl, hl3, hg3⟩
  have hgw3 := hg.trans hg3
  have hB3 := hB.grow M.niceCall hg3
  refine ⟨_, sl, _, _, rfl, fun b hb => br_ndec (fun h2 w4 hL4 => ?_) (fun h2 => ?_)⟩
  · exact fail w4 _ _ (hgw3.trans (hL4.g1 hb)) (by rw [hm, if_pos h2])
  rw [if_neg (by simpa using h2)] at hm
  refine br_dec (fun h3 w4 hL4 => ⟨by omega, by omega, ?_⟩) (fun h3 b1 hb1 w4 hL4 => ?_)
  · have hg4 := hgw3.trans (hL4.g1 hb)
    obtain ⟨ad, p1, _, _, _, _, p2⟩ := rd w4 hg4 j hj
    exact ⟨ad, p1, ls[j].at_, by simpa using p2, fail w4 _ _ hg4 (by rw [hm, if_pos (by omega)])⟩
  rw [if_neg (by omega)] at hm
  have hg4 := hgw3.trans (hL4.g2 hb1 hb)
  have hB4 := hB3.grow M.niceCall (hL4.g2 hb1 hb)
  obtain ⟨old, hpre, hex⟩ := hB4.pre (bytes := 40) (n := 1) (by omega)
  refine ⟨old, hpre, hB3.ne hb1, hB3.ne hb, fun s w5 hr => ?_⟩
  have hz := hL4.size
  have hx4 : M.callR w4 (rng w2.heap.size w3.heap.size) c.1 [Value.string (bs c.1.name), Value.slice sl.a sl.len sl.cap] := by
    have hk : ∀ k, rng w2.heap.size w3.heap.size k → w4.heap[k]? = w3.heap[k]? := fun k hk => (hL4.g2 hb1 hb).block k hk.2
    exact ⟨sl, rfl, hl3.keep (fun _ _ h => h.keep hk) hk⟩
  obtain ⟨hB5, hG5, hl5⟩ := Bld.push M.niceCall hex hg4.size (by simp) hx4 (fun k hk => ⟨⟨Nat.le_trans hg.size hk.1, Nat.lt_of_lt_of_le hk.2 hz⟩, fun ad had => by
      obtain ⟨cells, hO⟩ := hB.own
      have := (hO.lt had).1
      have := hk.1
      omega, by simp⟩) hr
  have hg5 := hg4.and hG5.bel
  have hdd : (ls.drop j).drop m = ls.drop (j + m) := List.drop_drop
  rw [hdd] at hm
  refine br_dec (fun h4 => ?_) (fun h4 => ⟨by omega, by omega, ?_⟩)
  · rw [List.drop_eq_nil_of_le (by omega)] at hm
    exact fin w5 s _ _ _ hg5 hm (hB5.lst M.niceCall)
  have hlt : j + m < ls.length := by omega
  rw [List.drop_eq_getElem_cons hlt] at hm
  simp only at hm
  obtain ⟨ad, p1, _, _, _, p2, _⟩ := rd w5 hg5 (j + m) hlt
  refine ⟨ad, p1, ls[j + m].text, by rw [Int.toNat_natCast]; exact p2, br_ndec (fun h5 w6 hL6 => ⟨by omega, by omega, ?_⟩) (fun h5 => ⟨inI64 (by omega) (by omega), br_dec (fun h6 => ?_) (fun h6 => ⟨inI64 (by omega) (by omega), ?_⟩)⟩)⟩
  · have hz3 := hgw3.size
    have hg6 := hg5.loc hL6 (by intro k hk; simp at hk; omega)
    obtain ⟨ad, p1, _, _, _, _, p2⟩ := rd w6 hg6 (j + m) hlt
    exact ⟨ad, p1, ls[j + m].at_, by rw [Int.toNat_natCast]; exact p2, fail w6 _ _ hg6 (by rw [hm, if_pos h5])⟩
  · rw [if_neg (by simpa using h5), if_pos (List.drop_eq_nil_of_le (by omega))] at hm
    exact fail w5 _ _ hg5 hm
  · have hlt2 : j + m + 1 < ls.length := by omega
    have hnn : ¬ ls.drop (j + m + 1) = [] := by
      intro e
      have e2 : (ls.drop (j + m + 1)).length = 0 := by rw [e]; rfl
      rw [List.length_drop] at e2
      omega
    rw [if_neg (by simpa using h5), if_neg hnn] at hm
    exact ⟨ls.length - (j + m + 1), by omega, j + m + 1, f', acc ++ [c.1], by omega, hlt2, rfl, by omega, hm, by simp; omega, hB5, hg5⟩

end Go.Proofs.Ytpedoaeieabhoaa.V

/- Contracts: small steps of the reader (reference 20). -/
namespace Go.Proofs.Ytpedoaeieabhoaa.V
open Go Go.Vc Go.Proofs
open Go.Vc (Bytes)

theorem fail_spec {n₀ : Nat} {w : World} {g : Nat} {len : Int} {D : Sl} {st : M.St} (h : PIn n₀ w g len D st) (a e : Int) :
    Calls P F_ref20_Parser_fail #[.pointer (some ⟨g, 0, none⟩), .int .i64 a, .int .i64 e] w (fun en w' => en = .returned (.bool false) ∧ PErr w' g (a, e) ∧ Fr (fun k => k = g) w w') := by
  refine ok_ref20_Parser_fail _ _ _ ?_
  unfold vc_ref20_Parser_fail
  obtain ⟨L, hp⟩ := h.err0
  refine ⟨0, hp.c5, br_dec (fun _ => ⟨hp.s4, (hp.w4 a).s5, rfl, ⟨L, _, _, D, (hp.w4 a).w5 e⟩, ?_⟩) (fun h => absurd rfl h)⟩
  exact (setp_fr w g 4 _).trans (setp_fr _ g 5 _) fun k hk => .inl hk

theorem count_spec {n₀ : Nat} {w : World} {g : Nat} {len : Int} {D : Sl} {st : M.St} (h : PIn n₀ w g len D st) (a : Int) :
    Calls P F_ref20_Parser_count #[.pointer (some ⟨g, 0, none⟩), .int .i64 a] w (Outc g w (M.countM st a) (fun en => en = .returned (.bool false)) (fun st1 en w' => en = .returned (.bool true) ∧ st1.l = st.l ∧ st1.defs = st.defs ∧ PIn n₀ w' g len D st1)) := by
  refine ok_ref20_Parser_count _ _ ?_
  unfold vc_ref20_Parser_count
  obtain ⟨L, hp, hl⟩ := h.par
  have hfew := h.few
  refine ⟨_, hp.c1, br_dec (fun h1 => ?_) (fun h1 => ⟨_, hp.c1, inI64 (by omega) (by omega), hp.s1, ?_⟩)⟩
  · refine (fail_spec h a 3).mono ?_
    rintro _ w' ⟨rfl, h2, h3⟩
    exact ⟨false, rfl, h3, .inl ⟨_, by rw [M.countM, if_pos (by omega)], rfl, h2⟩⟩
  · refine ⟨setp_fr w g 1 _, .inr ⟨{ st with size := st.size + 1 }, by rw [M.countM, if_neg (by omega)], rfl, rfl, rfl, ⟨L, hp.w1 _, ?_⟩, h.low, by show st.size + 1 ≤ 1024; omega⟩⟩
    refine hl.keep (fun _ _ h => h) fun k hk => (setp_fr w g 1 _).block k ?_ ?_
    · have := h.low; have := h.lt; omega
    · have := h.low; show ¬ k = g; omega

theorem ppipe_spec {n₀ : Nat} {w : World} {g : Nat} {len : Int} {D : Sl} {st : M.St} (h : PIn n₀ w g len D st) {S : Nat → Prop} {slw : Sl} {pc : M.Piece} (hw : LstAt M.wR w S slw pc.words) (hS : ∀ k, S k → k < w.heap.size ∧ k ≠ g)
    (hok : ∀ x ∈ pc.words, M.WOk x) (hll : pc.words.length ≤ 1099511627776) {from_ : Int} (m : Nat) (hfm : from_ = m) (hm : m ≤ pc.words.length) :
    Calls P F_ref20_Parser_pipe #[.pointer (some ⟨g, 0, none⟩), .agg #[.slice slw.a slw.len slw.cap, .string (bs pc.head), .int .i64 pc.at_], .int .i64 from_] w
      (Outc g w (M.pipeP pc m) (fun en => ∃ sl : Sl, en = .returned (.tuple #[.slice sl.a sl.len sl.cap, .bool false])) (fun p en w' => ∃ sl : Sl, en = .returned (.tuple #[.slice sl.a sl.len sl.cap, .bool true]) ∧ LstAt (M.callR w' (rng w.heap.size w'.heap.size)) w' (rng w.heap.size w'.heap.size) sl p ∧ PIn n₀ w' g len D st)) := by
  subst hfm
  refine ok_ref20_Parser_pipe _ _ _ _ _ ?_
  unfold vc_ref20_Parser_pipe
  have hwl := hw.len
  intro b hb w0 hL0
  have hg0 := hL0.g1 hb
  have hmb := hL0.mem b (by simp)
  refine ⟨by omega, by omega, ?_⟩
  have hsub := (hw.keep (R' := M.wR) (w' := w0) (fun _ _ h => h) (fun k hk => hg0.block k (hS k hk).1)).sub M.wR.size m pc.words.length hm (Nat.le_refl _) (by omega)
  rw [List.take_of_length_le (by rw [List.length_drop]; exact Nat.le_refl _)] at hsub
  rw [Int.toNat_natCast, hwl]
  refine (pipeline_spec _ (pc.words.drop m) pc.at_ w0 hsub (fun k hk => Nat.lt_of_lt_of_le (hS k hk).1 hg0.size) (fun x hx => hok x (List.mem_of_mem_drop hx)) (by rw [List.length_drop]; omega)).mono ?_
  rintro _ w1 ⟨sl, rfl, hl1, hg1⟩
  have hgg := hg0.trans hg1
  refine ⟨sl, _, _, rfl, hg1.block _ hmb, br_ndec (fun h1 => ?_) (fun h1 => ?_)⟩
  · refine (fail_spec (h.grow hgg) _ _).mono ?_
    rintro _ w2 ⟨rfl, h2, h3⟩
    have hlt := h.lt
    have hs := hg1.size
    refine ⟨false, rfl, h3.block b (by omega) (by omega), (hgg.fr (X := fun k => k = g)).trans h3 (fun k hk => .inl hk), .inl ⟨_, by rw [M.pipeP, if_pos h1], ⟨⟨none, 0, 0⟩, rfl⟩, h2⟩⟩
  · have hs := hg0.size
    refine ⟨hgg.fr, .inr ⟨_, by rw [M.pipeP, if_neg (by simpa using h1)], sl, rfl, ?_, h.grow hgg⟩⟩
    exact hl1.mono (fun _ _ h => h.mono fun k hk => hk.sub hs (Nat.le_refl _)) fun k hk => hk.sub hs (Nat.le_refl _)

theorem called_spec {n₀ : Nat} {w : World} {g : Nat} {len : Int} {D : Sl} {st : M.St} (h : PIn n₀ w g len D st) {S : Nat → Prop} {slw : Sl} {pc : M.Piece} (hw : LstAt M.wR w S slw pc.words) (hS : ∀ k, S k → k < w.heap.size ∧ k ≠ g) (hok : ∀ x ∈ pc.words, M.WOk x) :
    Calls P F_ref20_Parser_called #[.pointer (some ⟨g, 0, none⟩), .agg #[.slice slw.a slw.len slw.cap, .string (bs pc.head), .int .i64 pc.at_]] w
      (Outc g w (M.calledM pc) (fun en => en = .returned (.tuple #[.string (bs []), .bool false])) (fun s en w' => en = .returned (.tuple #[.string (bs s), .bool true]) ∧ PIn n₀ w' g len D st)) := by
  refine ok_ref20_Parser_called _ _ _ _ ?_
  unfold vc_ref20_Parser_called
  have hwl := hw.len
  have rd := fun (w' : World) (hg : Grow w w') (i : Nat) (hi : i < pc.words.length) => M.words_read hw (fun k hk => (hS k hk).1) hg i hi
  have hlt := h.lt
  intro b hb
  have bad : ∀ (w1 : World) (e : Int), Grow w w1 → b < w1.heap.size → M.calledM pc = .error (pc.at_, e) →
      Calls P F_ref20_Parser_fail #[Value.pointer (some ⟨g, 0, none⟩), Value.int .i64 pc.at_, Value.int .i64 e] w1 (fun (e_ : Ending) (w_1 : World) =>
        ∃ r : Bool, e_ = Ending.returned (Value.bool r) ∧ w_1.heap[b]? = w1.heap[b]? ∧
        Outc g w (M.calledM pc) (fun en => en = .returned (.tuple #[.string (bs []), .bool false])) (fun s en w' => en = .returned (.tuple #[.string (bs s), .bool true]) ∧ PIn n₀ w' g len D st) (Ending.returned (Value.tuple #[Value.string (bs ([] : Bytes)), Value.bool r])) w_1) := by
    intro w1 e hg hm he
    refine (fail_spec (h.grow hg) _ _).mono ?_
    rintro _ w2 ⟨rfl, h2, h3⟩
    exact ⟨false, rfl, h3.block b hm (by omega), (hg.fr (X := fun k => k = g)).trans h3 (fun k hk => .inl hk), .inl ⟨_, he, rfl, h2⟩⟩
  by_cases h2 : pc.words.length < 2
  · have he := M.calledM_short pc h2
    refine ⟨fun _ => False, br_dec (fun _ w1 hL1 => bad w1 33 (hL1.g1 hb) (hL1.mem b (by simp)) he) (fun h => absurd (by omega) h), fun _ h => h.elim⟩
  have h1l : 1 < pc.words.length := by omega
  have he := M.calledM_long pc h1l
  have hyok := hok _ (List.getElem_mem h1l)
  generalize hy : pc.words[1] = y at *
  refine ⟨fun w' => Grow w w' ∧ b < w'.heap.size ∧ ¬ y.kind ≠ 5, br_dec (fun h => absurd h (by omega)) (fun _ => ⟨by omega, by omega, ?_⟩), ?_⟩
  · obtain ⟨ad, p1, p2, _⟩ := rd w (Grow.refl _) 1 h1l
    refine ⟨ad, p1, fun w1 hL1 => ?_⟩
    have hg1 := hL1.g1 hb
    obtain ⟨ad', q1, q2, _, q3, _⟩ := rd w1 hg1 1 h1l
    rw [p1] at q1
    cases q1
    rw [hy] at q3
    refine ⟨y.kind, by simpa using q3, br_ndec (fun h3 => bad w1 33 hg1 (hL1.mem b (by simp)) (by rw [he, if_pos h3])) (fun h3 => ⟨hg1, hL1.mem b (by simp), by simpa using h3⟩)⟩
  · rintro w1 ⟨hg1, hm1, hk⟩
    rw [if_neg hk] at he
    obtain ⟨ad, p1, p2, _, _, p3, _⟩ := rd w1 hg1 1 h1l
    rw [hy] at p3
    have hyl := hyok.1
    refine ⟨by omega, by omega, ad, p1, y.text, by simpa using p3, useR (name_spec _ _ (by omega)) fun w2 hg2 => ⟨_, rfl, hg2.block _ hm1, br_not (fun h3 => ?_) (fun h3 => ⟨by omega, by omega, ?_⟩)⟩⟩
    · exact bad w2 31 (hg1.trans hg2) (Nat.lt_of_lt_of_le hm1 hg2.size) (by rw [he, if_pos h3])
    · have hgg := hg1.trans hg2
      obtain ⟨ad, p1, p2, _, _, p3, _⟩ := rd w2 hgg 1 h1l
      rw [hy] at p3
      exact ⟨ad, p1, y.text, by simpa using p3, hgg.fr, .inr ⟨_, by rw [he, if_neg (by simp [h3])], rfl, h.grow hgg⟩⟩

end Go.Proofs.Ytpedoaeieabhoaa.V

/- Contracts: an action's words, a node of one action (reference 20). -/
namespace Go.Proofs.Ytpedoaeieabhoaa.V
open Go Go.Vc Go.Proofs
open Go.Vc (Bytes)

theorem pwords_spec {n₀ : Nat} {w : World} {g : Nat} {len : Int} {D : Sl} {st : M.St} (h : PIn n₀ w g len D st) (x : M.W) (hs : x.text.length ≤ 1099511627776) (ha0 : 0 ≤ x.at_) (ha1 : x.at_ ≤ 1099511627776) :
    Calls P F_ref20_Parser_words #[.pointer (some ⟨g, 0, none⟩), .agg #[.int .i64 x.kind, .string (bs x.text), .int .i64 x.at_]] w
      (Outc g w (M.wordsP x) (fun en => en = .returned (.tuple #[.agg #[.slice none 0 0, .string (bs []), .int .i64 0], .bool false])) (fun pc en w' => ∃ sl : Sl, en = .returned (.tuple #[.agg #[.slice sl.a sl.len sl.cap, .string (bs pc.head), .int .i64 pc.at_], .bool true]) ∧ LstAt M.wR w' (rng w.heap.size w'.heap.size) sl pc.words ∧ PIn n₀ w' g len D st)) := by
  refine ok_ref20_Parser_words _ _ _ _ ?_
  unfold vc_ref20_Parser_words
  have hlt := h.lt
  intro b hb b1 hb1 w0 hL0
  have hg0 := hL0.g2 hb1 hb
  have hmb := hL0.mem b (by simp)
  have hmb1 := hL0.mem b1 (by simp)
  have hbs : ∀ k, k ∈ [b1, b] → w.heap.size ≤ k := by intro k hk; simp at hk; omega
  refine (words_spec x.text x.at_ w0 ha0 ha1 hs).mono ?_
  rintro _ w1 ⟨sl, rfl, hO, hg1⟩
  have hgg := hg0.trans hg1
  have q0 := Nat.lt_of_lt_of_le hmb hg1.size
  have q1 := Nat.lt_of_lt_of_le hmb1 hg1.size
  have bad : ∀ (a e : Int), M.wordsP x = .error (a, e) →
      Calls P F_ref20_Parser_fail #[Value.pointer (some ⟨g, 0, none⟩), Value.int .i64 a, Value.int .i64 e] w1 (fun (e_1 : Ending) (w_2 : World) =>
        ∃ r3 : Bool, e_1 = Ending.returned (Value.bool r3) ∧ w_2.heap[b1]? = w1.heap[b1]? ∧ w_2.heap[b]? = w1.heap[b]? ∧
        ∀ w_3 : World, LocB [b1, b] w_2 w_3 →
        Outc g w (M.wordsP x) (fun en => en = .returned (.tuple #[.agg #[.slice none 0 0, .string (bs []), .int .i64 0], .bool false])) (fun pc en w' => ∃ sl : Sl, en = .returned (.tuple #[.agg #[.slice sl.a sl.len sl.cap, .string (bs pc.head), .int .i64 pc.at_], .bool true]) ∧ LstAt M.wR w' (rng w.heap.size w'.heap.size) sl pc.words ∧ PIn n₀ w' g len D st) (Ending.returned (Value.tuple #[Value.agg #[Value.slice none 0 0, Value.string (bs ([] : Bytes)), Value.int .i64 0], Value.bool r3])) w_3) := by
    intro a e he
    refine (fail_spec (h.grow hgg) a e).mono ?_
    rintro _ w2 ⟨rfl, h2, h3⟩
    refine ⟨false, rfl, h3.block b1 q1 (by omega), h3.block b q0 (by omega), fun w3 hL3 => ⟨?_, .inl ⟨_, he, rfl, h2.keep (hL3.block g h2.lt (by simp; omega))⟩⟩⟩
    exact ((hgg.fr (X := fun k => k = g)).trans h3 (fun k hk => .inl hk)).loc hL3 (fun k hk => .inr (hbs k hk))
  refine ⟨sl, _, _, rfl, hg1.block _ hmb1, hg1.block _ hmb, br_ndec (fun h1 => bad _ _ (by rw [M.wordsP, if_pos h1])) (fun h1 => ?_)⟩
  have hwp : M.wordsP x = match (M.words x.text x.at_).1 with
    | [] => .error (x.at_, 33)
    | y :: r => .ok ⟨y :: r, if y.kind = 1 then y.text else [], x.at_⟩ := by
    rw [M.wordsP, if_neg (by simpa using h1)]
    rfl
  have hl1 := M.Own.words hO (S := rng w0.heap.size w1.heap.size) (fun ad had => ⟨(hO.lt had).2, (hO.lt had).1⟩)
  generalize (M.words x.text x.at_).1 = ws at *
  have hwl := hl1.len
  refine br_dec (fun h2 => bad _ _ ?_) (fun h2 => fun b2 hb2 => ⟨by omega, by omega, ?_⟩)
  · have : ws = [] := List.eq_nil_of_length_eq_zero (by omega)
    rw [hwp, this]
  obtain ⟨y, r, rfl⟩ : ∃ y r, ws = y :: r := by cases ws with
    | nil => simp at hwl; omega
    | cons y r => exact ⟨y, r, rfl⟩
  have hz0 := hg0.size
  have hz1 := hg1.size
  have hbs2 : ∀ k, k ∈ [b2, b1, b] → w.heap.size ≤ k := by intro k hk; simp at hk; omega
  obtain ⟨ad, p1, _⟩ := M.words_read hl1 (fun k hk => hk.2) (Grow.refl w1) 0 (by simp)
  refine ⟨ad, p1, fun w2 hL2 => ?_⟩
  have apart : ∀ k, rng w0.heap.size w1.heap.size k → k ∉ [b2, b1, b] := by
    intro k hk
    have := hk.1
    have := hk.2
    simp; omega
  have hl2 := hl1.keep (R' := M.wR) (w' := w2) (fun _ _ h => h) (fun k hk => hL2.block k hk.2 (apart k hk))
  obtain ⟨ad', p1', _, _, p2, p3, _⟩ := M.words_read hl2 (fun k hk => Nat.lt_of_lt_of_le hk.2 hL2.size) (Grow.refl w2) 0 (by simp)
  rw [p1] at p1'
  cases p1'
  have hgw2 := hgg.loc hL2 hbs2
  have fin : ∀ (w3 : World) (hd : Bytes), LocB [b2, b1, b] w2 w3 → hd = (if y.kind = 1 then y.text else []) →
      Outc g w (M.wordsP x) (fun en => en = .returned (.tuple #[.agg #[.slice none 0 0, .string (bs []), .int .i64 0], .bool false])) (fun pc en w' => ∃ sl : Sl, en = .returned (.tuple #[.agg #[.slice sl.a sl.len sl.cap, .string (bs pc.head), .int .i64 pc.at_], .bool true]) ∧ LstAt M.wR w' (rng w.heap.size w'.heap.size) sl pc.words ∧ PIn n₀ w' g len D st) (Ending.returned (Value.tuple #[Value.agg #[Value.slice sl.a sl.len sl.cap, Value.string (bs hd), Value.int .i64 x.at_], Value.bool true])) w3 := by
    intro w3 hd hL3 hhd
    subst hhd
    have hg3 := hgw2.loc hL3 hbs2
    have hz2 := hL2.size
    have hz3 := hL3.size
    refine ⟨hg3.fr, .inr ⟨_, hwp, sl, rfl, ?_, h.grow hg3⟩⟩
    exact (hl2.keep (R' := M.wR) (w' := w3) (fun _ _ h => h) (fun k hk => hL3.block k (Nat.lt_of_lt_of_le hk.2 hz2) (apart k hk))).mono (fun _ _ h => h) fun k hk => hk.sub hz0 (by omega)
  refine ⟨y.kind, by simpa using p2, br_dec (fun h3 => ⟨by omega, by omega, ad, p1, y.text, by simpa using p3, fun w3 hL3 => fin w3 _ hL3 (by rw [if_pos h3])⟩) (fun h3 => fun w3 hL3 => fin w3 _ hL3 (by rw [if_neg h3]))⟩

end Go.Proofs.Ytpedoaeieabhoaa.V

/- Contracts: a node of one action (reference 20). -/
namespace Go.Proofs.Ytpedoaeieabhoaa.V
open Go Go.Vc Go.Proofs
open Go.Vc (Bytes)

theorem single_spec {n₀ : Nat} {w : World} {g : Nat} {len : Int} {D : Sl} {st : M.St} (h : PIn n₀ w g len D st) {S : Nat → Prop} {slw : Sl} {pc : M.Piece} (hw : LstAt M.wR w S slw pc.words) (hS : ∀ k, S k → k < w.heap.size ∧ k ≠ g) (hp : M.POk pc) :
    Calls P F_ref20_Parser_single #[.pointer (some ⟨g, 0, none⟩), .agg #[.slice slw.a slw.len slw.cap, .string (bs pc.head), .int .i64 pc.at_]] w
      (Outc g w (M.singleM pc st) NodeBad (NodeGood n₀ g len D w)) := by
  refine ok_ref20_Parser_single _ _ _ _ ?_
  unfold vc_ref20_Parser_single
  have hlt := h.lt
  have hwl := hw.len
  have hpos : 0 < pc.words.length := List.length_pos_iff.2 hp.ne
  intro b hb b1 hb1 b2 hb2 w0 hL0
  have hbs : ∀ k, k ∈ [b2, b1, b] → w.heap.size ≤ k := by intro k hk; simp at hk; omega
  have hgs : ∀ k, k ∈ [b2, b1, b] → g < k := by intro k hk; have := hbs k hk; omega
  have hf0 : Fr (fun k => k = g) w w0 := hL0.fr fun k hk => .inr (hbs k hk)
  have hm0 := hL0.mem
  have box : ∀ {w1 w2 : World}, Fr (fun k => k = g) w1 w2 → (∀ k, k ∈ [b2, b1, b] → k < w1.heap.size) → w2.heap[b2]? = w1.heap[b2]? ∧ w2.heap[b1]? = w1.heap[b1]? ∧ w2.heap[b]? = w1.heap[b]? := by
    intro w1 w2 hf hm
    exact ⟨hf.block b2 (hm b2 (by simp)) (by have := hgs b2 (by simp); omega), hf.block b1 (hm b1 (by simp)) (by have := hgs b1 (by simp); omega), hf.block b (hm b (by simp)) (by have := hgs b (by simp); omega)⟩
  have mem : ∀ {w1 w2 : World}, Fr (fun k => k = g) w1 w2 → (∀ k, k ∈ [b2, b1, b] → k < w1.heap.size) → ∀ k, k ∈ [b2, b1, b] → k < w2.heap.size :=
    fun hf hm k hk => Nat.lt_of_lt_of_le (hm k hk) hf.size
  have step : ∀ {w1 w2 : World}, Fr (fun k => k = g) w w1 → Fr (fun k => k = g) w1 w2 → Fr (fun k => k = g) w w2 := fun h1 h2 => h1.trans h2 fun k hk => .inl hk
  have bstep : ∀ {w1 w2 : World}, Fr (fun k => k = g) w w1 → LocB [b2, b1, b] w1 w2 → Fr (fun k => k = g) w w2 := fun h1 h2 => h1.loc h2 fun k hk => .inr (hbs k hk)
  have words : ∀ {w1 : World}, Fr (fun k => k = g) w w1 → LstAt M.wR w1 S slw pc.words ∧ ∀ k, S k → k < w1.heap.size ∧ k ≠ g := fun hf =>
    ⟨hw.keep (fun _ _ h => h) fun k hk => hf.block k (hS k hk).1 (hS k hk).2, fun k hk => ⟨Nat.lt_of_lt_of_le (hS k hk).1 hf.size, (hS k hk).2⟩⟩
  have rd : ∀ {w1 : World}, Fr (fun k => k = g) w w1 → ∀ (i : Nat) (hi : i < pc.words.length), ∃ ad, slw.a = some ad ∧ ad.block < w.heap.size ∧ CellsAt w1 (ad.add (i * 3)) [.int .i64 pc.words[i].kind] ∧ CellsAt w1 ((ad.add (i * 3)).add 1) [.string (bs pc.words[i].text)] := by
    intro w1 hf i hi
    obtain ⟨ad, p1, p2, _⟩ := M.words_read hw (fun k hk => (hS k hk).1) (Grow.refl w) i hi
    obtain ⟨ad', q1, _, _, q3, q4, _⟩ := M.words_read (words hf).1 (fun k hk => ((words hf).2 k hk).1) (Grow.refl w1) i hi
    rw [p1] at q1
    cases q1
    exact ⟨ad, p1, p2, q3, q4⟩
  have bad : ∀ {w1 w2 : World} {x : Int × Int} (k : Int) (nm : Bytes) (sp : Sl), Fr (fun k => k = g) w w1 → PErr w1 g x → LocB [b2, b1, b] w1 w2 → M.singleM pc st = .error x →
      Outc g w (M.singleM pc st) NodeBad (NodeGood n₀ g len D w) (.returned (.tuple #[.agg #[.int .i64 k, .string (bs []), .string (bs nm), .slice sp.a sp.len sp.cap, .slice none 0 0, .slice none 0 0, .int .i64 pc.at_, .int .i64 0, .int .i64 0], .bool false])) w2 := by
    intro w1 w2 x k nm sp hf he hL hm
    exact ⟨bstep hf hL, .inl ⟨x, hm, NodeBad.mk k [] nm sp ⟨none, 0, 0⟩ ⟨none, 0, 0⟩ pc.at_ 0 0, he.keep (hL.block g he.lt (fun hk => by have := hgs g hk; omega))⟩⟩
  refine (count_spec (h.fr (X := fun k => k ∈ [b2, b1, b]) (hL0.fr fun _ h => .inl h) (fun hk => by have := hgs g hk; omega) (fun k hk => by have := hgs k hk; have := h.low; omega)) pc.at_).mono ?_
  rintro en w1 ⟨hf01, hcase⟩
  have hf1 := step hf0 hf01
  have hm1 := mem hf01 hm0
  rcases hcase with ⟨x, hx, rfl, he⟩ | ⟨st1, hx, rfl, _, _, hP1⟩
  · refine ⟨false, rfl, (box hf01 hm0).1, (box hf01 hm0).2.1, (box hf01 hm0).2.2, br_not (fun _ w2 hL2 => ?_) (fun h => by cases h)⟩
    exact bad 0 [] ⟨none, 0, 0⟩ hf1 he hL2 (by rw [M.singleM, hx])
  refine ⟨true, rfl, (box hf01 hm0).1, (box hf01 hm0).2.1, (box hf01 hm0).2.2, br_not (fun h => by cases h) (fun _ => ?_)⟩
  have hsm : M.singleM pc st = match M.singleP pc with
    | .error e => .error e
    | .ok n => .ok (n, st1) := by rw [M.singleM, hx]; rfl
  -- a pipeline, and the node it makes
  have pipe : ∀ (k : Int) (nm : Bytes) (m : Nat) (from_ : Int) (w2 : World), from_ = m → m ≤ pc.words.length → Fr (fun k => k = g) w w2 → PIn n₀ w2 g len D st1 → (∀ k, k ∈ [b2, b1, b] → k < w2.heap.size) →
      M.singleP pc = (match M.pipeP pc m with
        | .error e => .error e
        | .ok p => .ok (.mk ⟨k, [], nm, p, pc.at_, 0, 0⟩ [] [])) →
      Calls P F_ref20_Parser_pipe #[Value.pointer (some ⟨g, 0, none⟩), Value.agg #[Value.slice slw.a slw.len slw.cap, Value.string (bs pc.head), Value.int .i64 pc.at_], Value.int .i64 from_] w2 (fun (e_2 : Ending) (w_6 : World) =>
                ∃ r3 : Sl, ∃ r4 : Bool, e_2 = Ending.returned (Value.tuple #[Value.slice r3.a r3.len r3.cap, Value.bool r4]) ∧ w_6.heap[b2]? = w2.heap[b2]? ∧ w_6.heap[b1]? = w2.heap[b1]? ∧ w_6.heap[b]? = w2.heap[b]? ∧
                ∀ w_7 : World, LocB [b2, b1, b] w_6 w_7 →
                Outc g w (M.singleM pc st) NodeBad (NodeGood n₀ g len D w) (Ending.returned (Value.tuple #[Value.agg #[Value.int .i64 k, Value.string (bs ([] : Bytes)), Value.string (bs nm), Value.slice r3.a r3.len r3.cap, Value.slice none 0 0, Value.slice none 0 0, Value.int .i64 pc.at_, Value.int .i64 0, Value.int .i64 0], Value.bool r4])) w_7) := by
    intro k nm m from_ w2 hfm hml hf2 hP2 hm2 hsp
    refine (ppipe_spec hP2 (words hf2).1 (words hf2).2 hp.ok hp.len m hfm hml).mono ?_
    rintro en w3 ⟨hf23, hcase⟩
    have hf3 := step hf2 hf23
    have hbx := box hf23 hm2
    rcases hcase with ⟨x, hx, ⟨sl, rfl⟩, he⟩ | ⟨p, hx, sl, rfl, hl3, hP3⟩
    · refine ⟨sl, false, rfl, hbx.1, hbx.2.1, hbx.2.2, fun w4 hL4 => bad k nm sl hf3 he hL4 (by rw [hsm, hsp, hx])⟩
    · refine ⟨sl, true, rfl, hbx.1, hbx.2.1, hbx.2.2, fun w4 hL4 => ⟨bstep hf3 hL4, .inr ⟨(.mk ⟨k, [], nm, p, pc.at_, 0, 0⟩ [] [], st1), by rw [hsm, hsp, hx], ?_⟩⟩⟩
      have hz := hf2.size
      refine NodeGood.mk (h := ⟨k, [], nm, p, pc.at_, 0, 0⟩) (sp := sl) (sb := ⟨none, 0, 0⟩) (se := ⟨none, 0, 0⟩) ?_ (LstAt.nil _ _) (LstAt.nil _ _) (hP3.loc hL4 hgs)
      refine calls_move hl3 (fun k hk => hL4.block k hk.2 fun hkb => ?_) fun k hk => hk.sub hz hL4.size
      have := hk.1
      have := hm2 k hkb
      omega
  refine br_dec (fun h1 w2 hL2 => ?_) (fun h1 => ?_)
  · have hf2 := bstep hf1 hL2
    have hm2 := hL2.mem
    have hP2 := hP1.loc hL2 hgs
    have hsp : M.singleP pc = match M.calledM pc with
      | .error e => .error e
      | .ok s => if 2 < pc.words.length then
          match M.pipeP pc 2 with
          | .error e => .error e
          | .ok p => .ok (.mk ⟨6, [], s, p, pc.at_, 0, 0⟩ [] [])
        else .ok (.mk ⟨6, [], s, [], pc.at_, 0, 0⟩ [] []) := by rw [M.singleP, if_pos h1]; rfl
    refine (called_spec hP2 (words hf2).1 (words hf2).2 hp.ok).mono ?_
    rintro en w3 ⟨hf23, hcase⟩
    have hf3 := step hf2 hf23
    have hbx := box hf23 hm2
    have hm3 := mem hf23 hm2
    rcases hcase with ⟨x, hx, rfl, he⟩ | ⟨s, hx, rfl, hP3⟩
    · refine ⟨[], false, rfl, hbx.1, hbx.2.1, hbx.2.2, br_intro (fun h => by cases h) (fun _ w4 hL4 => bad 6 [] ⟨none, 0, 0⟩ hf3 he hL4 (by rw [hsm, hsp, hx]))⟩
    · rw [hx] at hsp
      simp only at hsp
      refine ⟨s, true, rfl, hbx.1, hbx.2.1, hbx.2.2, br_intro (fun _ => br_dec (fun h2 w4 hL4 => ?_) (fun h2 w4 hL4 => ?_)) (fun h => by cases h)⟩
      · rw [if_pos (by omega)] at hsp
        exact pipe 6 s 2 2 w4 rfl (by omega) (bstep hf3 hL4) (hP3.loc hL4 hgs) hL4.mem hsp
      · rw [if_neg (by omega)] at hsp
        exact ⟨bstep hf3 hL4, .inr ⟨(.mk ⟨6, [], s, [], pc.at_, 0, 0⟩ [] [], st1), by rw [hsm, hsp], NodeGood.mk (h := ⟨6, [], s, [], pc.at_, 0, 0⟩) (sp := ⟨none, 0, 0⟩) (sb := ⟨none, 0, 0⟩) (se := ⟨none, 0, 0⟩) (LstAt.nil _ _) (LstAt.nil _ _) (LstAt.nil _ _) (hP3.loc hL4 hgs)⟩⟩
  have dflt : M.isSet pc = none → ∀ w2 : World, LocB [b2, b1, b] w1 w2 → _ := fun hn w2 hL2 => pipe 2 [] 0 0 w2 rfl (by omega) (bstep hf1 hL2) (hP1.loc hL2 hgs) hL2.mem (by rw [M.singleP, if_neg h1, hn]; rfl)
  obtain ⟨ad, p1, p2, p3, p4⟩ := rd hf1 0 hpos
  refine ⟨by omega, by omega, ad, p1, pc.words[0].kind, by simpa using p3, br_dec (fun h2 => br_dec (fun h3 => ⟨by omega, h3, ?_⟩) (fun h3 => dflt (M.isSet_short pc (by omega)))) (fun h2 => dflt ?_)⟩
  · have h1l : 1 < pc.words.length := by omega
    have his := M.isSet_long pc h1l
    obtain ⟨ad', q1, q2, q3, q4⟩ := rd hf1 1 h1l
    refine ⟨ad', q1, pc.words[1].kind, by simpa using q3, br_dec (fun h4 => ⟨by omega, h3, ad', q1, pc.words[1].text, by simpa using q4, br_dec (fun h5 w2 hL2 => ⟨by omega, by omega, ad, p1, ?_, ?_, ?_⟩) (fun h5 => dflt (by rw [his, if_neg (fun e => h5 e.2.2)]))⟩) (fun h4 => dflt (by rw [his, if_neg (fun e => h4 e.2.1)]))⟩
    · rw [add_block, add_block]; omega
    · rw [add_block, add_block]; omega
    · rw [if_pos ⟨h2, h4, h5⟩] at his
      have hxok := hp.ok _ (List.getElem_mem hpos)
      have hx3 := hxok.2 h2
      obtain ⟨ad2, s1, _, _, s4⟩ := rd (bstep hf1 hL2) 0 hpos
      rw [p1] at s1
      cases s1
      have hxl : 1 ≤ pc.words[0].text.length := List.length_pos_iff.2 hx3
      have hxt := hxok.1
      generalize hxx : pc.words[0].text = tx at *
      refine ⟨tx, by simpa using s4, by omega, by omega, fun w3 hL3 => useR (name_spec _ _ (by rw [List.length_drop]; omega)) fun w4 hg4 => ?_⟩
      have hsp : M.singleP pc = if M.nameB (tx.drop 1) = false then .error (pc.at_, 33) else
        match M.pipeP pc 2 with
        | .error e => .error e
        | .ok p => .ok (.mk ⟨7, [], tx.drop 1, p, pc.at_, 0, 0⟩ [] []) := by rw [M.singleP, if_neg h1, his]; rfl
      have hf3 := bstep (bstep hf1 hL2) hL3
      have hf4 := hf3.grow hg4
      have hm3 := hL3.mem
      have hbx := box (hg4.fr (X := fun k => k = g)) hm3
      have hm4 := mem (hg4.fr (X := fun k => k = g)) hm3
      have hP4 := ((hP1.loc hL2 hgs).loc hL3 hgs).grow hg4
      refine ⟨_, rfl, hbx.1, hbx.2.1, hbx.2.2, br_not (fun h6 w5 hL5 => ?_) (fun h6 => ?_)⟩
      · refine (fail_spec (hP4.loc hL5 hgs) _ _).mono ?_
        rintro _ w6 ⟨rfl, he, hf56⟩
        have hbx := box hf56 hL5.mem
        exact ⟨false, rfl, hbx.1, hbx.2.1, hbx.2.2, fun w7 hL7 => bad 7 (tx.drop 1) ⟨none, 0, 0⟩ (step (bstep hf4 hL5) hf56) he hL7 (by rw [hsm, hsp, show M.nameB (tx.drop 1) = false from h6]; rfl)⟩
      · rw [if_neg (by rw [show M.nameB (tx.drop 1) = true from h6]; simp)] at hsp
        exact pipe 7 (tx.drop 1) 2 2 w4 rfl (by omega) hf4 hP4 hm4 hsp
  · by_cases h1l : 1 < pc.words.length
    · rw [M.isSet_long pc h1l, if_neg (fun e => h2 e.1)]
    · exact M.isSet_short pc (by omega)

end Go.Proofs.Ytpedoaeieabhoaa.V
