/- Lemmas for the seat: the conditions of code, and contracts of functions, part 3. Condition: none. -/
import Derived.Test.YtpedoaeieabhoaaE2

/- Conditions of functions, printed by a program out of the dump: each is the engine's own condition of that function, as the kernel finds. -/
set_option linter.unusedVariables false
namespace Go.Proofs.Ytpedoaeieabhoaa.V
open Go Go.Vc Go.Proofs
def anr_check_Check_1 : Ann := { boxes := [(2, 100)], loops := [], cuts := [], pans := [11, 13, 14, 15, 31], draws := [(2, [0, 1, 2, 3, 4, 5], [.t, .bl 100, .t, .bl 100, .e, .e])] }
def vcr_check_Check_1 (c0 : Addr) (c1 : Addr) (fat : Int) (fe : Int) (w : World) (R : Ending → World → Prop) : Prop :=
  ∀ b : Nat, w.heap.size ≤ b →
  ∀ w_ : World, LocB [b] w w_ →
  StoreOk w_ c0 1 ∧ c0.block ≠ b ∧ 
  StoreOk (setCells w_ c0 [Value.int .i64 fat]) c1 1 ∧ c1.block ≠ b ∧ 
  R (Ending.returned (Value.tuple #[])) (setCells (setCells w_ c0 [Value.int .i64 fat]) c1 [Value.int .i64 fe])
theorem eqr_check_Check_1 (c0 : Addr) (c1 : Addr) (fat : Int) (fe : Int) (w : World) (R : Ending → World → Prop) : vcr_check_Check_1 c0 c1 fat fe w R = vcRec D_check_Check_1 (cx0 P D_check_Check_1 anr_check_Check_1) T_check_fault (Value.iface T_check_fault (Value.agg #[Value.int .i64 fat, Value.int .i64 fe])) (Value.tuple #[Value.agg #[Value.int .i64 fat, Value.int .i64 fe], Value.bool true]) (st0 [Value.pointer (some c0), Value.pointer (some c1)] w) (vEnd (cx0 P D_check_Check_1 anr_check_Check_1) D_check_Check_1 R) := by kernel_rfl
def ann_check_Check_1 : Ann := { boxes := [(2, 100)], loops := [], cuts := [], pans := [11, 13, 14, 15, 31], draws := [] }
def vcn_check_Check_1 (c0 : Addr) (c1 : Addr) (w : World) (R : Ending → World → Prop) : Prop :=
  ∀ b : Nat, w.heap.size ≤ b →
  ∀ w_ : World, LocB [b] w w_ →
  R (Ending.returned (Value.tuple #[])) w_
theorem eqn_check_Check_1 (c0 : Addr) (c1 : Addr) (w : World) (R : Ending → World → Prop) : vcn_check_Check_1 c0 c1 w R = vcRec D_check_Check_1 (cx0 P D_check_Check_1 ann_check_Check_1) T_check_fault (Value.nilIface) (Value.tuple #[Value.agg #[Value.int .i64 0, Value.int .i64 0], Value.bool false]) (st0 [Value.pointer (some c0), Value.pointer (some c1)] w) (vEnd (cx0 P D_check_Check_1 ann_check_Check_1) D_check_Check_1 R) := by kernel_rfl
def an_law22_CheckTexts : Ann := { boxes := [], loops := [(0, [(8, Value.int .i64 0)], [2, 24, 25, 26, 27, 28, 29, 30, 31, 32, 33, 34, 35, 36, 37, 38, 39, 40, 41, 42, 43, 44, 45, 46, 47, 48, 49, 50, 51, 52, 53, 54, 55, 56, 57, 58])], cuts := [], pans := [11, 13, 14, 15, 31], draws := [] }
def vc_law22_CheckTexts (s : Bytes) (w : World) (R : Ending → World → Prop) : Prop :=
  Calls P F_law22_alive #[] w (fun (e_ : Ending) (w_ : World) =>
    ∃ r : Bool, e_ = Ending.returned (Value.bool r) ∧ 
    br (!r)
      (R (Ending.returned (Value.bool false)) w_)
      (Calls P F_ref20_Parse #[Value.string (bs s)] w_ (fun (e_1 : Ending) (w_1 : World) =>
        ∃ r1 : Sl, ∃ r2 : Int, ∃ r3 : Int, e_1 = Ending.returned (Value.tuple #[Value.slice r1.a r1.len r1.cap, Value.int .i64 r2, Value.int .i64 r3]) ∧ 
        br (!decide (r3 = 0))
          (R (Ending.returned (Value.bool true)) w_1)
          (Calls P F_check_Check #[Value.slice r1.a r1.len r1.cap] w_1 (fun (e_2 : Ending) (w_2 : World) =>
            ∃ r4 : Int, ∃ r5 : Int, e_2 = Ending.returned (Value.tuple #[Value.int .i64 r4, Value.int .i64 r5]) ∧ 
            ∃ (J : Int → Nat → World → Prop) (n₀ : Nat), J (0 : Int) n₀ w_2 ∧
            ∀ i : Int, ∀ (n : Nat) (w_3 : World), J i n w_3 →
            br (decide (i < (s.length : Int)))
              ((0 : Int) ≤ i ∧ i < (s.length : Int) ∧
              br (decide (byteAt s i.toNat = 36))
                (Calls P F_law22_num #[Value.int .i64 r5] w_3 (fun (e_3 : Ending) (w_4 : World) =>
                  ∃ r6 : Int, e_3 = Ending.returned (Value.int .i64 r6) ∧ 
                  br (decide (r6 = 0))
                    (R (Ending.returned (Value.bool true)) w_4)
                    (Calls P F_law22_num #[Value.int .i64 r5] w_4 (fun (e_4 : Ending) (w_5 : World) =>
                      ∃ r7 : Int, e_4 = Ending.returned (Value.int .i64 r7) ∧ 
                      br (decide (r7 = 31))
                        ((0 : Int) ≤ r4 ∧ r4 < (s.length : Int) ∧
                        br (decide (byteAt s r4.toNat = 123))
                          (R (Ending.returned (Value.bool true)) w_5)
                          (Calls P F_law22_num #[Value.int .i64 r5] w_5 (fun (e_5 : Ending) (w_6 : World) =>
                            ∃ r8 : Int, e_5 = Ending.returned (Value.int .i64 r8) ∧ 
                            R (Ending.returned (Value.bool (decide (r8 = 71)))) w_6)))
                        (Calls P F_law22_num #[Value.int .i64 r5] w_5 (fun (e_6 : Ending) (w_7 : World) =>
                          ∃ r9 : Int, e_6 = Ending.returned (Value.int .i64 r9) ∧ 
                          R (Ending.returned (Value.bool (decide (r9 = 71)))) w_7))))))
                ((0 : Int) ≤ i ∧ i < (s.length : Int) ∧
                br (decide (byteAt s i.toNat = 116))
                  (Calls P F_law22_num #[Value.int .i64 r5] w_3 (fun (e_7 : Ending) (w_8 : World) =>
                    ∃ r10 : Int, e_7 = Ending.returned (Value.int .i64 r10) ∧ 
                    br (decide (r10 = 0))
                      (R (Ending.returned (Value.bool true)) w_8)
                      (Calls P F_law22_num #[Value.int .i64 r5] w_8 (fun (e_8 : Ending) (w_9 : World) =>
                        ∃ r11 : Int, e_8 = Ending.returned (Value.int .i64 r11) ∧ 
                        br (decide (r11 = 31))
                          ((0 : Int) ≤ r4 ∧ r4 < (s.length : Int) ∧
                          br (decide (byteAt s r4.toNat = 123))
                            (R (Ending.returned (Value.bool true)) w_9)
                            (Calls P F_law22_num #[Value.int .i64 r5] w_9 (fun (e_9 : Ending) (w_10 : World) =>
                              ∃ r12 : Int, e_9 = Ending.returned (Value.int .i64 r12) ∧ 
                              R (Ending.returned (Value.bool (decide (r12 = 71)))) w_10)))
                          (Calls P F_law22_num #[Value.int .i64 r5] w_9 (fun (e_10 : Ending) (w_11 : World) =>
                            ∃ r13 : Int, e_10 = Ending.returned (Value.int .i64 r13) ∧ 
                            R (Ending.returned (Value.bool (decide (r13 = 71)))) w_11))))))
                  (InI64 (i + 1) ∧
                  ∃ m : Nat, m < n ∧ J (i + 1) m w_3)))
              (Calls P F_law22_num #[Value.int .i64 r5] w_3 (fun (e_11 : Ending) (w_12 : World) =>
                ∃ r14 : Int, e_11 = Ending.returned (Value.int .i64 r14) ∧ 
                R (Ending.returned (Value.bool (decide (r14 = 0)))) w_12)))))))
theorem eq_law22_CheckTexts (s : Bytes) (w : World) (R : Ending → World → Prop) : vc_law22_CheckTexts s w R = vc (bodyOf D_law22_CheckTexts) (cx0 P D_law22_CheckTexts an_law22_CheckTexts) 0 (st0 [Value.string (bs s)] w) (vEnd (cx0 P D_law22_CheckTexts an_law22_CheckTexts) D_law22_CheckTexts R) := by kernel_rfl
theorem ok_law22_CheckTexts (s : Bytes) {w : World} {R : Ending → World → Prop} (h : vc_law22_CheckTexts s w R) : Calls P F_law22_CheckTexts #[Value.string (bs s)] w R :=
  calls_of_vc (P := P) (f := F_law22_CheckTexts) (fn := D_law22_CheckTexts) (c := bodyOf D_law22_CheckTexts) (args := [Value.string (bs s)]) (R := R) (w := w) an_law22_CheckTexts Try.func3 (bodyOf_some (by kernel_rfl)) (by kernel_rfl) (by rw [← eq_law22_CheckTexts s w R]; exact h)
def an_law22_alive : Ann := { boxes := [], loops := [], cuts := [], pans := [11, 13, 14, 15, 31], draws := [] }
def vc_law22_alive  (w : World) (R : Ending → World → Prop) : Prop :=
  Calls P F_check_Check #[Value.slice (some (Addr.mk (((w.alloc (.cells #[Value.int .i64 2, Value.string (bs [120]), Value.slice none 0 0, Value.int .i64 0, Value.string (bs ([] : Bytes))] T_api_Arg)).alloc (.cells #[Value.string (bs ([] : Bytes)), Value.slice (some (Addr.mk w.heap.size 0 none)) 1 1] T_api_Call)).alloc (.cells #[Value.int .i64 2, Value.string (bs ([] : Bytes)), Value.string (bs ([] : Bytes)), Value.slice (some (Addr.mk (w.alloc (.cells #[Value.int .i64 2, Value.string (bs [120]), Value.slice none 0 0, Value.int .i64 0, Value.string (bs ([] : Bytes))] T_api_Arg)).heap.size 0 none)) 1 1, Value.slice none 0 0, Value.slice none 0 0, Value.int .i64 3, Value.int .i64 0, Value.int .i64 0] T_api_Node)).heap.size 0 none)) 1 1] ((((w.alloc (.cells #[Value.int .i64 2, Value.string (bs [120]), Value.slice none 0 0, Value.int .i64 0, Value.string (bs ([] : Bytes))] T_api_Arg)).alloc (.cells #[Value.string (bs ([] : Bytes)), Value.slice (some (Addr.mk w.heap.size 0 none)) 1 1] T_api_Call)).alloc (.cells #[Value.int .i64 2, Value.string (bs ([] : Bytes)), Value.string (bs ([] : Bytes)), Value.slice (some (Addr.mk (w.alloc (.cells #[Value.int .i64 2, Value.string (bs [120]), Value.slice none 0 0, Value.int .i64 0, Value.string (bs ([] : Bytes))] T_api_Arg)).heap.size 0 none)) 1 1, Value.slice none 0 0, Value.slice none 0 0, Value.int .i64 3, Value.int .i64 0, Value.int .i64 0] T_api_Node)).alloc (.cells #[Value.string (bs ([] : Bytes)), Value.slice (some (Addr.mk ((w.alloc (.cells #[Value.int .i64 2, Value.string (bs [120]), Value.slice none 0 0, Value.int .i64 0, Value.string (bs ([] : Bytes))] T_api_Arg)).alloc (.cells #[Value.string (bs ([] : Bytes)), Value.slice (some (Addr.mk w.heap.size 0 none)) 1 1] T_api_Call)).heap.size 0 none)) 1 1] T_api_Def)) (fun (e_ : Ending) (w_ : World) =>
    ∃ r : Int, ∃ r1 : Int, e_ = Ending.returned (Value.tuple #[Value.int .i64 r, Value.int .i64 r1]) ∧ 
    Calls P F_law22_num #[Value.int .i64 r1] w_ (fun (e_1 : Ending) (w_1 : World) =>
      ∃ r2 : Int, e_1 = Ending.returned (Value.int .i64 r2) ∧ 
      br (decide (r2 = 31))
        (R (Ending.returned (Value.bool (decide (r = 3)))) w_1)
        (R (Ending.returned (Value.bool false)) w_1)))
theorem eq_law22_alive  (w : World) (R : Ending → World → Prop) : vc_law22_alive  w R = vc (bodyOf D_law22_alive) (cx0 P D_law22_alive an_law22_alive) 0 (st0 [] w) (vEnd (cx0 P D_law22_alive an_law22_alive) D_law22_alive R) := by kernel_rfl
theorem ok_law22_alive  {w : World} {R : Ending → World → Prop} (h : vc_law22_alive  w R) : Calls P F_law22_alive #[] w R :=
  calls_of_vc (P := P) (f := F_law22_alive) (fn := D_law22_alive) (c := bodyOf D_law22_alive) (args := []) (R := R) (w := w) an_law22_alive Try.func4 (bodyOf_some (by kernel_rfl)) (by kernel_rfl) (by rw [← eq_law22_alive  w R]; exact h)
def an_ref20_Parse : Ann := { boxes := [(10, 100)], loops := [], cuts := [], pans := [11, 13, 14, 15, 31], draws := [(7, [0, 1, 2, 3, 4, 5, 6, 7, 8, 9, 10], [.t, .t, .t, .h, .t, .t, .t, .h, .t, .t, .t])] }
def vc_ref20_Parse (s : Bytes) (w : World) (R : Ending → World → Prop) : Prop :=
  Calls P F_ref18_Items #[Value.string (bs s)] w (fun (e_ : Ending) (w_ : World) =>
    ∃ r : Sl, ∃ r1 : Int, ∃ r2 : Int, e_ = Ending.returned (Value.tuple #[Value.slice r.a r.len r.cap, Value.int .i64 r1, Value.int .i64 r2]) ∧ 
    br (!decide (r2 = 0))
      (R (Ending.returned (Value.tuple #[Value.slice none 0 0, Value.int .i64 r1, Value.int .i64 r2])) w_)
      (Calls P F_ref20_Parser_nodes #[Value.pointer (some (Addr.mk (w_.alloc (.cells #[Value.string (bs ([] : Bytes)), Value.slice none 0 0] T_api_Def)).heap.size 0 none)), Value.int .i64 0] ((w_.alloc (.cells #[Value.string (bs ([] : Bytes)), Value.slice none 0 0] T_api_Def)).alloc (.cells #[Value.slice r.a r.len r.cap, Value.int .i64 0, Value.int .i64 (s.length : Int), Value.slice (some (Addr.mk w_.heap.size 0 none)) 1 1, Value.int .i64 0, Value.int .i64 0] T_ref20_Parser)) (fun (e_1 : Ending) (w_1 : World) =>
        ∃ r3 : Sl, ∃ r4 : Sl, ∃ r5 : Bytes, ∃ r6 : Int, ∃ r7 : Bool, e_1 = Ending.returned (Value.tuple #[Value.slice r3.a r3.len r3.cap, Value.agg #[Value.slice r4.a r4.len r4.cap, Value.string (bs r5), Value.int .i64 r6], Value.bool r7]) ∧ 
        ∀ b : Nat, w_1.heap.size ≤ b →
        br (!r7)
          (∀ w_2 : World, LocB [b] w_1 w_2 →
          ∃ x : Int, CellsAt w_2 (Addr.mk (w_.alloc (.cells #[Value.string (bs ([] : Bytes)), Value.slice none 0 0] T_api_Def)).heap.size 4 none) [Value.int .i64 x] ∧
          ∃ x1 : Int, CellsAt w_2 (Addr.mk (w_.alloc (.cells #[Value.string (bs ([] : Bytes)), Value.slice none 0 0] T_api_Def)).heap.size 5 none) [Value.int .i64 x1] ∧
          R (Ending.returned (Value.tuple #[Value.slice none 0 0, Value.int .i64 x, Value.int .i64 x1])) w_2)
          (∀ w_3 : World, LocB [b] w_1 w_3 →
          ∃ x2 : Sl, CellsAt w_3 (Addr.mk (w_.alloc (.cells #[Value.string (bs ([] : Bytes)), Value.slice none 0 0] T_api_Def)).heap.size 3 none) [Value.slice x2.a x2.len x2.cap] ∧
          (0 : Int) ≤ 0 ∧ (0 : Int) < ((x2.len : Nat) : Int) ∧ ∃ a : Addr, x2.a = some a ∧
          StoreOk w_3 ((a.add ((0 : Int).toNat * 2)).add 1) 1 ∧ ((a.add ((0 : Int).toNat * 2)).add 1).block ≠ b ∧ 
          ∃ x3 : Sl, CellsAt (setCells w_3 ((a.add ((0 : Int).toNat * 2)).add 1) [Value.slice r3.a r3.len r3.cap]) (Addr.mk (w_.alloc (.cells #[Value.string (bs ([] : Bytes)), Value.slice none 0 0] T_api_Def)).heap.size 3 none) [Value.slice x3.a x3.len x3.cap] ∧
          R (Ending.returned (Value.tuple #[Value.slice x3.a x3.len x3.cap, Value.int .i64 (s.length : Int), Value.int .i64 0])) (setCells w_3 ((a.add ((0 : Int).toNat * 2)).add 1) [Value.slice r3.a r3.len r3.cap])))))
theorem eq_ref20_Parse (s : Bytes) (w : World) (R : Ending → World → Prop) : vc_ref20_Parse s w R = vc (bodyOf D_ref20_Parse) (cx0 P D_ref20_Parse an_ref20_Parse) 0 (st0 [Value.string (bs s)] w) (vEnd (cx0 P D_ref20_Parse an_ref20_Parse) D_ref20_Parse R) := by kernel_rfl
theorem ok_ref20_Parse (s : Bytes) {w : World} {R : Ending → World → Prop} (h : vc_ref20_Parse s w R) : Calls P F_ref20_Parse #[Value.string (bs s)] w R :=
  calls_of_vc (P := P) (f := F_ref20_Parse) (fn := D_ref20_Parse) (c := bodyOf D_ref20_Parse) (args := [Value.string (bs s)]) (R := R) (w := w) an_ref20_Parse Try.func5 (bodyOf_some (by kernel_rfl)) (by kernel_rfl) (by rw [← eq_ref20_Parse s w R]; exact h)
def an_check_Check : Ann := { boxes := [(5, 100), (8, 102)], loops := [(0, [(23, Value.int .i64 0)], [4, 5, 24, 25, 26, 27, 28, 29, 30, 31, 32, 33, 34, 35, 36, 37, 38, 39, 40, 41, 42, 43, 44, 45, 46, 100, 101]), (2, [(52, Value.int .i64 0)], [8, 53, 54, 55, 56, 57, 58, 59, 60, 102, 103])], cuts := [(3, [], [10, 11, 12, 13, 14, 15, 16, 17, 18, 19, 20])], pans := [11, 13, 14, 15, 31], draws := [] }
def vc_check_Check (l : Sl) (w : World) (R : Ending → World → Prop) : Prop :=
  ∃ J : World → Prop,
    (br (decide ((0 : Int) < ((l.len : Nat) : Int)))
      ((0 : Int) ≤ 0 ∧ (0 : Int) < ((l.len : Nat) : Int) ∧ ∃ a : Addr, l.a = some a ∧
      ∃ x : Bytes, CellsAt ((w.alloc (.cells #[Value.int .i64 0] T_int)).alloc (.cells #[Value.int .i64 0] T_api_Errno)) (a.add ((0 : Int).toNat * 2)) [Value.string (bs x)] ∧
      Calls P F_check_need #[Value.bool (decide (x = ([] : Bytes))), Value.int .i64 0, Value.int .i64 9] ((w.alloc (.cells #[Value.int .i64 0] T_int)).alloc (.cells #[Value.int .i64 0] T_api_Errno)) (fun (e_ : Ending) (w_ : World) =>
        (e_ = Ending.returned (Value.tuple #[]) ∧ 
        J w_) ∨
        ∃ ch : List PanicEntry, e_ = Ending.panicked ch ∧ ∀ tmps : Array Value, (tmps.getD 2 undef = Value.pointer (some (Addr.mk w.heap.size 0 none)) ∧ tmps.getD 3 undef = Value.pointer (some (Addr.mk (w.alloc (.cells #[Value.int .i64 0] T_int)).heap.size 0 none)) ∧ True) → Leaves P D_check_Check tmps R [{ target := .fn (.func F_check_Check_1) #[Value.pointer (some (Addr.mk w.heap.size 0 none)), Value.pointer (some (Addr.mk (w.alloc (.cells #[Value.int .i64 0] T_int)).heap.size 0 none))], args := #[] }] (.panicking ch) w_))
      (Calls P F_check_need #[Value.bool false, Value.int .i64 0, Value.int .i64 9] ((w.alloc (.cells #[Value.int .i64 0] T_int)).alloc (.cells #[Value.int .i64 0] T_api_Errno)) (fun (e_1 : Ending) (w_1 : World) =>
        (e_1 = Ending.returned (Value.tuple #[]) ∧ 
        J w_1) ∨
        ∃ ch1 : List PanicEntry, e_1 = Ending.panicked ch1 ∧ ∀ tmps1 : Array Value, (tmps1.getD 2 undef = Value.pointer (some (Addr.mk w.heap.size 0 none)) ∧ tmps1.getD 3 undef = Value.pointer (some (Addr.mk (w.alloc (.cells #[Value.int .i64 0] T_int)).heap.size 0 none)) ∧ True) → Leaves P D_check_Check tmps1 R [{ target := .fn (.func F_check_Check_1) #[Value.pointer (some (Addr.mk w.heap.size 0 none)), Value.pointer (some (Addr.mk (w.alloc (.cells #[Value.int .i64 0] T_int)).heap.size 0 none))], args := #[] }] (.panicking ch1) w_1))) ∧
  ∀ w_2 : World, J w_2 →
  ∃ (J1 : Int → Nat → World → Prop) (n₀ : Nat), J1 (0 : Int) n₀ w_2 ∧
  ∀ t23 : Int, ∀ (n : Nat) (w_3 : World), J1 t23 n w_3 →
  br (decide (t23 < ((l.len : Nat) : Int)))
    ((0 : Int) ≤ t23 ∧ t23 < ((l.len : Nat) : Int) ∧ ∃ a1 : Addr, l.a = some a1 ∧
    ∃ Name : Bytes, ∃ Body : Sl, CellsAt w_3 (a1.add (t23.toNat * 2)) [Value.string (bs Name), Value.slice Body.a Body.len Body.cap] ∧
    ∀ b : Nat, w_3.heap.size ≤ b →
    br (decide (t23 = 0))
      (∀ w_4 : World, LocB [b] w_3 w_4 →
      Calls P F_check_need #[Value.bool true, Value.int .i64 0, Value.int .i64 9] w_4 (fun (e_2 : Ending) (w_5 : World) =>
        (e_2 = Ending.returned (Value.tuple #[]) ∧ w_5.heap[b]? = w_4.heap[b]? ∧ 
        Calls P F_parse_Depth #[Value.slice Body.a Body.len Body.cap] w_5 (fun (e_3 : Ending) (w_6 : World) =>
          ∃ r : Int, e_3 = Ending.returned (Value.int .i64 r) ∧ w_6.heap[b]? = w_5.heap[b]? ∧ 
          br (decide (r ≤ 17))
            (Calls P F_check_each #[Value.slice Body.a Body.len Body.cap, Value.func (.func F_check_may) #[] #[]] w_6 (fun (e_4 : Ending) (w_7 : World) =>
              (∃ r1 : Bool, e_4 = Ending.returned (Value.bool r1) ∧ w_7.heap[b]? = w_6.heap[b]? ∧ 
              Calls P F_check_need #[Value.bool r1, Value.int .i64 0, Value.int .i64 9] w_7 (fun (e_5 : Ending) (w_8 : World) =>
                (e_5 = Ending.returned (Value.tuple #[]) ∧ w_8.heap[b]? = w_7.heap[b]? ∧ 
                InI64 (t23 + 1) ∧
                ∃ m : Nat, m < n ∧ J1 (t23 + 1) m w_8) ∨
                ∃ ch2 : List PanicEntry, e_5 = Ending.panicked ch2 ∧ ∀ tmps2 : Array Value, (tmps2.getD 2 undef = Value.pointer (some (Addr.mk w.heap.size 0 none)) ∧ tmps2.getD 3 undef = Value.pointer (some (Addr.mk (w.alloc (.cells #[Value.int .i64 0] T_int)).heap.size 0 none)) ∧ True) → Leaves P D_check_Check tmps2 R [{ target := .fn (.func F_check_Check_1) #[Value.pointer (some (Addr.mk w.heap.size 0 none)), Value.pointer (some (Addr.mk (w.alloc (.cells #[Value.int .i64 0] T_int)).heap.size 0 none))], args := #[] }] (.panicking ch2) w_8)) ∨
              ∃ ch3 : List PanicEntry, e_4 = Ending.panicked ch3 ∧ ∀ tmps3 : Array Value, (tmps3.getD 2 undef = Value.pointer (some (Addr.mk w.heap.size 0 none)) ∧ tmps3.getD 3 undef = Value.pointer (some (Addr.mk (w.alloc (.cells #[Value.int .i64 0] T_int)).heap.size 0 none)) ∧ True) → Leaves P D_check_Check tmps3 R [{ target := .fn (.func F_check_Check_1) #[Value.pointer (some (Addr.mk w.heap.size 0 none)), Value.pointer (some (Addr.mk (w.alloc (.cells #[Value.int .i64 0] T_int)).heap.size 0 none))], args := #[] }] (.panicking ch3) w_7))
            (Calls P F_check_need #[Value.bool false, Value.int .i64 0, Value.int .i64 9] w_6 (fun (e_6 : Ending) (w_9 : World) =>
              (e_6 = Ending.returned (Value.tuple #[]) ∧ w_9.heap[b]? = w_6.heap[b]? ∧ 
              InI64 (t23 + 1) ∧
              ∃ m1 : Nat, m1 < n ∧ J1 (t23 + 1) m1 w_9) ∨
              ∃ ch4 : List PanicEntry, e_6 = Ending.panicked ch4 ∧ ∀ tmps4 : Array Value, (tmps4.getD 2 undef = Value.pointer (some (Addr.mk w.heap.size 0 none)) ∧ tmps4.getD 3 undef = Value.pointer (some (Addr.mk (w.alloc (.cells #[Value.int .i64 0] T_int)).heap.size 0 none)) ∧ True) → Leaves P D_check_Check tmps4 R [{ target := .fn (.func F_check_Check_1) #[Value.pointer (some (Addr.mk w.heap.size 0 none)), Value.pointer (some (Addr.mk (w.alloc (.cells #[Value.int .i64 0] T_int)).heap.size 0 none))], args := #[] }] (.panicking ch4) w_9)))) ∨
        ∃ ch5 : List PanicEntry, e_2 = Ending.panicked ch5 ∧ ∀ tmps5 : Array Value, (tmps5.getD 2 undef = Value.pointer (some (Addr.mk w.heap.size 0 none)) ∧ tmps5.getD 3 undef = Value.pointer (some (Addr.mk (w.alloc (.cells #[Value.int .i64 0] T_int)).heap.size 0 none)) ∧ True) → Leaves P D_check_Check tmps5 R [{ target := .fn (.func F_check_Check_1) #[Value.pointer (some (Addr.mk w.heap.size 0 none)), Value.pointer (some (Addr.mk (w.alloc (.cells #[Value.int .i64 0] T_int)).heap.size 0 none))], args := #[] }] (.panicking ch5) w_5))
      (∀ w_10 : World, LocB [b] w_3 w_10 →
      Calls P F_check_need #[Value.bool (!decide (Name = ([] : Bytes))), Value.int .i64 0, Value.int .i64 9] w_10 (fun (e_7 : Ending) (w_11 : World) =>
        (e_7 = Ending.returned (Value.tuple #[]) ∧ w_11.heap[b]? = w_10.heap[b]? ∧ 
        Calls P F_parse_Depth #[Value.slice Body.a Body.len Body.cap] w_11 (fun (e_8 : Ending) (w_12 : World) =>
          ∃ r2 : Int, e_8 = Ending.returned (Value.int .i64 r2) ∧ w_12.heap[b]? = w_11.heap[b]? ∧ 
          br (decide (r2 ≤ 17))
            (Calls P F_check_each #[Value.slice Body.a Body.len Body.cap, Value.func (.func F_check_may) #[] #[]] w_12 (fun (e_9 : Ending) (w_13 : World) =>
              (∃ r3 : Bool, e_9 = Ending.returned (Value.bool r3) ∧ w_13.heap[b]? = w_12.heap[b]? ∧ 
              Calls P F_check_need #[Value.bool r3, Value.int .i64 0, Value.int .i64 9] w_13 (fun (e_10 : Ending) (w_14 : World) =>
                (e_10 = Ending.returned (Value.tuple #[]) ∧ w_14.heap[b]? = w_13.heap[b]? ∧ 
                InI64 (t23 + 1) ∧
                ∃ m2 : Nat, m2 < n ∧ J1 (t23 + 1) m2 w_14) ∨
                ∃ ch6 : List PanicEntry, e_10 = Ending.panicked ch6 ∧ ∀ tmps6 : Array Value, (tmps6.getD 2 undef = Value.pointer (some (Addr.mk w.heap.size 0 none)) ∧ tmps6.getD 3 undef = Value.pointer (some (Addr.mk (w.alloc (.cells #[Value.int .i64 0] T_int)).heap.size 0 none)) ∧ True) → Leaves P D_check_Check tmps6 R [{ target := .fn (.func F_check_Check_1) #[Value.pointer (some (Addr.mk w.heap.size 0 none)), Value.pointer (some (Addr.mk (w.alloc (.cells #[Value.int .i64 0] T_int)).heap.size 0 none))], args := #[] }] (.panicking ch6) w_14)) ∨
              ∃ ch7 : List PanicEntry, e_9 = Ending.panicked ch7 ∧ ∀ tmps7 : Array Value, (tmps7.getD 2 undef = Value.pointer (some (Addr.mk w.heap.size 0 none)) ∧ tmps7.getD 3 undef = Value.pointer (some (Addr.mk (w.alloc (.cells #[Value.int .i64 0] T_int)).heap.size 0 none)) ∧ True) → Leaves P D_check_Check tmps7 R [{ target := .fn (.func F_check_Check_1) #[Value.pointer (some (Addr.mk w.heap.size 0 none)), Value.pointer (some (Addr.mk (w.alloc (.cells #[Value.int .i64 0] T_int)).heap.size 0 none))], args := #[] }] (.panicking ch7) w_13))
            (Calls P F_check_need #[Value.bool false, Value.int .i64 0, Value.int .i64 9] w_12 (fun (e_11 : Ending) (w_15 : World) =>
              (e_11 = Ending.returned (Value.tuple #[]) ∧ w_15.heap[b]? = w_12.heap[b]? ∧ 
              InI64 (t23 + 1) ∧
              ∃ m3 : Nat, m3 < n ∧ J1 (t23 + 1) m3 w_15) ∨
              ∃ ch8 : List PanicEntry, e_11 = Ending.panicked ch8 ∧ ∀ tmps8 : Array Value, (tmps8.getD 2 undef = Value.pointer (some (Addr.mk w.heap.size 0 none)) ∧ tmps8.getD 3 undef = Value.pointer (some (Addr.mk (w.alloc (.cells #[Value.int .i64 0] T_int)).heap.size 0 none)) ∧ True) → Leaves P D_check_Check tmps8 R [{ target := .fn (.func F_check_Check_1) #[Value.pointer (some (Addr.mk w.heap.size 0 none)), Value.pointer (some (Addr.mk (w.alloc (.cells #[Value.int .i64 0] T_int)).heap.size 0 none))], args := #[] }] (.panicking ch8) w_15)))) ∨
        ∃ ch9 : List PanicEntry, e_7 = Ending.panicked ch9 ∧ ∀ tmps9 : Array Value, (tmps9.getD 2 undef = Value.pointer (some (Addr.mk w.heap.size 0 none)) ∧ tmps9.getD 3 undef = Value.pointer (some (Addr.mk (w.alloc (.cells #[Value.int .i64 0] T_int)).heap.size 0 none)) ∧ True) → Leaves P D_check_Check tmps9 R [{ target := .fn (.func F_check_Check_1) #[Value.pointer (some (Addr.mk w.heap.size 0 none)), Value.pointer (some (Addr.mk (w.alloc (.cells #[Value.int .i64 0] T_int)).heap.size 0 none))], args := #[] }] (.panicking ch9) w_11)))
    (∃ (J2 : Int → Nat → World → Prop) (n₀1 : Nat), J2 (0 : Int) n₀1 (w_3.alloc (.cells #[Value.slice l.a l.len l.cap] T_check_looker)) ∧
    ∀ t52 : Int, ∀ (n1 : Nat) (w_16 : World), J2 t52 n1 w_16 →
    br (decide (t52 < ((l.len : Nat) : Int)))
      ((0 : Int) ≤ t52 ∧ t52 < ((l.len : Nat) : Int) ∧ ∃ a2 : Addr, l.a = some a2 ∧
      ∃ Name1 : Bytes, ∃ Body1 : Sl, CellsAt w_16 (a2.add (t52.toNat * 2)) [Value.string (bs Name1), Value.slice Body1.a Body1.len Body1.cap] ∧
      ∀ b1 : Nat, w_16.heap.size ≤ b1 →
      ∀ w_17 : World, LocB [b1] w_16 w_17 →
      Calls P F_check_looker_nodes #[Value.pointer (some (Addr.mk w_3.heap.size 0 none)), Value.slice Body1.a Body1.len Body1.cap, Value.slice none 0 0] w_17 (fun (e_12 : Ending) (w_18 : World) =>
        (e_12 = Ending.returned (Value.tuple #[]) ∧ w_18.heap[b1]? = w_17.heap[b1]? ∧ 
        InI64 (t52 + 1) ∧
        ∃ m4 : Nat, m4 < n1 ∧ J2 (t52 + 1) m4 w_18) ∨
        ∃ ch10 : List PanicEntry, e_12 = Ending.panicked ch10 ∧ ∀ tmps10 : Array Value, (tmps10.getD 2 undef = Value.pointer (some (Addr.mk w.heap.size 0 none)) ∧ tmps10.getD 3 undef = Value.pointer (some (Addr.mk (w.alloc (.cells #[Value.int .i64 0] T_int)).heap.size 0 none)) ∧ True) → Leaves P D_check_Check tmps10 R [{ target := .fn (.func F_check_Check_1) #[Value.pointer (some (Addr.mk w.heap.size 0 none)), Value.pointer (some (Addr.mk (w.alloc (.cells #[Value.int .i64 0] T_int)).heap.size 0 none))], args := #[] }] (.panicking ch10) w_18))
      (StoreOk w_16 (Addr.mk w.heap.size 0 none) 1 ∧ 
      StoreOk (setCells w_16 (Addr.mk w.heap.size 0 none) [Value.int .i64 0]) (Addr.mk (w.alloc (.cells #[Value.int .i64 0] T_int)).heap.size 0 none) 1 ∧ 
      ∀ tmps11 : Array Value, (tmps11.getD 2 undef = Value.pointer (some (Addr.mk w.heap.size 0 none)) ∧ tmps11.getD 3 undef = Value.pointer (some (Addr.mk (w.alloc (.cells #[Value.int .i64 0] T_int)).heap.size 0 none)) ∧ True) → Leaves P D_check_Check tmps11 R [{ target := .fn (.func F_check_Check_1) #[Value.pointer (some (Addr.mk w.heap.size 0 none)), Value.pointer (some (Addr.mk (w.alloc (.cells #[Value.int .i64 0] T_int)).heap.size 0 none))], args := #[] }] .returning (setCells (setCells w_16 (Addr.mk w.heap.size 0 none) [Value.int .i64 0]) (Addr.mk (w.alloc (.cells #[Value.int .i64 0] T_int)).heap.size 0 none) [Value.int .i64 0])))
theorem eq_check_Check (l : Sl) (w : World) (R : Ending → World → Prop) : vc_check_Check l w R = vc (bodyOf D_check_Check) (cx0 P D_check_Check an_check_Check) 0 (st0 [Value.slice l.a l.len l.cap] w) (vEndD (cx0 P D_check_Check an_check_Check) D_check_Check R) := by kernel_rfl
theorem ok_check_Check (l : Sl) {w : World} {R : Ending → World → Prop} (h : vc_check_Check l w R) : Calls P F_check_Check #[Value.slice l.a l.len l.cap] w R :=
  calls_of_vc_defers (P := P) (f := F_check_Check) (fn := D_check_Check) (c := bodyOf D_check_Check) (args := [Value.slice l.a l.len l.cap]) (R := R) (w := w) an_check_Check Try.func6 (bodyOf_some (by kernel_rfl)) (by kernel_rfl) (by rw [← eq_check_Check l w R]; exact h)
def vl_check_Check (g2 : Addr) (g3 : Addr) (w : World) (R : Ending → World → Prop) : Prop :=
  ∃ r : Int, CellsAt w g2 [Value.int .i64 r] ∧
  ∃ r1 : Int, CellsAt w g3 [Value.int .i64 r1] ∧
  R (Ending.returned (Value.tuple #[Value.int .i64 r, Value.int .i64 r1])) w
theorem eql_check_Check (g2 : Addr) (g3 : Addr) (w : World) (R : Ending → World → Prop) : vl_check_Check g2 g3 w R = rRes P [(2, Value.pointer (some g2)), (3, Value.pointer (some g3))] w D_check_Check.results.toList (fun vs => R (.returned (retV vs)) w) := by kernel_rfl
theorem lr_check_Check (g2 : Addr) (g3 : Addr) (c0 : Addr) (c1 : Addr) (fat : Int) (fe : Int) {tmps : Array Value} {w : World} {R : Ending → World → Prop} (hs : tmps.getD 2 undef = Value.pointer (some g2) ∧ tmps.getD 3 undef = Value.pointer (some g3) ∧ True) (h : vcr_check_Check_1 c0 c1 fat fe w fun e w' => ∃ x, e = .returned x ∧ vl_check_Check g2 g3 w' R) : Leaves P D_check_Check tmps R [{ target := .fn (.func F_check_Check_1) #[Value.pointer (some c0), Value.pointer (some c1)], args := #[] }] (.panicking [{ v := Value.iface T_check_fault (Value.agg #[Value.int .i64 fat, Value.int .i64 fe]), recovered := false }]) w := by
  refine leaves_rec (P := P) (fn := D_check_Check) (clo := D_check_Check_1) (F := F_check_Check_1) (caps := [Value.pointer (some c0), Value.pointer (some c1)]) (slots := [(2, Value.pointer (some g2)), (3, Value.pointer (some g3))]) (u := (.panicking [{ v := Value.iface T_check_fault (Value.agg #[Value.int .i64 fat, Value.int .i64 fe]), recovered := false }])) (u' := (.panicking [{ v := Value.iface T_check_fault (Value.agg #[Value.int .i64 fat, Value.int .i64 fe]), recovered := true }])) anr_check_Check_1 T_check_fault (Value.iface T_check_fault (Value.agg #[Value.int .i64 fat, Value.int .i64 fe])) (Value.tuple #[Value.agg #[Value.int .i64 fat, Value.int .i64 fe], Value.bool true]) (by intro h; cases h) (recTo_panicking _ []) rfl Try.func10 (bodyOf_some (by kernel_rfl)) (by kernel_rfl) (by kernel_rfl) (fun it w => run_assert_yes (by kernel_rfl) _ w) hs ?_
  rw [← eqr_check_Check_1]
  simp only [← eql_check_Check]
  exact h
theorem ln_check_Check (g2 : Addr) (g3 : Addr) (c0 : Addr) (c1 : Addr) {tmps : Array Value} {w : World} {R : Ending → World → Prop} (hs : tmps.getD 2 undef = Value.pointer (some g2) ∧ tmps.getD 3 undef = Value.pointer (some g3) ∧ True) (h : vcn_check_Check_1 c0 c1 w fun e w' => ∃ x, e = .returned x ∧ vl_check_Check g2 g3 w' R) : Leaves P D_check_Check tmps R [{ target := .fn (.func F_check_Check_1) #[Value.pointer (some c0), Value.pointer (some c1)], args := #[] }] .returning w := by
  refine leaves_rec (P := P) (fn := D_check_Check) (clo := D_check_Check_1) (F := F_check_Check_1) (caps := [Value.pointer (some c0), Value.pointer (some c1)]) (slots := [(2, Value.pointer (some g2)), (3, Value.pointer (some g3))]) (u := .returning) (u' := .returning) ann_check_Check_1 T_check_fault (Value.nilIface) (Value.tuple #[Value.agg #[Value.int .i64 0, Value.int .i64 0], Value.bool false]) (by intro h; cases h) (recTo_returning) rfl Try.func10 (bodyOf_some (by kernel_rfl)) (by kernel_rfl) (by kernel_rfl) (fun it w => run_assert_no (by kernel_rfl) (by kernel_rfl) w) hs ?_
  rw [← eqn_check_Check_1]
  simp only [← eql_check_Check]
  exact h
def an_law22_num : Ann := { boxes := [], loops := [], cuts := [], pans := [11, 13, 14, 15, 31], draws := [] }
def vc_law22_num (e_ : Int) (w : World) (R : Ending → World → Prop) : Prop :=
  R (Ending.returned (Value.int .i64 e_)) w
theorem eq_law22_num (e_ : Int) (w : World) (R : Ending → World → Prop) : vc_law22_num e_ w R = vc (bodyOf D_law22_num) (cx0 P D_law22_num an_law22_num) 0 (st0 [Value.int .i64 e_] w) (vEnd (cx0 P D_law22_num an_law22_num) D_law22_num R) := by kernel_rfl
theorem ok_law22_num (e_ : Int) {w : World} {R : Ending → World → Prop} (h : vc_law22_num e_ w R) : Calls P F_law22_num #[Value.int .i64 e_] w R :=
  calls_of_vc (P := P) (f := F_law22_num) (fn := D_law22_num) (c := bodyOf D_law22_num) (args := [Value.int .i64 e_]) (R := R) (w := w) an_law22_num Try.func7 (bodyOf_some (by kernel_rfl)) (by kernel_rfl) (by rw [← eq_law22_num e_ w R]; exact h)
def an_ref18_Items : Ann := { boxes := [(150, 200), (157, 203), (167, 206)], loops := [(0, [(5, Value.slice none 0 0), (6, Value.string (bs ([] : Bytes))), (7, Value.int .i64 0), (8, Value.bool false), (9, Value.int .i64 0)], [2, 3, 4, 10, 11, 12, 13, 14, 15, 16, 17, 18, 19, 23, 24, 25, 26, 27, 28, 29, 30, 31, 32, 33, 34, 35, 36, 37, 38, 39, 40, 41, 42, 43, 44, 45, 46, 47, 48, 49, 50, 51, 52, 53, 54, 55, 56, 57, 58, 59, 60, 61, 62, 63, 64, 65, 66, 67, 68, 69, 70, 71, 72, 73, 74, 75, 76, 77, 78, 79, 80, 81, 82, 83, 84, 85, 86, 87, 88, 89, 90, 91, 92, 93, 94, 95, 96, 97, 98, 99, 100, 101, 102, 103, 104, 105, 106, 107, 108, 109, 110, 111, 112, 113, 114, 115, 116, 117, 118, 119, 120, 121, 122, 123, 124, 125, 126, 127, 128, 129, 130, 131, 132, 133, 134, 135, 136, 137, 138, 139, 140, 141, 142, 143, 144, 145, 146, 147, 148, 149, 150, 151, 152, 153, 154, 155, 156, 157, 158, 159, 160, 200, 201, 202, 203, 204, 205])], cuts := [(11, [(11, Value.int .i64 0)], [34, 35, 36, 37]), (14, [(12, Value.int .i64 0)], [39, 40, 41, 42, 43, 44]), (19, [(6, Value.string (bs ([] : Bytes))), (7, Value.int .i64 0)], [8, 45, 46, 47, 48, 49, 50, 51, 52, 53, 54, 55, 56]), (24, [(14, Value.int .i64 0)], [62, 63, 64, 65, 66, 67]), (32, [(16, Value.int .i64 0)], [2, 3, 4, 17, 76, 77, 78, 79, 80, 81, 82, 83, 84, 85, 86, 87, 88, 89]), (39, [(6, Value.string (bs ([] : Bytes))), (19, Value.string (bs ([] : Bytes)))], [100, 101, 102, 103, 104, 105, 106, 107, 108, 109, 110, 111, 112, 113, 114, 115, 116]), (40, [(8, Value.bool false)], [117, 118, 119, 120, 121, 122, 123, 124, 125, 126, 127, 128, 129, 130, 131, 132, 133, 134, 135]), (42, [(19, Value.string (bs ([] : Bytes)))], [136, 137, 138, 139, 140, 141]), (48, [(5, Value.slice none 0 0), (6, Value.string (bs ([] : Bytes))), (7, Value.int .i64 0)], [2, 3, 4, 8, 9, 10, 11, 12, 13, 14, 15, 16, 17, 18, 19, 23, 24, 25, 26, 27, 28, 29, 30, 31, 32, 33, 34, 35, 36, 37, 38, 39, 40, 41, 42, 43, 44, 45, 46, 47, 48, 49, 50, 51, 52, 53, 54, 55, 56, 57, 58, 59, 60, 61, 62, 63, 64, 65, 66, 67, 68, 69, 70, 71, 72, 73, 74, 75, 76, 77, 78, 79, 80, 81, 82, 83, 84, 85, 86, 87, 88, 89, 90, 91, 92, 93, 94, 95, 96, 97, 98, 99, 100, 101, 102, 103, 104, 105, 106, 107, 108, 109, 110, 111, 112, 113, 114, 115, 116, 117, 118, 119, 120, 121, 122, 123, 124, 125, 126, 127, 128, 129, 130, 131, 132, 133, 134, 135, 136, 137, 138, 139, 140, 141, 142, 143, 144, 145, 146, 147, 148, 149, 150, 151, 152, 153, 154, 155, 156, 157, 158, 159, 160, 200, 201, 202, 203, 204, 205])], pans := [11, 13, 14, 15, 31], draws := [] }
def vc_ref18_Items (s : Bytes) (w : World) (R : Ending → World → Prop) : Prop :=
  br (decide ((16384 : Int) < (s.length : Int)))
    (R (Ending.returned (Value.tuple #[Value.slice none 0 0, Value.int .i64 0, Value.int .i64 5])) w)
    (∃ J : Sl → Bytes → Int → World → Prop,
      (∃ (J1 : Sl → Bytes → Int → Bool → Int → Nat → World → Prop) (n₀ : Nat), J1 ⟨none, 0, 0⟩ ([] : Bytes) (0 : Int) false (0 : Int) n₀ w ∧
      ∀ out : Sl, ∀ text : Bytes, ∀ place : Int, ∀ trim : Bool, ∀ at_ : Int, ∀ (n : Nat) (w_ : World), J1 out text place trim at_ n w_ →
      br (decide (at_ ≤ (s.length : Int)))
        ((0 : Int) ≤ at_ ∧ at_ ≤ (s.length : Int) ∧
        Calls P F_ref01_Find #[Value.string (bs (s.drop at_.toNat)), Value.string (bs [123, 123])] w_ (fun (e_ : Ending) (w_1 : World) =>
          ∃ r : Int, e_ = Ending.returned (Value.int .i64 r) ∧ 
          InI64 (at_ + r) ∧
          ∃ J2 : Int → World → Prop,
            (br (decide (r < 0))
              (J2 (s.length : Int) w_1)
              (J2 (at_ + r) w_1)) ∧
          ∀ open_ : Int, ∀ w_2 : World, J2 open_ w_2 →
          ∃ J3 : Int → World → Prop,
            (br trim
              (Calls P F_ref18_skip #[Value.string (bs s), Value.int .i64 at_] w_2 (fun (e_1 : Ending) (w_3 : World) =>
                ∃ r1 : Int, e_1 = Ending.returned (Value.int .i64 r1) ∧ 
                J3 (imin r1 open_) w_3))
              (J3 at_ w_2)) ∧
          ∀ from_ : Int, ∀ w_4 : World, J3 from_ w_4 →
          ∃ J4 : Bytes → Int → World → Prop,
            (br (decide (from_ < open_))
              (br (decide (text = ([] : Bytes)))
                ((0 : Int) ≤ from_ ∧ from_ ≤ open_ ∧ open_ ≤ (s.length : Int) ∧
                text.length + ((s.take open_.toNat).drop from_.toNat).length ≤ 9223372036854775807 ∧
                J4 (text ++ ((s.take open_.toNat).drop from_.toNat)) from_ w_4)
                ((0 : Int) ≤ from_ ∧ from_ ≤ open_ ∧ open_ ≤ (s.length : Int) ∧
                text.length + ((s.take open_.toNat).drop from_.toNat).length ≤ 9223372036854775807 ∧
                J4 (text ++ ((s.take open_.toNat).drop from_.toNat)) place w_4))
              (J4 text place w_4)) ∧
          ∀ text1 : Bytes, ∀ place1 : Int, ∀ w_5 : World, J4 text1 place1 w_5 →
          br (decide (r < 0))
            (J out text1 place1 w_5)
            (InI64 (open_ + 2) ∧
            ∃ J5 : Int → World → Prop,
              ((0 : Int) ≤ open_ + 2 ∧ open_ + 2 ≤ (s.length : Int) ∧
              Calls P F_ref01_Begins #[Value.string (bs [45]), Value.string (bs (s.drop ((open_ + 2).toNat)))] w_5 (fun (e_2 : Ending) (w_6 : World) =>
                ∃ r2 : Bool, e_2 = Ending.returned (Value.bool r2) ∧ 
                br r2
                  (InI64 ((open_ + 2) + 1) ∧
                  J5 ((open_ + 2) + 1) w_6)
                  (J5 (open_ + 2) w_6))) ∧
            ∀ body : Int, ∀ w_7 : World, J5 body w_7 →
            Calls P F_ref18_skip #[Value.string (bs s), Value.int .i64 body] w_7 (fun (e_3 : Ending) (w_8 : World) =>
              ∃ r3 : Int, e_3 = Ending.returned (Value.int .i64 r3) ∧ 
              (0 : Int) ≤ r3 ∧ r3 ≤ (s.length : Int) ∧
              Calls P F_ref01_Begins #[Value.string (bs [47, 42]), Value.string (bs (s.drop r3.toNat))] w_8 (fun (e_4 : Ending) (w_9 : World) =>
                ∃ r4 : Bool, e_4 = Ending.returned (Value.bool r4) ∧ 
                ∃ J6 : Int → World → Prop,
                  (br r4
                    (InI64 (r3 + 2) ∧
                    (0 : Int) ≤ r3 + 2 ∧ r3 + 2 ≤ (s.length : Int) ∧
                    Calls P F_ref01_Find #[Value.string (bs (s.drop ((r3 + 2).toNat))), Value.string (bs [42, 47])] w_9 (fun (e_5 : Ending) (w_10 : World) =>
                      ∃ r5 : Int, e_5 = Ending.returned (Value.int .i64 r5) ∧ 
                      br (decide (r5 < 0))
                        (R (Ending.returned (Value.tuple #[Value.slice none 0 0, Value.int .i64 open_, Value.int .i64 8])) w_10)
                        (InI64 (r3 + 2) ∧
                        InI64 ((r3 + 2) + r5) ∧
                        InI64 (((r3 + 2) + r5) + 2) ∧
                        J6 (((r3 + 2) + r5) + 2) w_10)))
                    (J6 (open_ + 2) w_9)) ∧
                ∀ look : Int, ∀ w_11 : World, J6 look w_11 →
                Calls P F_ref18_closes #[Value.string (bs s), Value.int .i64 look] w_11 (fun (e_6 : Ending) (w_12 : World) =>
                  ∃ r6 : Int, e_6 = Ending.returned (Value.int .i64 r6) ∧ 
                  br (decide (r6 < 0))
                    (R (Ending.returned (Value.tuple #[Value.slice none 0 0, Value.int .i64 open_, Value.int .i64 8])) w_12)
                    ((0 : Int) ≤ open_ + 2 ∧ open_ + 2 ≤ r6 ∧ r6 ≤ (s.length : Int) ∧
                    ∃ J7 : Bytes → Bytes → World → Prop,
                      (br (decide ((1 : Int) < (((s.take r6.toNat).drop ((open_ + 2).toNat)).length : Int)))
                        ((0 : Int) ≤ 0 ∧ (0 : Int) < (((s.take r6.toNat).drop ((open_ + 2).toNat)).length : Int) ∧
                        br (decide (byteAt ((s.take r6.toNat).drop ((open_ + 2).toNat)) ((0 : Int).toNat) = 45))
                          ((0 : Int) ≤ 1 ∧ (1 : Int) < (((s.take r6.toNat).drop ((open_ + 2).toNat)).length : Int) ∧
                          Calls P F_ref01_Blank #[Value.int .u8 (byteAt ((s.take r6.toNat).drop ((open_ + 2).toNat)) ((1 : Int).toNat))] w_12 (fun (e_7 : Ending) (w_13 : World) =>
                            ∃ r7 : Bool, e_7 = Ending.returned (Value.bool r7) ∧ 
                            br r7
                              ((0 : Int) ≤ 1 ∧ (1 : Int) ≤ (((s.take r6.toNat).drop ((open_ + 2).toNat)).length : Int) ∧
                              Calls P F_ref18_back #[Value.string (bs text1)] w_13 (fun (e_8 : Ending) (w_14 : World) =>
                                ∃ r8 : Bytes, e_8 = Ending.returned (Value.string (bs r8)) ∧ 
                                J7 r8 (((s.take r6.toNat).drop ((open_ + 2).toNat)).drop ((1 : Int).toNat)) w_14))
                              (J7 text1 ((s.take r6.toNat).drop ((open_ + 2).toNat)) w_13)))
                          (J7 text1 ((s.take r6.toNat).drop ((open_ + 2).toNat)) w_12))
                        (J7 text1 ((s.take r6.toNat).drop ((open_ + 2).toNat)) w_12)) ∧
                    ∀ text2 : Bytes, ∀ t : Bytes, ∀ w_15 : World, J7 text2 t w_15 →
                    ∃ J8 : Bool → World → Prop,
                      (br (decide ((1 : Int) < (t.length : Int)))
                        (InI64 ((t.length : Int) - 1) ∧
                        (0 : Int) ≤ (t.length : Int) - 1 ∧ (t.length : Int) - 1 < (t.length : Int) ∧
                        br (decide (byteAt t (((t.length : Int) - 1).toNat) = 45))
                          (InI64 ((t.length : Int) - 2) ∧
                          (0 : Int) ≤ (t.length : Int) - 2 ∧ (t.length : Int) - 2 < (t.length : Int) ∧
                          Calls P F_ref01_Blank #[Value.int .u8 (byteAt t (((t.length : Int) - 2).toNat))] w_15 (fun (e_9 : Ending) (w_16 : World) =>
                            ∃ r9 : Bool, e_9 = Ending.returned (Value.bool r9) ∧ 
                            J8 r9 w_16))
                          (J8 false w_15))
                        (J8 false w_15)) ∧
                    ∀ trim1 : Bool, ∀ w_17 : World, J8 trim1 w_17 →
                    ∃ J9 : Bytes → World → Prop,
                      (br trim1
                        (InI64 ((t.length : Int) - 1) ∧
                        (0 : Int) ≤ (t.length : Int) - 1 ∧ (t.length : Int) - 1 ≤ (t.length : Int) ∧
                        J9 (t.take (((t.length : Int) - 1).toNat)) w_17)
                        (J9 t w_17)) ∧
                    ∀ t1 : Bytes, ∀ w_18 : World, J9 t1 w_18 →
                    br (!r4)
                      (br (!decide (text2 = ([] : Bytes)))
                        (∀ b : Nat, w_18.heap.size ≤ b →
                        ∀ w_19 : World, LocB [b] w_18 w_19 →
                        ∃ old : List Value, AppPre w_19 out 3 32 1 old ∧ (∀ ad, out.a = some ad → ad.block ≠ b) ∧ 
                        ∀ (s1 : Sl) (w_20 : World), AppRes w_19 out 3 T_ref18_Item [Value.int .i64 1, Value.string (bs text2), Value.int .i64 place1] 1 old s1 w_20 →
                        Calls P F_ref01_Trim #[Value.string (bs t1)] w_20 (fun (e_10 : Ending) (w_21 : World) =>
                          ∃ r10 : Bytes, e_10 = Ending.returned (Value.string (bs r10)) ∧ w_21.heap[b]? = w_20.heap[b]? ∧ 
                          ∀ b1 : Nat, w_21.heap.size ≤ b1 →
                          ∀ w_22 : World, LocB [b1, b] w_21 w_22 →
                          ∃ old1 : List Value, AppPre w_22 s1 3 32 1 old1 ∧ (∀ ad, s1.a = some ad → ad.block ≠ b1) ∧ (∀ ad, s1.a = some ad → ad.block ≠ b) ∧ 
                          ∀ (s2 : Sl) (w_23 : World), AppRes w_22 s1 3 T_ref18_Item [Value.int .i64 2, Value.string (bs r10), Value.int .i64 open_] 1 old1 s2 w_23 →
                          InI64 (r6 + 2) ∧
                          ∃ m : Nat, m < n ∧ J1 s2 ([] : Bytes) place1 trim1 (r6 + 2) m w_23))
                        (Calls P F_ref01_Trim #[Value.string (bs t1)] w_18 (fun (e_11 : Ending) (w_24 : World) =>
                          ∃ r11 : Bytes, e_11 = Ending.returned (Value.string (bs r11)) ∧ 
                          ∀ b2 : Nat, w_24.heap.size ≤ b2 →
                          ∀ w_25 : World, LocB [b2] w_24 w_25 →
                          ∃ old2 : List Value, AppPre w_25 out 3 32 1 old2 ∧ (∀ ad, out.a = some ad → ad.block ≠ b2) ∧ 
                          ∀ (s3 : Sl) (w_26 : World), AppRes w_25 out 3 T_ref18_Item [Value.int .i64 2, Value.string (bs r11), Value.int .i64 open_] 1 old2 s3 w_26 →
                          InI64 (r6 + 2) ∧
                          ∃ m1 : Nat, m1 < n ∧ J1 s3 ([] : Bytes) place1 trim1 (r6 + 2) m1 w_26)))
                      (InI64 (r6 + 2) ∧
                      ∃ m2 : Nat, m2 < n ∧ J1 out text2 place1 trim1 (r6 + 2) m2 w_18))))))))
        (J out text place w_)) ∧
    ∀ out1 : Sl, ∀ text3 : Bytes, ∀ place2 : Int, ∀ w_27 : World, J out1 text3 place2 w_27 →
    br (!decide (text3 = ([] : Bytes)))
      (∀ b3 : Nat, w_27.heap.size ≤ b3 →
      ∀ w_28 : World, LocB [b3] w_27 w_28 →
      ∃ old3 : List Value, AppPre w_28 out1 3 32 1 old3 ∧ (∀ ad, out1.a = some ad → ad.block ≠ b3) ∧ 
      ∀ (s4 : Sl) (w_29 : World), AppRes w_28 out1 3 T_ref18_Item [Value.int .i64 1, Value.string (bs text3), Value.int .i64 place2] 1 old3 s4 w_29 →
      R (Ending.returned (Value.tuple #[Value.slice s4.a s4.len s4.cap, Value.int .i64 (s.length : Int), Value.int .i64 0])) w_29)
      (R (Ending.returned (Value.tuple #[Value.slice out1.a out1.len out1.cap, Value.int .i64 (s.length : Int), Value.int .i64 0])) w_27))
theorem eq_ref18_Items (s : Bytes) (w : World) (R : Ending → World → Prop) : vc_ref18_Items s w R = vc (bodyOf D_ref18_Items) (cx0 P D_ref18_Items an_ref18_Items) 0 (st0 [Value.string (bs s)] w) (vEnd (cx0 P D_ref18_Items an_ref18_Items) D_ref18_Items R) := by kernel_rfl
theorem ok_ref18_Items (s : Bytes) {w : World} {R : Ending → World → Prop} (h : vc_ref18_Items s w R) : Calls P F_ref18_Items #[Value.string (bs s)] w R :=
  calls_of_vc (P := P) (f := F_ref18_Items) (fn := D_ref18_Items) (c := bodyOf D_ref18_Items) (args := [Value.string (bs s)]) (R := R) (w := w) an_ref18_Items Try.func8 (bodyOf_some (by kernel_rfl)) (by kernel_rfl) (by rw [← eq_ref18_Items s w R]; exact h)
def an_ref20_Parser_nodes : Ann := { boxes := [(5, 200), (8, 203), (10, 206), (12, 209), (78, 218), (166, 227)], loops := [(0, [(7, Value.slice none 0 0)], [4, 6, 8, 9, 10, 11, 12, 13, 14, 15, 16, 17, 18, 19, 20, 21, 22, 23, 24, 25, 26, 27, 28, 29, 30, 31, 32, 33, 34, 35, 36, 37, 38, 39, 40, 41, 42, 43, 44, 45, 46, 47, 48, 49, 50, 51, 52, 53, 54, 55, 56, 57, 58, 59, 60, 61, 62, 63, 64, 65, 66, 67, 68, 69, 70, 71, 72, 73, 74, 75, 76, 77, 78, 79, 80, 81, 82, 83, 84, 85, 86, 87, 88, 89, 90, 91, 92, 93, 94, 95, 96, 97, 98, 99, 100, 101, 102, 103, 104, 105, 106, 107, 108, 109, 110, 111, 112, 113, 114, 115, 116, 117, 118, 119, 120, 121, 122, 123, 124, 125, 126, 127, 128, 129, 130, 131, 132, 133, 134, 135, 136, 137, 138, 139, 140, 141, 142, 143, 144, 145, 146, 147, 148, 149, 150, 151, 152, 153, 154, 155, 156, 157, 158, 159, 160, 161, 162, 163, 164, 165, 166, 167, 200, 201, 202, 203, 204, 205, 206, 207, 208, 209, 210, 211, 212, 213, 214, 215, 216, 217, 218, 219, 220, 221, 222, 223, 224, 225, 226, 227, 228, 229, 230, 231, 232, 233, 234, 235])], cuts := [(8, [], [9, 33, 34, 35, 36, 37, 38, 39, 40, 41, 42, 43, 44, 45, 46, 47, 48, 49, 50, 51, 52, 53, 54, 55, 56, 57, 58, 59, 60, 61, 62])], pans := [11, 13, 14, 15, 31], draws := [(7, [0, 1, 2, 3, 4, 5, 6, 7, 8, 9, 10, 11, 12], [.t, .t, .t, .t, .t, .t, .h, .t, .bl 203, .t, .t, .t, .e]), (14, [0, 1, 2, 3], [.bl 206, .t, .bst 200, .t]), (21, [0, 1, 2, 3, 4, 5, 6, 7], [.bl 206, .t, .t, .bl 206, .e, .t, .bst 200, .t]), (22, [0, 1, 2, 3, 4], [.t, .bl 206, .t, .bst 200, .t]), (25, [0, 1, 2, 3, 4, 5, 6, 7], [.bl 206, .t, .t, .bl 206, .e, .t, .bst 200, .t]), (27, [0, 1, 2, 3], [.bl 206, .t, .bst 200, .t]), (35, [0, 1, 2, 3], [.bl 206, .t, .bst 200, .t])] }
def vc_ref20_Parser_nodes (p : Addr) (deep : Int) (w : World) (R : Ending → World → Prop) : Prop :=
  ∀ b : Nat, w.heap.size ≤ b →
  ∀ w_ : World, LocB [b] w w_ →
  ∃ (J : Sl → Nat → World → Prop) (n₀ : Nat), J ⟨none, 0, 0⟩ n₀ w_ ∧
  ∀ out : Sl, ∀ (n : Nat) (w_1 : World), J out n w_1 →
  ∃ x : Sl, CellsAt w_1 p [Value.slice x.a x.len x.cap] ∧
  br (decide ((0 : Int) < ((x.len : Nat) : Int)))
    (∃ x1 : Sl, CellsAt w_1 p [Value.slice x1.a x1.len x1.cap] ∧
    (0 : Int) ≤ 0 ∧ (0 : Int) < ((x1.len : Nat) : Int) ∧ ∃ a : Addr, x1.a = some a ∧
    ∃ Kind : Int, ∃ Text : Bytes, ∃ At : Int, CellsAt w_1 (a.add ((0 : Int).toNat * 3)) [Value.int .i64 Kind, Value.string (bs Text), Value.int .i64 At] ∧
    ∀ b1 : Nat, w_1.heap.size ≤ b1 →
    ∀ w_2 : World, LocB [b1, b] w_1 w_2 →
    ∃ x2 : Sl, CellsAt w_2 p [Value.slice x2.a x2.len x2.cap] ∧
    (0 : Int) ≤ 1 ∧ (1 : Int) ≤ ((x2.len : Nat) : Int) ∧
    StoreOk w_2 p 1 ∧ p.block ≠ b1 ∧ p.block ≠ b ∧ 
    ∃ J1 : World → Prop,
      (InI64 (((out.len : Nat) : Int) - 1) ∧
      br (decide (Kind = 1))
        (br (decide ((0 : Int) ≤ ((out.len : Nat) : Int) - 1))
          ((0 : Int) ≤ ((out.len : Nat) : Int) - 1 ∧ ((out.len : Nat) : Int) - 1 < ((out.len : Nat) : Int) ∧ ∃ a1 : Addr, out.a = some a1 ∧
          ∃ x3 : Int, CellsAt (setCells w_2 p [Value.slice (cutA x2.a ((1 : Int).toNat) x2.cap 3) (x2.len - (1 : Int).toNat) (x2.cap - (1 : Int).toNat)]) (a1.add ((((out.len : Nat) : Int) - 1).toNat * 9)) [Value.int .i64 x3] ∧
          br (decide (x3 = 1))
            (∀ w_3 : World, LocB [b1, b] (setCells w_2 p [Value.slice (cutA x2.a ((1 : Int).toNat) x2.cap 3) (x2.len - (1 : Int).toNat) (x2.cap - (1 : Int).toNat)]) w_3 →
            (0 : Int) ≤ ((out.len : Nat) : Int) - 1 ∧ ((out.len : Nat) : Int) - 1 < ((out.len : Nat) : Int) ∧ ∃ a2 : Addr, out.a = some a2 ∧
            ∃ x4 : Bytes, CellsAt w_3 ((a2.add ((((out.len : Nat) : Int) - 1).toNat * 9)).add 1) [Value.string (bs x4)] ∧
            x4.length + Text.length ≤ 9223372036854775807 ∧
            (0 : Int) ≤ ((out.len : Nat) : Int) - 1 ∧ ((out.len : Nat) : Int) - 1 < ((out.len : Nat) : Int) ∧ ∃ a3 : Addr, out.a = some a3 ∧
            StoreOk w_3 ((a3.add ((((out.len : Nat) : Int) - 1).toNat * 9)).add 1) 1 ∧ ((a3.add ((((out.len : Nat) : Int) - 1).toNat * 9)).add 1).block ≠ b1 ∧ ((a3.add ((((out.len : Nat) : Int) - 1).toNat * 9)).add 1).block ≠ b ∧ 
            ∃ m : Nat, m < n ∧ J out m (setCells w_3 ((a3.add ((((out.len : Nat) : Int) - 1).toNat * 9)).add 1) [Value.string (bs (x4 ++ Text))]))
            (J1 (setCells w_2 p [Value.slice (cutA x2.a ((1 : Int).toNat) x2.cap 3) (x2.len - (1 : Int).toNat) (x2.cap - (1 : Int).toNat)])))
          (J1 (setCells w_2 p [Value.slice (cutA x2.a ((1 : Int).toNat) x2.cap 3) (x2.len - (1 : Int).toNat) (x2.cap - (1 : Int).toNat)])))
        (J1 (setCells w_2 p [Value.slice (cutA x2.a ((1 : Int).toNat) x2.cap 3) (x2.len - (1 : Int).toNat) (x2.cap - (1 : Int).toNat)]))) ∧
    ∀ w_4 : World, J1 w_4 →
    br (decide (Kind = 1))
      (Calls P F_ref20_Parser_count #[Value.pointer (some p), Value.int .i64 At] w_4 (fun (e_ : Ending) (w_5 : World) =>
        ∃ r : Bool, e_ = Ending.returned (Value.bool r) ∧ w_5.heap[b1]? = w_4.heap[b1]? ∧ w_5.heap[b]? = w_4.heap[b]? ∧ 
        br (!r)
          (∀ w_6 : World, LocB [b1, b] w_5 w_6 →
          R (Ending.returned (Value.tuple #[Value.slice none 0 0, Value.agg #[Value.slice none 0 0, Value.string (bs ([] : Bytes)), Value.int .i64 0], Value.bool false])) w_6)
          (∀ b2 : Nat, w_5.heap.size ≤ b2 →
          ∀ w_7 : World, LocB [b2, b1, b] w_5 w_7 →
          ∃ old : List Value, AppPre w_7 out 9 136 1 old ∧ (∀ ad, out.a = some ad → ad.block ≠ b2) ∧ (∀ ad, out.a = some ad → ad.block ≠ b1) ∧ (∀ ad, out.a = some ad → ad.block ≠ b) ∧ 
          ∀ (s : Sl) (w_8 : World), AppRes w_7 out 9 T_api_Node [Value.int .i64 1, Value.string (bs Text), Value.string (bs ([] : Bytes)), Value.slice none 0 0, Value.slice none 0 0, Value.slice none 0 0, Value.int .i64 At, Value.int .i64 0, Value.int .i64 0] 1 old s w_8 →
          ∃ m1 : Nat, m1 < n ∧ J s m1 w_8)))
      (Calls P F_ref20_Parser_words #[Value.pointer (some p), Value.agg #[Value.int .i64 Kind, Value.string (bs Text), Value.int .i64 At]] w_4 (fun (e_1 : Ending) (w_9 : World) =>
        ∃ r1 : Sl, ∃ r2 : Bytes, ∃ r3 : Int, ∃ r4 : Bool, e_1 = Ending.returned (Value.tuple #[Value.agg #[Value.slice r1.a r1.len r1.cap, Value.string (bs r2), Value.int .i64 r3], Value.bool r4]) ∧ w_9.heap[b1]? = w_4.heap[b1]? ∧ w_9.heap[b]? = w_4.heap[b]? ∧ 
        ∀ b3 : Nat, w_9.heap.size ≤ b3 →
        br (!r4)
          (∀ w_10 : World, LocB [b3, b1, b] w_9 w_10 →
          ∀ w_11 : World, LocB [b3, b1, b] w_10 w_11 →
          R (Ending.returned (Value.tuple #[Value.slice none 0 0, Value.agg #[Value.slice r1.a r1.len r1.cap, Value.string (bs r2), Value.int .i64 r3], Value.bool false])) w_11)
          (∀ b4 : Nat, w_9.heap.size ≤ b4 →
          br (decide (r2 = [101, 110, 100]))
            (br (decide (r2 = [101, 110, 100]))
              (br (decide (deep = 0))
                (∀ w_12 : World, LocB [b4, b3, b1, b] w_9 w_12 →
                Calls P F_ref20_Parser_fail #[Value.pointer (some p), Value.int .i64 r3, Value.int .i64 33] w_12 (fun (e_2 : Ending) (w_13 : World) =>
                  ∃ r5 : Bool, e_2 = Ending.returned (Value.bool r5) ∧ w_13.heap[b4]? = w_12.heap[b4]? ∧ w_13.heap[b3]? = w_12.heap[b3]? ∧ w_13.heap[b1]? = w_12.heap[b1]? ∧ w_13.heap[b]? = w_12.heap[b]? ∧ 
                  ∀ w_14 : World, LocB [b4, b3, b1, b] w_13 w_14 →
                  R (Ending.returned (Value.tuple #[Value.slice none 0 0, Value.agg #[Value.slice r1.a r1.len r1.cap, Value.string (bs r2), Value.int .i64 r3], Value.bool r5])) w_14))
                (br (decide (r2 = [101, 110, 100]))
                  (br (decide ((1 : Int) < ((r1.len : Nat) : Int)))
                    (∀ w_15 : World, LocB [b4, b3, b1, b] w_9 w_15 →
                    Calls P F_ref20_Parser_fail #[Value.pointer (some p), Value.int .i64 r3, Value.int .i64 33] w_15 (fun (e_3 : Ending) (w_16 : World) =>
                      ∃ r6 : Bool, e_3 = Ending.returned (Value.bool r6) ∧ w_16.heap[b4]? = w_15.heap[b4]? ∧ w_16.heap[b3]? = w_15.heap[b3]? ∧ w_16.heap[b1]? = w_15.heap[b1]? ∧ w_16.heap[b]? = w_15.heap[b]? ∧ 
                      ∀ w_17 : World, LocB [b4, b3, b1, b] w_16 w_17 →
                      R (Ending.returned (Value.tuple #[Value.slice none 0 0, Value.agg #[Value.slice r1.a r1.len r1.cap, Value.string (bs r2), Value.int .i64 r3], Value.bool r6])) w_17))
                    (∀ w_18 : World, LocB [b4, b3, b1, b] w_9 w_18 →
                    ∀ w_19 : World, LocB [b4, b3, b1, b] w_18 w_19 →
                    R (Ending.returned (Value.tuple #[Value.slice out.a out.len out.cap, Value.agg #[Value.slice r1.a r1.len r1.cap, Value.string (bs r2), Value.int .i64 r3], Value.bool true])) w_19))
                  (∀ w_20 : World, LocB [b4, b3, b1, b] w_9 w_20 →
                  ∀ w_21 : World, LocB [b4, b3, b1, b] w_20 w_21 →
                  R (Ending.returned (Value.tuple #[Value.slice out.a out.len out.cap, Value.agg #[Value.slice r1.a r1.len r1.cap, Value.string (bs r2), Value.int .i64 r3], Value.bool true])) w_21)))
              (br (decide (r2 = [100, 101, 102, 105, 110, 101]))
                (br (decide ((0 : Int) < deep))
                  (∀ w_22 : World, LocB [b4, b3, b1, b] w_9 w_22 →
                  Calls P F_ref20_Parser_fail #[Value.pointer (some p), Value.int .i64 r3, Value.int .i64 33] w_22 (fun (e_4 : Ending) (w_23 : World) =>
                    ∃ r7 : Bool, e_4 = Ending.returned (Value.bool r7) ∧ w_23.heap[b4]? = w_22.heap[b4]? ∧ w_23.heap[b3]? = w_22.heap[b3]? ∧ w_23.heap[b1]? = w_22.heap[b1]? ∧ w_23.heap[b]? = w_22.heap[b]? ∧ 
                    ∀ w_24 : World, LocB [b4, b3, b1, b] w_23 w_24 →
                    R (Ending.returned (Value.tuple #[Value.slice none 0 0, Value.agg #[Value.slice r1.a r1.len r1.cap, Value.string (bs r2), Value.int .i64 r3], Value.bool r7])) w_24))
                  (∀ w_25 : World, LocB [b4, b3, b1, b] w_9 w_25 →
                  Calls P F_ref20_Parser_define #[Value.pointer (some p), Value.agg #[Value.slice r1.a r1.len r1.cap, Value.string (bs r2), Value.int .i64 r3]] w_25 (fun (e_5 : Ending) (w_26 : World) =>
                    ∃ r8 : Bool, e_5 = Ending.returned (Value.bool r8) ∧ w_26.heap[b4]? = w_25.heap[b4]? ∧ w_26.heap[b3]? = w_25.heap[b3]? ∧ w_26.heap[b1]? = w_25.heap[b1]? ∧ w_26.heap[b]? = w_25.heap[b]? ∧ 
                    br (!r8)
                      (∀ w_27 : World, LocB [b4, b3, b1, b] w_26 w_27 →
                      ∀ w_28 : World, LocB [b4, b3, b1, b] w_27 w_28 →
                      R (Ending.returned (Value.tuple #[Value.slice none 0 0, Value.agg #[Value.slice r1.a r1.len r1.cap, Value.string (bs r2), Value.int .i64 r3], Value.bool false])) w_28)
                      (∃ m2 : Nat, m2 < n ∧ J out m2 w_26))))
                (br (decide (r2 = [105, 102]))
                  (∀ w_29 : World, LocB [b4, b3, b1, b] w_9 w_29 →
                  Calls P F_ref20_Parser_block #[Value.pointer (some p), Value.int .i64 3, Value.agg #[Value.slice r1.a r1.len r1.cap, Value.string (bs r2), Value.int .i64 r3], Value.int .i64 1, Value.int .i64 deep] w_29 (fun (e_6 : Ending) (w_30 : World) =>
                    ∃ r9 : Int, ∃ r10 : Bytes, ∃ r11 : Bytes, ∃ r12 : Sl, ∃ r13 : Sl, ∃ r14 : Sl, ∃ r15 : Int, ∃ r16 : Int, ∃ r17 : Int, ∃ r18 : Bool, e_6 = Ending.returned (Value.tuple #[Value.agg #[Value.int .i64 r9, Value.string (bs r10), Value.string (bs r11), Value.slice r12.a r12.len r12.cap, Value.slice r13.a r13.len r13.cap, Value.slice r14.a r14.len r14.cap, Value.int .i64 r15, Value.int .i64 r16, Value.int .i64 r17], Value.bool r18]) ∧ w_30.heap[b4]? = w_29.heap[b4]? ∧ w_30.heap[b3]? = w_29.heap[b3]? ∧ w_30.heap[b1]? = w_29.heap[b1]? ∧ w_30.heap[b]? = w_29.heap[b]? ∧ 
                    br (!r18)
                      (∀ w_31 : World, LocB [b4, b3, b1, b] w_30 w_31 →
                      ∀ w_32 : World, LocB [b4, b3, b1, b] w_31 w_32 →
                      R (Ending.returned (Value.tuple #[Value.slice none 0 0, Value.agg #[Value.slice r1.a r1.len r1.cap, Value.string (bs r2), Value.int .i64 r3], Value.bool false])) w_32)
                      (∀ b5 : Nat, w_30.heap.size ≤ b5 →
                      ∀ w_33 : World, LocB [b5, b4, b3, b1, b] w_30 w_33 →
                      ∃ old1 : List Value, AppPre w_33 out 9 136 1 old1 ∧ (∀ ad, out.a = some ad → ad.block ≠ b5) ∧ (∀ ad, out.a = some ad → ad.block ≠ b4) ∧ (∀ ad, out.a = some ad → ad.block ≠ b3) ∧ (∀ ad, out.a = some ad → ad.block ≠ b1) ∧ (∀ ad, out.a = some ad → ad.block ≠ b) ∧ 
                      ∀ (s1 : Sl) (w_34 : World), AppRes w_33 out 9 T_api_Node [Value.int .i64 r9, Value.string (bs r10), Value.string (bs r11), Value.slice r12.a r12.len r12.cap, Value.slice r13.a r13.len r13.cap, Value.slice r14.a r14.len r14.cap, Value.int .i64 r15, Value.int .i64 r16, Value.int .i64 r17] 1 old1 s1 w_34 →
                      ∃ m3 : Nat, m3 < n ∧ J s1 m3 w_34)))
                  (br (decide (r2 = [114, 97, 110, 103, 101]))
                    (∀ w_35 : World, LocB [b4, b3, b1, b] w_9 w_35 →
                    Calls P F_ref20_Parser_block #[Value.pointer (some p), Value.int .i64 4, Value.agg #[Value.slice r1.a r1.len r1.cap, Value.string (bs r2), Value.int .i64 r3], Value.int .i64 1, Value.int .i64 deep] w_35 (fun (e_7 : Ending) (w_36 : World) =>
                      ∃ r19 : Int, ∃ r20 : Bytes, ∃ r21 : Bytes, ∃ r22 : Sl, ∃ r23 : Sl, ∃ r24 : Sl, ∃ r25 : Int, ∃ r26 : Int, ∃ r27 : Int, ∃ r28 : Bool, e_7 = Ending.returned (Value.tuple #[Value.agg #[Value.int .i64 r19, Value.string (bs r20), Value.string (bs r21), Value.slice r22.a r22.len r22.cap, Value.slice r23.a r23.len r23.cap, Value.slice r24.a r24.len r24.cap, Value.int .i64 r25, Value.int .i64 r26, Value.int .i64 r27], Value.bool r28]) ∧ w_36.heap[b4]? = w_35.heap[b4]? ∧ w_36.heap[b3]? = w_35.heap[b3]? ∧ w_36.heap[b1]? = w_35.heap[b1]? ∧ w_36.heap[b]? = w_35.heap[b]? ∧ 
                      br (!r28)
                        (∀ w_37 : World, LocB [b4, b3, b1, b] w_36 w_37 →
                        ∀ w_38 : World, LocB [b4, b3, b1, b] w_37 w_38 →
                        R (Ending.returned (Value.tuple #[Value.slice none 0 0, Value.agg #[Value.slice r1.a r1.len r1.cap, Value.string (bs r2), Value.int .i64 r3], Value.bool false])) w_38)
                        (∀ b6 : Nat, w_36.heap.size ≤ b6 →
                        ∀ w_39 : World, LocB [b6, b4, b3, b1, b] w_36 w_39 →
                        ∃ old2 : List Value, AppPre w_39 out 9 136 1 old2 ∧ (∀ ad, out.a = some ad → ad.block ≠ b6) ∧ (∀ ad, out.a = some ad → ad.block ≠ b4) ∧ (∀ ad, out.a = some ad → ad.block ≠ b3) ∧ (∀ ad, out.a = some ad → ad.block ≠ b1) ∧ (∀ ad, out.a = some ad → ad.block ≠ b) ∧ 
                        ∀ (s2 : Sl) (w_40 : World), AppRes w_39 out 9 T_api_Node [Value.int .i64 r19, Value.string (bs r20), Value.string (bs r21), Value.slice r22.a r22.len r22.cap, Value.slice r23.a r23.len r23.cap, Value.slice r24.a r24.len r24.cap, Value.int .i64 r25, Value.int .i64 r26, Value.int .i64 r27] 1 old2 s2 w_40 →
                        ∃ m4 : Nat, m4 < n ∧ J s2 m4 w_40)))
                    (br (decide (r2 = [119, 105, 116, 104]))
                      (∀ w_41 : World, LocB [b4, b3, b1, b] w_9 w_41 →
                      Calls P F_ref20_Parser_block #[Value.pointer (some p), Value.int .i64 5, Value.agg #[Value.slice r1.a r1.len r1.cap, Value.string (bs r2), Value.int .i64 r3], Value.int .i64 1, Value.int .i64 deep] w_41 (fun (e_8 : Ending) (w_42 : World) =>
                        ∃ r29 : Int, ∃ r30 : Bytes, ∃ r31 : Bytes, ∃ r32 : Sl, ∃ r33 : Sl, ∃ r34 : Sl, ∃ r35 : Int, ∃ r36 : Int, ∃ r37 : Int, ∃ r38 : Bool, e_8 = Ending.returned (Value.tuple #[Value.agg #[Value.int .i64 r29, Value.string (bs r30), Value.string (bs r31), Value.slice r32.a r32.len r32.cap, Value.slice r33.a r33.len r33.cap, Value.slice r34.a r34.len r34.cap, Value.int .i64 r35, Value.int .i64 r36, Value.int .i64 r37], Value.bool r38]) ∧ w_42.heap[b4]? = w_41.heap[b4]? ∧ w_42.heap[b3]? = w_41.heap[b3]? ∧ w_42.heap[b1]? = w_41.heap[b1]? ∧ w_42.heap[b]? = w_41.heap[b]? ∧ 
                        br (!r38)
                          (∀ w_43 : World, LocB [b4, b3, b1, b] w_42 w_43 →
                          ∀ w_44 : World, LocB [b4, b3, b1, b] w_43 w_44 →
                          R (Ending.returned (Value.tuple #[Value.slice none 0 0, Value.agg #[Value.slice r1.a r1.len r1.cap, Value.string (bs r2), Value.int .i64 r3], Value.bool false])) w_44)
                          (∀ b7 : Nat, w_42.heap.size ≤ b7 →
                          ∀ w_45 : World, LocB [b7, b4, b3, b1, b] w_42 w_45 →
                          ∃ old3 : List Value, AppPre w_45 out 9 136 1 old3 ∧ (∀ ad, out.a = some ad → ad.block ≠ b7) ∧ (∀ ad, out.a = some ad → ad.block ≠ b4) ∧ (∀ ad, out.a = some ad → ad.block ≠ b3) ∧ (∀ ad, out.a = some ad → ad.block ≠ b1) ∧ (∀ ad, out.a = some ad → ad.block ≠ b) ∧ 
                          ∀ (s3 : Sl) (w_46 : World), AppRes w_45 out 9 T_api_Node [Value.int .i64 r29, Value.string (bs r30), Value.string (bs r31), Value.slice r32.a r32.len r32.cap, Value.slice r33.a r33.len r33.cap, Value.slice r34.a r34.len r34.cap, Value.int .i64 r35, Value.int .i64 r36, Value.int .i64 r37] 1 old3 s3 w_46 →
                          ∃ m5 : Nat, m5 < n ∧ J s3 m5 w_46)))
                      (∀ w_47 : World, LocB [b4, b3, b1, b] w_9 w_47 →
                      Calls P F_ref20_Parser_single #[Value.pointer (some p), Value.agg #[Value.slice r1.a r1.len r1.cap, Value.string (bs r2), Value.int .i64 r3]] w_47 (fun (e_9 : Ending) (w_48 : World) =>
                        ∃ r39 : Int, ∃ r40 : Bytes, ∃ r41 : Bytes, ∃ r42 : Sl, ∃ r43 : Sl, ∃ r44 : Sl, ∃ r45 : Int, ∃ r46 : Int, ∃ r47 : Int, ∃ r48 : Bool, e_9 = Ending.returned (Value.tuple #[Value.agg #[Value.int .i64 r39, Value.string (bs r40), Value.string (bs r41), Value.slice r42.a r42.len r42.cap, Value.slice r43.a r43.len r43.cap, Value.slice r44.a r44.len r44.cap, Value.int .i64 r45, Value.int .i64 r46, Value.int .i64 r47], Value.bool r48]) ∧ w_48.heap[b4]? = w_47.heap[b4]? ∧ w_48.heap[b3]? = w_47.heap[b3]? ∧ w_48.heap[b1]? = w_47.heap[b1]? ∧ w_48.heap[b]? = w_47.heap[b]? ∧ 
                        br (!r48)
                          (∀ w_49 : World, LocB [b4, b3, b1, b] w_48 w_49 →
                          ∀ w_50 : World, LocB [b4, b3, b1, b] w_49 w_50 →
                          R (Ending.returned (Value.tuple #[Value.slice none 0 0, Value.agg #[Value.slice r1.a r1.len r1.cap, Value.string (bs r2), Value.int .i64 r3], Value.bool false])) w_50)
                          (∀ b8 : Nat, w_48.heap.size ≤ b8 →
                          ∀ w_51 : World, LocB [b8, b4, b3, b1, b] w_48 w_51 →
                          ∃ old4 : List Value, AppPre w_51 out 9 136 1 old4 ∧ (∀ ad, out.a = some ad → ad.block ≠ b8) ∧ (∀ ad, out.a = some ad → ad.block ≠ b4) ∧ (∀ ad, out.a = some ad → ad.block ≠ b3) ∧ (∀ ad, out.a = some ad → ad.block ≠ b1) ∧ (∀ ad, out.a = some ad → ad.block ≠ b) ∧ 
                          ∀ (s4 : Sl) (w_52 : World), AppRes w_51 out 9 T_api_Node [Value.int .i64 r39, Value.string (bs r40), Value.string (bs r41), Value.slice r42.a r42.len r42.cap, Value.slice r43.a r43.len r43.cap, Value.slice r44.a r44.len r44.cap, Value.int .i64 r45, Value.int .i64 r46, Value.int .i64 r47] 1 old4 s4 w_52 →
                          ∃ m6 : Nat, m6 < n ∧ J s4 m6 w_52))))))))
            (br (decide (r2 = [101, 108, 115, 101]))
              (br (decide (deep = 0))
                (∀ w_53 : World, LocB [b4, b3, b1, b] w_9 w_53 →
                Calls P F_ref20_Parser_fail #[Value.pointer (some p), Value.int .i64 r3, Value.int .i64 33] w_53 (fun (e_10 : Ending) (w_54 : World) =>
                  ∃ r49 : Bool, e_10 = Ending.returned (Value.bool r49) ∧ w_54.heap[b4]? = w_53.heap[b4]? ∧ w_54.heap[b3]? = w_53.heap[b3]? ∧ w_54.heap[b1]? = w_53.heap[b1]? ∧ w_54.heap[b]? = w_53.heap[b]? ∧ 
                  ∀ w_55 : World, LocB [b4, b3, b1, b] w_54 w_55 →
                  R (Ending.returned (Value.tuple #[Value.slice none 0 0, Value.agg #[Value.slice r1.a r1.len r1.cap, Value.string (bs r2), Value.int .i64 r3], Value.bool r49])) w_55))
                (br (decide (r2 = [101, 110, 100]))
                  (br (decide ((1 : Int) < ((r1.len : Nat) : Int)))
                    (∀ w_56 : World, LocB [b4, b3, b1, b] w_9 w_56 →
                    Calls P F_ref20_Parser_fail #[Value.pointer (some p), Value.int .i64 r3, Value.int .i64 33] w_56 (fun (e_11 : Ending) (w_57 : World) =>
                      ∃ r50 : Bool, e_11 = Ending.returned (Value.bool r50) ∧ w_57.heap[b4]? = w_56.heap[b4]? ∧ w_57.heap[b3]? = w_56.heap[b3]? ∧ w_57.heap[b1]? = w_56.heap[b1]? ∧ w_57.heap[b]? = w_56.heap[b]? ∧ 
                      ∀ w_58 : World, LocB [b4, b3, b1, b] w_57 w_58 →
                      R (Ending.returned (Value.tuple #[Value.slice none 0 0, Value.agg #[Value.slice r1.a r1.len r1.cap, Value.string (bs r2), Value.int .i64 r3], Value.bool r50])) w_58))
                    (∀ w_59 : World, LocB [b4, b3, b1, b] w_9 w_59 →
                    ∀ w_60 : World, LocB [b4, b3, b1, b] w_59 w_60 →
                    R (Ending.returned (Value.tuple #[Value.slice out.a out.len out.cap, Value.agg #[Value.slice r1.a r1.len r1.cap, Value.string (bs r2), Value.int .i64 r3], Value.bool true])) w_60))
                  (∀ w_61 : World, LocB [b4, b3, b1, b] w_9 w_61 →
                  ∀ w_62 : World, LocB [b4, b3, b1, b] w_61 w_62 →
                  R (Ending.returned (Value.tuple #[Value.slice out.a out.len out.cap, Value.agg #[Value.slice r1.a r1.len r1.cap, Value.string (bs r2), Value.int .i64 r3], Value.bool true])) w_62)))
              (br (decide (r2 = [100, 101, 102, 105, 110, 101]))
                (br (decide ((0 : Int) < deep))
                  (∀ w_63 : World, LocB [b4, b3, b1, b] w_9 w_63 →
                  Calls P F_ref20_Parser_fail #[Value.pointer (some p), Value.int .i64 r3, Value.int .i64 33] w_63 (fun (e_12 : Ending) (w_64 : World) =>
                    ∃ r51 : Bool, e_12 = Ending.returned (Value.bool r51) ∧ w_64.heap[b4]? = w_63.heap[b4]? ∧ w_64.heap[b3]? = w_63.heap[b3]? ∧ w_64.heap[b1]? = w_63.heap[b1]? ∧ w_64.heap[b]? = w_63.heap[b]? ∧ 
                    ∀ w_65 : World, LocB [b4, b3, b1, b] w_64 w_65 →
                    R (Ending.returned (Value.tuple #[Value.slice none 0 0, Value.agg #[Value.slice r1.a r1.len r1.cap, Value.string (bs r2), Value.int .i64 r3], Value.bool r51])) w_65))
                  (∀ w_66 : World, LocB [b4, b3, b1, b] w_9 w_66 →
                  Calls P F_ref20_Parser_define #[Value.pointer (some p), Value.agg #[Value.slice r1.a r1.len r1.cap, Value.string (bs r2), Value.int .i64 r3]] w_66 (fun (e_13 : Ending) (w_67 : World) =>
                    ∃ r52 : Bool, e_13 = Ending.returned (Value.bool r52) ∧ w_67.heap[b4]? = w_66.heap[b4]? ∧ w_67.heap[b3]? = w_66.heap[b3]? ∧ w_67.heap[b1]? = w_66.heap[b1]? ∧ w_67.heap[b]? = w_66.heap[b]? ∧ 
                    br (!r52)
                      (∀ w_68 : World, LocB [b4, b3, b1, b] w_67 w_68 →
                      ∀ w_69 : World, LocB [b4, b3, b1, b] w_68 w_69 →
                      R (Ending.returned (Value.tuple #[Value.slice none 0 0, Value.agg #[Value.slice r1.a r1.len r1.cap, Value.string (bs r2), Value.int .i64 r3], Value.bool false])) w_69)
                      (∃ m7 : Nat, m7 < n ∧ J out m7 w_67))))
                (br (decide (r2 = [105, 102]))
                  (∀ w_70 : World, LocB [b4, b3, b1, b] w_9 w_70 →
                  Calls P F_ref20_Parser_block #[Value.pointer (some p), Value.int .i64 3, Value.agg #[Value.slice r1.a r1.len r1.cap, Value.string (bs r2), Value.int .i64 r3], Value.int .i64 1, Value.int .i64 deep] w_70 (fun (e_14 : Ending) (w_71 : World) =>
                    ∃ r53 : Int, ∃ r54 : Bytes, ∃ r55 : Bytes, ∃ r56 : Sl, ∃ r57 : Sl, ∃ r58 : Sl, ∃ r59 : Int, ∃ r60 : Int, ∃ r61 : Int, ∃ r62 : Bool, e_14 = Ending.returned (Value.tuple #[Value.agg #[Value.int .i64 r53, Value.string (bs r54), Value.string (bs r55), Value.slice r56.a r56.len r56.cap, Value.slice r57.a r57.len r57.cap, Value.slice r58.a r58.len r58.cap, Value.int .i64 r59, Value.int .i64 r60, Value.int .i64 r61], Value.bool r62]) ∧ w_71.heap[b4]? = w_70.heap[b4]? ∧ w_71.heap[b3]? = w_70.heap[b3]? ∧ w_71.heap[b1]? = w_70.heap[b1]? ∧ w_71.heap[b]? = w_70.heap[b]? ∧ 
                    br (!r62)
                      (∀ w_72 : World, LocB [b4, b3, b1, b] w_71 w_72 →
                      ∀ w_73 : World, LocB [b4, b3, b1, b] w_72 w_73 →
                      R (Ending.returned (Value.tuple #[Value.slice none 0 0, Value.agg #[Value.slice r1.a r1.len r1.cap, Value.string (bs r2), Value.int .i64 r3], Value.bool false])) w_73)
                      (∀ b9 : Nat, w_71.heap.size ≤ b9 →
                      ∀ w_74 : World, LocB [b9, b4, b3, b1, b] w_71 w_74 →
                      ∃ old5 : List Value, AppPre w_74 out 9 136 1 old5 ∧ (∀ ad, out.a = some ad → ad.block ≠ b9) ∧ (∀ ad, out.a = some ad → ad.block ≠ b4) ∧ (∀ ad, out.a = some ad → ad.block ≠ b3) ∧ (∀ ad, out.a = some ad → ad.block ≠ b1) ∧ (∀ ad, out.a = some ad → ad.block ≠ b) ∧ 
                      ∀ (s5 : Sl) (w_75 : World), AppRes w_74 out 9 T_api_Node [Value.int .i64 r53, Value.string (bs r54), Value.string (bs r55), Value.slice r56.a r56.len r56.cap, Value.slice r57.a r57.len r57.cap, Value.slice r58.a r58.len r58.cap, Value.int .i64 r59, Value.int .i64 r60, Value.int .i64 r61] 1 old5 s5 w_75 →
                      ∃ m8 : Nat, m8 < n ∧ J s5 m8 w_75)))
                  (br (decide (r2 = [114, 97, 110, 103, 101]))
                    (∀ w_76 : World, LocB [b4, b3, b1, b] w_9 w_76 →
                    Calls P F_ref20_Parser_block #[Value.pointer (some p), Value.int .i64 4, Value.agg #[Value.slice r1.a r1.len r1.cap, Value.string (bs r2), Value.int .i64 r3], Value.int .i64 1, Value.int .i64 deep] w_76 (fun (e_15 : Ending) (w_77 : World) =>
                      ∃ r63 : Int, ∃ r64 : Bytes, ∃ r65 : Bytes, ∃ r66 : Sl, ∃ r67 : Sl, ∃ r68 : Sl, ∃ r69 : Int, ∃ r70 : Int, ∃ r71 : Int, ∃ r72 : Bool, e_15 = Ending.returned (Value.tuple #[Value.agg #[Value.int .i64 r63, Value.string (bs r64), Value.string (bs r65), Value.slice r66.a r66.len r66.cap, Value.slice r67.a r67.len r67.cap, Value.slice r68.a r68.len r68.cap, Value.int .i64 r69, Value.int .i64 r70, Value.int .i64 r71], Value.bool r72]) ∧ w_77.heap[b4]? = w_76.heap[b4]? ∧ w_77.heap[b3]? = w_76.heap[b3]? ∧ w_77.heap[b1]? = w_76.heap[b1]? ∧ w_77.heap[b]? = w_76.heap[b]? ∧ 
                      br (!r72)
                        (∀ w_78 : World, LocB [b4, b3, b1, b] w_77 w_78 →
                        ∀ w_79 : World, LocB [b4, b3, b1, b] w_78 w_79 →
                        R (Ending.returned (Value.tuple #[Value.slice none 0 0, Value.agg #[Value.slice r1.a r1.len r1.cap, Value.string (bs r2), Value.int .i64 r3], Value.bool false])) w_79)
                        (∀ b10 : Nat, w_77.heap.size ≤ b10 →
                        ∀ w_80 : World, LocB [b10, b4, b3, b1, b] w_77 w_80 →
                        ∃ old6 : List Value, AppPre w_80 out 9 136 1 old6 ∧ (∀ ad, out.a = some ad → ad.block ≠ b10) ∧ (∀ ad, out.a = some ad → ad.block ≠ b4) ∧ (∀ ad, out.a = some ad → ad.block ≠ b3) ∧ (∀ ad, out.a = some ad → ad.block ≠ b1) ∧ (∀ ad, out.a = some ad → ad.block ≠ b) ∧ 
                        ∀ (s6 : Sl) (w_81 : World), AppRes w_80 out 9 T_api_Node [Value.int .i64 r63, Value.string (bs r64), Value.string (bs r65), Value.slice r66.a r66.len r66.cap, Value.slice r67.a r67.len r67.cap, Value.slice r68.a r68.len r68.cap, Value.int .i64 r69, Value.int .i64 r70, Value.int .i64 r71] 1 old6 s6 w_81 →
                        ∃ m9 : Nat, m9 < n ∧ J s6 m9 w_81)))
                    (br (decide (r2 = [119, 105, 116, 104]))
                      (∀ w_82 : World, LocB [b4, b3, b1, b] w_9 w_82 →
                      Calls P F_ref20_Parser_block #[Value.pointer (some p), Value.int .i64 5, Value.agg #[Value.slice r1.a r1.len r1.cap, Value.string (bs r2), Value.int .i64 r3], Value.int .i64 1, Value.int .i64 deep] w_82 (fun (e_16 : Ending) (w_83 : World) =>
                        ∃ r73 : Int, ∃ r74 : Bytes, ∃ r75 : Bytes, ∃ r76 : Sl, ∃ r77 : Sl, ∃ r78 : Sl, ∃ r79 : Int, ∃ r80 : Int, ∃ r81 : Int, ∃ r82 : Bool, e_16 = Ending.returned (Value.tuple #[Value.agg #[Value.int .i64 r73, Value.string (bs r74), Value.string (bs r75), Value.slice r76.a r76.len r76.cap, Value.slice r77.a r77.len r77.cap, Value.slice r78.a r78.len r78.cap, Value.int .i64 r79, Value.int .i64 r80, Value.int .i64 r81], Value.bool r82]) ∧ w_83.heap[b4]? = w_82.heap[b4]? ∧ w_83.heap[b3]? = w_82.heap[b3]? ∧ w_83.heap[b1]? = w_82.heap[b1]? ∧ w_83.heap[b]? = w_82.heap[b]? ∧ 
                        br (!r82)
                          (∀ w_84 : World, LocB [b4, b3, b1, b] w_83 w_84 →
                          ∀ w_85 : World, LocB [b4, b3, b1, b] w_84 w_85 →
                          R (Ending.returned (Value.tuple #[Value.slice none 0 0, Value.agg #[Value.slice r1.a r1.len r1.cap, Value.string (bs r2), Value.int .i64 r3], Value.bool false])) w_85)
                          (∀ b11 : Nat, w_83.heap.size ≤ b11 →
                          ∀ w_86 : World, LocB [b11, b4, b3, b1, b] w_83 w_86 →
                          ∃ old7 : List Value, AppPre w_86 out 9 136 1 old7 ∧ (∀ ad, out.a = some ad → ad.block ≠ b11) ∧ (∀ ad, out.a = some ad → ad.block ≠ b4) ∧ (∀ ad, out.a = some ad → ad.block ≠ b3) ∧ (∀ ad, out.a = some ad → ad.block ≠ b1) ∧ (∀ ad, out.a = some ad → ad.block ≠ b) ∧ 
                          ∀ (s7 : Sl) (w_87 : World), AppRes w_86 out 9 T_api_Node [Value.int .i64 r73, Value.string (bs r74), Value.string (bs r75), Value.slice r76.a r76.len r76.cap, Value.slice r77.a r77.len r77.cap, Value.slice r78.a r78.len r78.cap, Value.int .i64 r79, Value.int .i64 r80, Value.int .i64 r81] 1 old7 s7 w_87 →
                          ∃ m10 : Nat, m10 < n ∧ J s7 m10 w_87)))
                      (∀ w_88 : World, LocB [b4, b3, b1, b] w_9 w_88 →
                      Calls P F_ref20_Parser_single #[Value.pointer (some p), Value.agg #[Value.slice r1.a r1.len r1.cap, Value.string (bs r2), Value.int .i64 r3]] w_88 (fun (e_17 : Ending) (w_89 : World) =>
                        ∃ r83 : Int, ∃ r84 : Bytes, ∃ r85 : Bytes, ∃ r86 : Sl, ∃ r87 : Sl, ∃ r88 : Sl, ∃ r89 : Int, ∃ r90 : Int, ∃ r91 : Int, ∃ r92 : Bool, e_17 = Ending.returned (Value.tuple #[Value.agg #[Value.int .i64 r83, Value.string (bs r84), Value.string (bs r85), Value.slice r86.a r86.len r86.cap, Value.slice r87.a r87.len r87.cap, Value.slice r88.a r88.len r88.cap, Value.int .i64 r89, Value.int .i64 r90, Value.int .i64 r91], Value.bool r92]) ∧ w_89.heap[b4]? = w_88.heap[b4]? ∧ w_89.heap[b3]? = w_88.heap[b3]? ∧ w_89.heap[b1]? = w_88.heap[b1]? ∧ w_89.heap[b]? = w_88.heap[b]? ∧ 
                        br (!r92)
                          (∀ w_90 : World, LocB [b4, b3, b1, b] w_89 w_90 →
                          ∀ w_91 : World, LocB [b4, b3, b1, b] w_90 w_91 →
                          R (Ending.returned (Value.tuple #[Value.slice none 0 0, Value.agg #[Value.slice r1.a r1.len r1.cap, Value.string (bs r2), Value.int .i64 r3], Value.bool false])) w_91)
                          (∀ b12 : Nat, w_89.heap.size ≤ b12 →
                          ∀ w_92 : World, LocB [b12, b4, b3, b1, b] w_89 w_92 →
                          ∃ old8 : List Value, AppPre w_92 out 9 136 1 old8 ∧ (∀ ad, out.a = some ad → ad.block ≠ b12) ∧ (∀ ad, out.a = some ad → ad.block ≠ b4) ∧ (∀ ad, out.a = some ad → ad.block ≠ b3) ∧ (∀ ad, out.a = some ad → ad.block ≠ b1) ∧ (∀ ad, out.a = some ad → ad.block ≠ b) ∧ 
                          ∀ (s8 : Sl) (w_93 : World), AppRes w_92 out 9 T_api_Node [Value.int .i64 r83, Value.string (bs r84), Value.string (bs r85), Value.slice r86.a r86.len r86.cap, Value.slice r87.a r87.len r87.cap, Value.slice r88.a r88.len r88.cap, Value.int .i64 r89, Value.int .i64 r90, Value.int .i64 r91] 1 old8 s8 w_93 →
                          ∃ m11 : Nat, m11 < n ∧ J s8 m11 w_93))))))))))))
    (br (decide ((0 : Int) < deep))
      (∃ x5 : Int, CellsAt w_1 (p.add 2) [Value.int .i64 x5] ∧
      Calls P F_ref20_Parser_fail #[Value.pointer (some p), Value.int .i64 x5, Value.int .i64 8] w_1 (fun (e_18 : Ending) (w_94 : World) =>
        ∃ r93 : Bool, e_18 = Ending.returned (Value.bool r93) ∧ w_94.heap[b]? = w_1.heap[b]? ∧ 
        ∀ w_95 : World, LocB [b] w_94 w_95 →
        R (Ending.returned (Value.tuple #[Value.slice none 0 0, Value.agg #[Value.slice none 0 0, Value.string (bs ([] : Bytes)), Value.int .i64 0], Value.bool r93])) w_95))
      (∀ w_96 : World, LocB [b] w_1 w_96 →
      R (Ending.returned (Value.tuple #[Value.slice out.a out.len out.cap, Value.agg #[Value.slice none 0 0, Value.string (bs ([] : Bytes)), Value.int .i64 0], Value.bool true])) w_96))
theorem eq_ref20_Parser_nodes (p : Addr) (deep : Int) (w : World) (R : Ending → World → Prop) : vc_ref20_Parser_nodes p deep w R = vc (bodyOf D_ref20_Parser_nodes) (cx0 P D_ref20_Parser_nodes an_ref20_Parser_nodes) 0 (st0 [Value.pointer (some p), Value.int .i64 deep] w) (vEnd (cx0 P D_ref20_Parser_nodes an_ref20_Parser_nodes) D_ref20_Parser_nodes R) := by kernel_rfl
theorem ok_ref20_Parser_nodes (p : Addr) (deep : Int) {w : World} {R : Ending → World → Prop} (h : vc_ref20_Parser_nodes p deep w R) : Calls P F_ref20_Parser_nodes #[Value.pointer (some p), Value.int .i64 deep] w R :=
  calls_of_vc (P := P) (f := F_ref20_Parser_nodes) (fn := D_ref20_Parser_nodes) (c := bodyOf D_ref20_Parser_nodes) (args := [Value.pointer (some p), Value.int .i64 deep]) (R := R) (w := w) an_ref20_Parser_nodes Try.func9 (bodyOf_some (by kernel_rfl)) (by kernel_rfl) (by rw [← eq_ref20_Parser_nodes p deep w R]; exact h)
def an_check_need : Ann := { boxes := [], loops := [], cuts := [], pans := [11, 13, 14, 15, 31], draws := [] }
def vc_check_need (ok : Bool) (at_ : Int) (e_ : Int) (w : World) (R : Ending → World → Prop) : Prop :=
  br (!ok)
    (R (Ending.panicked ([{ v := Value.iface T_check_fault (Value.agg #[Value.int .i64 at_, Value.int .i64 e_]), recovered := false }])) w)
    (R (Ending.returned (Value.tuple #[])) w)
theorem eq_check_need (ok : Bool) (at_ : Int) (e_ : Int) (w : World) (R : Ending → World → Prop) : vc_check_need ok at_ e_ w R = vc (bodyOf D_check_need) (cx0 P D_check_need an_check_need) 0 (st0 [Value.bool ok, Value.int .i64 at_, Value.int .i64 e_] w) (vEnd (cx0 P D_check_need an_check_need) D_check_need R) := by kernel_rfl
theorem ok_check_need (ok : Bool) (at_ : Int) (e_ : Int) {w : World} {R : Ending → World → Prop} (h : vc_check_need ok at_ e_ w R) : Calls P F_check_need #[Value.bool ok, Value.int .i64 at_, Value.int .i64 e_] w R :=
  calls_of_vc (P := P) (f := F_check_need) (fn := D_check_need) (c := bodyOf D_check_need) (args := [Value.bool ok, Value.int .i64 at_, Value.int .i64 e_]) (R := R) (w := w) an_check_need Try.func11 (bodyOf_some (by kernel_rfl)) (by kernel_rfl) (by rw [← eq_check_need ok at_ e_ w R]; exact h)
def an_parse_Depth : Ann := { boxes := [(5, 100)], loops := [(0, [(3, Value.int .i64 0), (8, Value.int .i64 0)], [5, 9, 10, 11, 12, 13, 14, 15, 16, 17, 18, 19, 20, 21, 22, 100, 101, 102, 103, 104, 105, 106, 107, 108])], cuts := [], pans := [11, 13, 14, 15, 31], draws := [(5, [0, 1, 2, 4, 5, 3, 6, 7, 8, 9, 10], [.t, .t, .bl 100, .e, .t, .bl 100, .e, .t, .t, .t, .t])] }
def vc_parse_Depth (l : Sl) (w : World) (R : Ending → World → Prop) : Prop :=
  ∃ (J : Int → Int → Nat → World → Prop) (n₀ : Nat), J (0 : Int) (0 : Int) n₀ w ∧
  ∀ n1 : Int, ∀ t8 : Int, ∀ (n : Nat) (w_ : World), J n1 t8 n w_ →
  br (decide (t8 < ((l.len : Nat) : Int)))
    ((0 : Int) ≤ t8 ∧ t8 < ((l.len : Nat) : Int) ∧ ∃ a : Addr, l.a = some a ∧
    ∃ Kind : Int, ∃ Text : Bytes, ∃ Name : Bytes, ∃ Pipe : Sl, ∃ Body : Sl, ∃ Else : Sl, ∃ At : Int, ∃ Esc : Int, ∃ Unit : Int, CellsAt w_ (a.add (t8.toNat * 9)) [Value.int .i64 Kind, Value.string (bs Text), Value.string (bs Name), Value.slice Pipe.a Pipe.len Pipe.cap, Value.slice Body.a Body.len Body.cap, Value.slice Else.a Else.len Else.cap, Value.int .i64 At, Value.int .i64 Esc, Value.int .i64 Unit] ∧
    ∀ b : Nat, w_.heap.size ≤ b →
    ∀ w_1 : World, LocB [b] w_ w_1 →
    Calls P F_parse_Depth #[Value.slice Body.a Body.len Body.cap] w_1 (fun (e_ : Ending) (w_2 : World) =>
      ∃ r : Int, e_ = Ending.returned (Value.int .i64 r) ∧ w_2.heap[b]? = w_1.heap[b]? ∧ 
      Calls P F_parse_Depth #[Value.slice Else.a Else.len Else.cap] w_2 (fun (e_1 : Ending) (w_3 : World) =>
        ∃ r1 : Int, e_1 = Ending.returned (Value.int .i64 r1) ∧ w_3.heap[b]? = w_2.heap[b]? ∧ 
        InI64 ((1 : Int) + (imax r r1)) ∧
        InI64 (t8 + 1) ∧
        ∃ m : Nat, m < n ∧ J (imax n1 ((1 : Int) + (imax r r1))) (t8 + 1) m w_3)))
    (R (Ending.returned (Value.int .i64 n1)) w_)
theorem eq_parse_Depth (l : Sl) (w : World) (R : Ending → World → Prop) : vc_parse_Depth l w R = vc (bodyOf D_parse_Depth) (cx0 P D_parse_Depth an_parse_Depth) 0 (st0 [Value.slice l.a l.len l.cap] w) (vEnd (cx0 P D_parse_Depth an_parse_Depth) D_parse_Depth R) := by kernel_rfl
theorem ok_parse_Depth (l : Sl) {w : World} {R : Ending → World → Prop} (h : vc_parse_Depth l w R) : Calls P F_parse_Depth #[Value.slice l.a l.len l.cap] w R :=
  calls_of_vc (P := P) (f := F_parse_Depth) (fn := D_parse_Depth) (c := bodyOf D_parse_Depth) (args := [Value.slice l.a l.len l.cap]) (R := R) (w := w) an_parse_Depth Try.func12 (bodyOf_some (by kernel_rfl)) (by kernel_rfl) (by rw [← eq_parse_Depth l w R]; exact h)
def an_check_each : Ann := { boxes := [(6, 100)], loops := [(0, [(9, Value.int .i64 0)], [4, 6, 10, 11, 12, 13, 14, 15, 16, 17, 18, 19, 20, 21, 22, 23, 24, 25, 26, 27, 28, 29, 30, 31, 100, 101, 102, 103, 104, 105, 106, 107, 108])], cuts := [], pans := [11, 13, 14, 15, 31], draws := [] }
def vc_check_each (l : Sl) (g : FuncId) (fi ca : Array Value) (w : World) (R : Ending → World → Prop) : Prop :=
  ∃ (J : Int → Nat → World → Prop) (n₀ : Nat), J (0 : Int) n₀ w ∧
  ∀ t9 : Int, ∀ (n : Nat) (w_ : World), J t9 n w_ →
  br (decide (t9 < ((l.len : Nat) : Int)))
    ((0 : Int) ≤ t9 ∧ t9 < ((l.len : Nat) : Int) ∧ ∃ a : Addr, l.a = some a ∧
    ∃ Kind : Int, ∃ Text : Bytes, ∃ Name : Bytes, ∃ Pipe : Sl, ∃ Body : Sl, ∃ Else : Sl, ∃ At : Int, ∃ Esc : Int, ∃ Unit : Int, CellsAt w_ (a.add (t9.toNat * 9)) [Value.int .i64 Kind, Value.string (bs Text), Value.string (bs Name), Value.slice Pipe.a Pipe.len Pipe.cap, Value.slice Body.a Body.len Body.cap, Value.slice Else.a Else.len Else.cap, Value.int .i64 At, Value.int .i64 Esc, Value.int .i64 Unit] ∧
    ∀ b : Nat, w_.heap.size ≤ b →
    ∀ w_1 : World, LocB [b] w_ w_1 →
    enterable P g = true ∧
    Calls P g (fi.toList ++ [Value.agg #[Value.int .i64 Kind, Value.string (bs Text), Value.string (bs Name), Value.slice Pipe.a Pipe.len Pipe.cap, Value.slice Body.a Body.len Body.cap, Value.slice Else.a Else.len Else.cap, Value.int .i64 At, Value.int .i64 Esc, Value.int .i64 Unit]] ++ ca.toList).toArray w_1 (fun (e_ : Ending) (w_2 : World) =>
      ∃ r : Bool, e_ = Ending.returned (Value.bool r) ∧ w_2.heap[b]? = w_1.heap[b]? ∧ 
      br (!r)
        (R (Ending.returned (Value.bool false)) w_2)
        (Calls P F_check_each #[Value.slice Body.a Body.len Body.cap, Value.func (.func g) fi ca] w_2 (fun (e_1 : Ending) (w_3 : World) =>
          (∃ r1 : Bool, e_1 = Ending.returned (Value.bool r1) ∧ w_3.heap[b]? = w_2.heap[b]? ∧ 
          br (!r1)
            (R (Ending.returned (Value.bool false)) w_3)
            (Calls P F_check_each #[Value.slice Else.a Else.len Else.cap, Value.func (.func g) fi ca] w_3 (fun (e_2 : Ending) (w_4 : World) =>
              (∃ r2 : Bool, e_2 = Ending.returned (Value.bool r2) ∧ w_4.heap[b]? = w_3.heap[b]? ∧ 
              br (!r2)
                (R (Ending.returned (Value.bool false)) w_4)
                (InI64 (t9 + 1) ∧
                ∃ m : Nat, m < n ∧ J (t9 + 1) m w_4)) ∨
              ∃ ch : List PanicEntry, e_2 = Ending.panicked ch ∧ R (Ending.panicked ch) w_4))) ∨
          ∃ ch1 : List PanicEntry, e_1 = Ending.panicked ch1 ∧ R (Ending.panicked ch1) w_3))))
    (R (Ending.returned (Value.bool true)) w_)
theorem eq_check_each (l : Sl) (g : FuncId) (fi ca : Array Value) (w : World) (R : Ending → World → Prop) : vc_check_each l  g   fi ca  w R = vc (bodyOf D_check_each) (cx0 P D_check_each an_check_each) 0 (st0 [Value.slice l.a l.len l.cap, Value.func (.func g) fi ca] w) (vEnd (cx0 P D_check_each an_check_each) D_check_each R) := by kernel_rfl
theorem ok_check_each (l : Sl) (g : FuncId) (fi ca : Array Value) {w : World} {R : Ending → World → Prop} (h : vc_check_each l  g   fi ca  w R) : Calls P F_check_each #[Value.slice l.a l.len l.cap, Value.func (.func g) fi ca] w R :=
  calls_of_vc (P := P) (f := F_check_each) (fn := D_check_each) (c := bodyOf D_check_each) (args := [Value.slice l.a l.len l.cap, Value.func (.func g) fi ca]) (R := R) (w := w) an_check_each Try.func13 (bodyOf_some (by kernel_rfl)) (by kernel_rfl) (by rw [← eq_check_each l  g   fi ca  w R]; exact h)
def an_check_may : Ann := { boxes := [(1, 100)], loops := [], cuts := [(3, [], [2, 6, 7, 8, 9, 10, 11, 12, 13, 14, 15, 16, 17, 18, 19, 20, 21, 22, 23]), (4, [(3, Value.bool false)], [24, 25, 26, 27, 28, 29, 30, 31]), (5, [(4, Value.bool false)], [32, 33, 34, 35, 36, 37, 38, 39]), (6, [(5, Value.bool false)], [40, 41, 42, 43, 44, 45, 46, 47, 48, 49, 50, 51, 52, 53]), (8, [], [2, 54, 55, 56, 57, 58, 59, 60, 61, 62, 63, 64, 65, 66, 67, 68])], pans := [11, 13, 14, 15, 31], draws := [] }
def vc_check_may (nKind : Int) (nText : Bytes) (nName : Bytes) (nPipe : Sl) (nBody : Sl) (nElse : Sl) (nAt : Int) (nEsc : Int) (nUnit : Int) (w : World) (R : Ending → World → Prop) : Prop :=
  ∀ b : Nat, w.heap.size ≤ b →
  ∃ J : World → Prop,
    (br (decide (nKind < 1))
      (∀ w_ : World, LocB [b] w w_ →
      R (Ending.returned (Value.bool false)) w_)
      (br (decide ((7 : Int) < nKind))
        (∀ w_1 : World, LocB [b] w w_1 →
        R (Ending.returned (Value.bool false)) w_1)
        (br (!decide (nEsc = 0))
          (∀ w_2 : World, LocB [b] w w_2 →
          R (Ending.returned (Value.bool false)) w_2)
          (br (!decide (nUnit = 0))
            (∀ w_3 : World, LocB [b] w w_3 →
            R (Ending.returned (Value.bool false)) w_3)
            (∀ w_4 : World, LocB [b] w w_4 →
            J w_4))))) ∧
  ∀ w_5 : World, J w_5 →
  ∃ J1 : Bool → World → Prop,
    (br (decide ((3 : Int) ≤ nKind))
      (J1 (decide (nKind ≤ 5)) w_5)
      (J1 false w_5)) ∧
  ∀ block : Bool, ∀ w_6 : World, J1 block w_6 →
  ∃ J2 : Bool → World → Prop,
    (br (decide (nKind = 6))
      (J2 true w_6)
      (J2 (decide (nKind = 7)) w_6)) ∧
  ∀ named : Bool, ∀ w_7 : World, J2 named w_7 →
  ∃ J3 : Bool → World → Prop,
    (br (!decide (nKind = 1))
      (br (!decide (nKind = 6))
        (J3 true w_7)
        (J3 (decide ((0 : Int) < ((nPipe.len : Nat) : Int))) w_7))
      (J3 false w_7)) ∧
  ∀ piped : Bool, ∀ w_8 : World, J3 piped w_8 →
  ∃ J4 : World → Prop,
    (br (!(piped == (decide ((0 : Int) < ((nPipe.len : Nat) : Int)))))
      (R (Ending.returned (Value.bool false)) w_8)
      (br piped
        (Calls P F_pipes_Check #[Value.slice nPipe.a nPipe.len nPipe.cap] w_8 (fun (e_ : Ending) (w_9 : World) =>
          ∃ r : Int, e_ = Ending.returned (Value.int .i64 r) ∧ w_9.heap[b]? = w_8.heap[b]? ∧ 
          br (!decide (r = 0))
            (R (Ending.returned (Value.bool false)) w_9)
            (J4 w_9)))
        (J4 w_8))) ∧
  ∀ w_10 : World, J4 w_10 →
  br (decide (nKind = 1))
    (br (named == (!decide (nName = ([] : Bytes))))
      (br block
        (R (Ending.returned (Value.bool true)) w_10)
        (InI64 (((nBody.len : Nat) : Int) + ((nElse.len : Nat) : Int)) ∧
        R (Ending.returned (Value.bool (decide (((nBody.len : Nat) : Int) + ((nElse.len : Nat) : Int) = 0)))) w_10))
      (R (Ending.returned (Value.bool false)) w_10))
    (br (decide (nText = ([] : Bytes)))
      (br (named == (!decide (nName = ([] : Bytes))))
        (br block
          (R (Ending.returned (Value.bool true)) w_10)
          (InI64 (((nBody.len : Nat) : Int) + ((nElse.len : Nat) : Int)) ∧
          R (Ending.returned (Value.bool (decide (((nBody.len : Nat) : Int) + ((nElse.len : Nat) : Int) = 0)))) w_10))
        (R (Ending.returned (Value.bool false)) w_10))
      (R (Ending.returned (Value.bool false)) w_10))
theorem eq_check_may (nKind : Int) (nText : Bytes) (nName : Bytes) (nPipe : Sl) (nBody : Sl) (nElse : Sl) (nAt : Int) (nEsc : Int) (nUnit : Int) (w : World) (R : Ending → World → Prop) : vc_check_may nKind nText nName nPipe nBody nElse nAt nEsc nUnit w R = vc (bodyOf D_check_may) (cx0 P D_check_may an_check_may) 0 (st0 [Value.agg #[Value.int .i64 nKind, Value.string (bs nText), Value.string (bs nName), Value.slice nPipe.a nPipe.len nPipe.cap, Value.slice nBody.a nBody.len nBody.cap, Value.slice nElse.a nElse.len nElse.cap, Value.int .i64 nAt, Value.int .i64 nEsc, Value.int .i64 nUnit]] w) (vEnd (cx0 P D_check_may an_check_may) D_check_may R) := by kernel_rfl
theorem ok_check_may (nKind : Int) (nText : Bytes) (nName : Bytes) (nPipe : Sl) (nBody : Sl) (nElse : Sl) (nAt : Int) (nEsc : Int) (nUnit : Int) {w : World} {R : Ending → World → Prop} (h : vc_check_may nKind nText nName nPipe nBody nElse nAt nEsc nUnit w R) : Calls P F_check_may #[Value.agg #[Value.int .i64 nKind, Value.string (bs nText), Value.string (bs nName), Value.slice nPipe.a nPipe.len nPipe.cap, Value.slice nBody.a nBody.len nBody.cap, Value.slice nElse.a nElse.len nElse.cap, Value.int .i64 nAt, Value.int .i64 nEsc, Value.int .i64 nUnit]] w R :=
  calls_of_vc (P := P) (f := F_check_may) (fn := D_check_may) (c := bodyOf D_check_may) (args := [Value.agg #[Value.int .i64 nKind, Value.string (bs nText), Value.string (bs nName), Value.slice nPipe.a nPipe.len nPipe.cap, Value.slice nBody.a nBody.len nBody.cap, Value.slice nElse.a nElse.len nElse.cap, Value.int .i64 nAt, Value.int .i64 nEsc, Value.int .i64 nUnit]]) (R := R) (w := w) an_check_may Try.func14 (bodyOf_some (by kernel_rfl)) (by kernel_rfl) (by rw [← eq_check_may nKind nText nName nPipe nBody nElse nAt nEsc nUnit w R]; exact h)
def an_check_looker_nodes : Ann := { boxes := [(37, 100)], loops := [(0, [(2, Value.slice none 0 0), (12, Value.int .i64 0)], [7, 13, 14, 15, 16, 17, 18, 19, 20, 21, 22, 23, 24, 25, 26, 27, 28, 29, 30, 31, 32, 33, 34, 35, 36, 37, 38, 39, 40, 41, 42, 43, 44, 45, 46, 47, 48, 49, 100])], cuts := [], pans := [11, 13, 14, 15, 31], draws := [(7, [0, 1, 2, 3, 4, 6, 7, 5, 8], [.t, .t, .t, .h, .t, .g, .t, .h, .e])] }
def vc_check_looker_nodes (k : Addr) (l : Sl) (vars : Sl) (w : World) (R : Ending → World → Prop) : Prop :=
  Calls P F_slices_Clip_string #[Value.slice vars.a vars.len vars.cap] w (fun (e_ : Ending) (w_ : World) =>
    ∃ r : Sl, e_ = Ending.returned (Value.slice r.a r.len r.cap) ∧ 
    ∃ (J : Sl → Int → Nat → World → Prop) (n₀ : Nat), J r (0 : Int) n₀ w_ ∧
    ∀ vars1 : Sl, ∀ t12 : Int, ∀ (n : Nat) (w_1 : World), J vars1 t12 n w_1 →
    br (decide (t12 < ((l.len : Nat) : Int)))
      ((0 : Int) ≤ t12 ∧ t12 < ((l.len : Nat) : Int) ∧ ∃ a : Addr, l.a = some a ∧
      ∃ Kind : Int, ∃ Text : Bytes, ∃ Name : Bytes, ∃ Pipe : Sl, ∃ Body : Sl, ∃ Else : Sl, ∃ At : Int, ∃ Esc : Int, ∃ Unit : Int, CellsAt w_1 (a.add (t12.toNat * 9)) [Value.int .i64 Kind, Value.string (bs Text), Value.string (bs Name), Value.slice Pipe.a Pipe.len Pipe.cap, Value.slice Body.a Body.len Body.cap, Value.slice Else.a Else.len Else.cap, Value.int .i64 At, Value.int .i64 Esc, Value.int .i64 Unit] ∧
      StoreOk (w_1.alloc (.cells #[Value.int .i64 0, Value.string (bs ([] : Bytes)), Value.string (bs ([] : Bytes)), Value.slice none 0 0, Value.slice none 0 0, Value.slice none 0 0, Value.int .i64 0, Value.int .i64 0, Value.int .i64 0] T_api_Node)) (Addr.mk w_1.heap.size 0 none) 9 ∧ 
      ∃ Kind1 : Int, ∃ Text1 : Bytes, ∃ Name1 : Bytes, ∃ Pipe1 : Sl, ∃ Body1 : Sl, ∃ Else1 : Sl, ∃ At1 : Int, ∃ Esc1 : Int, ∃ Unit1 : Int, CellsAt (setCells (w_1.alloc (.cells #[Value.int .i64 0, Value.string (bs ([] : Bytes)), Value.string (bs ([] : Bytes)), Value.slice none 0 0, Value.slice none 0 0, Value.slice none 0 0, Value.int .i64 0, Value.int .i64 0, Value.int .i64 0] T_api_Node)) (Addr.mk w_1.heap.size 0 none) [Value.int .i64 Kind, Value.string (bs Text), Value.string (bs Name), Value.slice Pipe.a Pipe.len Pipe.cap, Value.slice Body.a Body.len Body.cap, Value.slice Else.a Else.len Else.cap, Value.int .i64 At, Value.int .i64 Esc, Value.int .i64 Unit]) (Addr.mk w_1.heap.size 0 none) [Value.int .i64 Kind1, Value.string (bs Text1), Value.string (bs Name1), Value.slice Pipe1.a Pipe1.len Pipe1.cap, Value.slice Body1.a Body1.len Body1.cap, Value.slice Else1.a Else1.len Else1.cap, Value.int .i64 At1, Value.int .i64 Esc1, Value.int .i64 Unit1] ∧
      Calls P F_check_pipe #[Value.agg #[Value.int .i64 Kind1, Value.string (bs Text1), Value.string (bs Name1), Value.slice Pipe1.a Pipe1.len Pipe1.cap, Value.slice Body1.a Body1.len Body1.cap, Value.slice Else1.a Else1.len Else1.cap, Value.int .i64 At1, Value.int .i64 Esc1, Value.int .i64 Unit1], Value.slice vars1.a vars1.len vars1.cap] (setCells (w_1.alloc (.cells #[Value.int .i64 0, Value.string (bs ([] : Bytes)), Value.string (bs ([] : Bytes)), Value.slice none 0 0, Value.slice none 0 0, Value.slice none 0 0, Value.int .i64 0, Value.int .i64 0, Value.int .i64 0] T_api_Node)) (Addr.mk w_1.heap.size 0 none) [Value.int .i64 Kind, Value.string (bs Text), Value.string (bs Name), Value.slice Pipe.a Pipe.len Pipe.cap, Value.slice Body.a Body.len Body.cap, Value.slice Else.a Else.len Else.cap, Value.int .i64 At, Value.int .i64 Esc, Value.int .i64 Unit]) (fun (e_1 : Ending) (w_2 : World) =>
        (e_1 = Ending.returned (Value.tuple #[]) ∧ 
        ∃ x : Int, CellsAt w_2 (Addr.mk w_1.heap.size 0 none) [Value.int .i64 x] ∧
        br (decide (x = 6))
          (∀ w_3 : World, LocB [] w_2 w_3 →
          k.block < w_3.heap.size ∧ ∃ x1 : Sl, CellsAt w_3 k [Value.slice x1.a x1.len x1.cap] ∧
          (Addr.mk w_1.heap.size 6 none).block < w_3.heap.size ∧ ∃ x2 : Int, CellsAt w_3 (Addr.mk w_1.heap.size 6 none) [Value.int .i64 x2] ∧
          Calls P F_slices_ContainsFunc_api_Def #[Value.slice x1.a x1.len x1.cap, Value.func (.func F_check_looker_nodes_1) #[] #[Value.pointer (some (Addr.mk w_1.heap.size 0 none))]] w_3 (fun (e_2 : Ending) (w_4 : World) =>
            ∃ r1 : Bool, e_2 = Ending.returned (Value.bool r1) ∧ 
            (∀ k1, k1 < w_3.heap.size → w_4.heap[k1]? = w_3.heap[k1]?) ∧ Calls P F_check_need #[Value.bool r1, Value.int .i64 x2, Value.int .i64 71] w_4 (fun (e_3 : Ending) (w_5 : World) =>
              (e_3 = Ending.returned (Value.tuple #[]) ∧ 
              ∃ x3 : Sl, CellsAt w_5 (Addr.mk w_1.heap.size 4 none) [Value.slice x3.a x3.len x3.cap] ∧
              Calls P F_check_looker_nodes #[Value.pointer (some k), Value.slice x3.a x3.len x3.cap, Value.slice vars1.a vars1.len vars1.cap] w_5 (fun (e_4 : Ending) (w_6 : World) =>
                (e_4 = Ending.returned (Value.tuple #[]) ∧ 
                ∃ x4 : Sl, CellsAt w_6 (Addr.mk w_1.heap.size 5 none) [Value.slice x4.a x4.len x4.cap] ∧
                Calls P F_check_looker_nodes #[Value.pointer (some k), Value.slice x4.a x4.len x4.cap, Value.slice vars1.a vars1.len vars1.cap] w_6 (fun (e_5 : Ending) (w_7 : World) =>
                  (e_5 = Ending.returned (Value.tuple #[]) ∧ 
                  InI64 (t12 + 1) ∧
                  ∃ m : Nat, m < n ∧ J vars1 (t12 + 1) m w_7) ∨
                  ∃ ch : List PanicEntry, e_5 = Ending.panicked ch ∧ R (Ending.panicked ch) w_7)) ∨
                ∃ ch1 : List PanicEntry, e_4 = Ending.panicked ch1 ∧ R (Ending.panicked ch1) w_6)) ∨
              ∃ ch2 : List PanicEntry, e_3 = Ending.panicked ch2 ∧ R (Ending.panicked ch2) w_5)))
          (br (decide (x = 7))
            (∃ x5 : Bytes, CellsAt w_2 (Addr.mk w_1.heap.size 2 none) [Value.string (bs x5)] ∧
            ∀ b : Nat, w_2.heap.size ≤ b →
            ∀ w_8 : World, LocB [b] w_2 w_8 →
            ∃ old : List Value, AppPre w_8 vars1 1 16 1 old ∧ (∀ ad, vars1.a = some ad → ad.block ≠ b) ∧ 
            ∀ (s : Sl) (w_9 : World), AppRes w_8 vars1 1 T_string [Value.string (bs x5)] 1 old s w_9 →
            ∃ x6 : Sl, CellsAt w_9 (Addr.mk w_1.heap.size 4 none) [Value.slice x6.a x6.len x6.cap] ∧
            Calls P F_check_looker_nodes #[Value.pointer (some k), Value.slice x6.a x6.len x6.cap, Value.slice s.a s.len s.cap] w_9 (fun (e_6 : Ending) (w_10 : World) =>
              (e_6 = Ending.returned (Value.tuple #[]) ∧ w_10.heap[b]? = w_9.heap[b]? ∧ 
              ∃ x7 : Sl, CellsAt w_10 (Addr.mk w_1.heap.size 5 none) [Value.slice x7.a x7.len x7.cap] ∧
              Calls P F_check_looker_nodes #[Value.pointer (some k), Value.slice x7.a x7.len x7.cap, Value.slice s.a s.len s.cap] w_10 (fun (e_7 : Ending) (w_11 : World) =>
                (e_7 = Ending.returned (Value.tuple #[]) ∧ w_11.heap[b]? = w_10.heap[b]? ∧ 
                InI64 (t12 + 1) ∧
                ∃ m1 : Nat, m1 < n ∧ J s (t12 + 1) m1 w_11) ∨
                ∃ ch3 : List PanicEntry, e_7 = Ending.panicked ch3 ∧ R (Ending.panicked ch3) w_11)) ∨
              ∃ ch4 : List PanicEntry, e_6 = Ending.panicked ch4 ∧ R (Ending.panicked ch4) w_10))
            (∃ x8 : Sl, CellsAt w_2 (Addr.mk w_1.heap.size 4 none) [Value.slice x8.a x8.len x8.cap] ∧
            Calls P F_check_looker_nodes #[Value.pointer (some k), Value.slice x8.a x8.len x8.cap, Value.slice vars1.a vars1.len vars1.cap] w_2 (fun (e_8 : Ending) (w_12 : World) =>
              (e_8 = Ending.returned (Value.tuple #[]) ∧ 
              ∃ x9 : Sl, CellsAt w_12 (Addr.mk w_1.heap.size 5 none) [Value.slice x9.a x9.len x9.cap] ∧
              Calls P F_check_looker_nodes #[Value.pointer (some k), Value.slice x9.a x9.len x9.cap, Value.slice vars1.a vars1.len vars1.cap] w_12 (fun (e_9 : Ending) (w_13 : World) =>
                (e_9 = Ending.returned (Value.tuple #[]) ∧ 
                InI64 (t12 + 1) ∧
                ∃ m2 : Nat, m2 < n ∧ J vars1 (t12 + 1) m2 w_13) ∨
                ∃ ch5 : List PanicEntry, e_9 = Ending.panicked ch5 ∧ R (Ending.panicked ch5) w_13)) ∨
              ∃ ch6 : List PanicEntry, e_8 = Ending.panicked ch6 ∧ R (Ending.panicked ch6) w_12)))) ∨
        ∃ ch7 : List PanicEntry, e_1 = Ending.panicked ch7 ∧ R (Ending.panicked ch7) w_2))
      (R (Ending.returned (Value.tuple #[])) w_1))
theorem eq_check_looker_nodes (k : Addr) (l : Sl) (vars : Sl) (w : World) (R : Ending → World → Prop) : vc_check_looker_nodes k l vars w R = vc (bodyOf D_check_looker_nodes) (cx0 P D_check_looker_nodes an_check_looker_nodes) 0 (st0 [Value.pointer (some k), Value.slice l.a l.len l.cap, Value.slice vars.a vars.len vars.cap] w) (vEnd (cx0 P D_check_looker_nodes an_check_looker_nodes) D_check_looker_nodes R) := by kernel_rfl
theorem ok_check_looker_nodes (k : Addr) (l : Sl) (vars : Sl) {w : World} {R : Ending → World → Prop} (h : vc_check_looker_nodes k l vars w R) : Calls P F_check_looker_nodes #[Value.pointer (some k), Value.slice l.a l.len l.cap, Value.slice vars.a vars.len vars.cap] w R :=
  calls_of_vc (P := P) (f := F_check_looker_nodes) (fn := D_check_looker_nodes) (c := bodyOf D_check_looker_nodes) (args := [Value.pointer (some k), Value.slice l.a l.len l.cap, Value.slice vars.a vars.len vars.cap]) (R := R) (w := w) an_check_looker_nodes Try.func15 (bodyOf_some (by kernel_rfl)) (by kernel_rfl) (by rw [← eq_check_looker_nodes k l vars w R]; exact h)
def an_ref01_Find : Ann := { boxes := [], loops := [(0, [(5, Value.int .i64 0)], [4, 6, 7, 8, 9, 10, 11, 12, 13, 14, 15, 16, 17, 18, 19, 20, 21, 22, 23, 24])], cuts := [], pans := [11, 13, 14, 15, 31], draws := [] }
def vc_ref01_Find (s : Bytes) (p : Bytes) (w : World) (R : Ending → World → Prop) : Prop :=
  ∃ (J : Int → Nat → World → Prop) (n₀ : Nat), J (0 : Int) n₀ w ∧
  ∀ i : Int, ∀ (n : Nat) (w_ : World), J i n w_ →
  InI64 (i + (p.length : Int)) ∧
  br (decide (i + (p.length : Int) ≤ (s.length : Int)))
    (InI64 (i + (p.length : Int)) ∧
    (0 : Int) ≤ i ∧ i ≤ i + (p.length : Int) ∧ i + (p.length : Int) ≤ (s.length : Int) ∧
    br (decide ((s.take ((i + (p.length : Int)).toNat)).drop i.toNat = p))
      (R (Ending.returned (Value.int .i64 i)) w_)
      (InI64 (i + 1) ∧
      ∃ m : Nat, m < n ∧ J (i + 1) m w_))
    (R (Ending.returned (Value.int .i64 (-1))) w_)
theorem eq_ref01_Find (s : Bytes) (p : Bytes) (w : World) (R : Ending → World → Prop) : vc_ref01_Find s p w R = vc (bodyOf D_ref01_Find) (cx0 P D_ref01_Find an_ref01_Find) 0 (st0 [Value.string (bs s), Value.string (bs p)] w) (vEnd (cx0 P D_ref01_Find an_ref01_Find) D_ref01_Find R) := by kernel_rfl
theorem ok_ref01_Find (s : Bytes) (p : Bytes) {w : World} {R : Ending → World → Prop} (h : vc_ref01_Find s p w R) : Calls P F_ref01_Find #[Value.string (bs s), Value.string (bs p)] w R :=
  calls_of_vc (P := P) (f := F_ref01_Find) (fn := D_ref01_Find) (c := bodyOf D_ref01_Find) (args := [Value.string (bs s), Value.string (bs p)]) (R := R) (w := w) an_ref01_Find Try.func16 (bodyOf_some (by kernel_rfl)) (by kernel_rfl) (by rw [← eq_ref01_Find s p w R]; exact h)
def an_ref18_skip : Ann := { boxes := [], loops := [(0, [(1, Value.int .i64 0)], [5, 6, 7, 8, 9, 10, 11, 12, 13, 14, 15, 16])], cuts := [], pans := [11, 13, 14, 15, 31], draws := [] }
def vc_ref18_skip (s : Bytes) (at_ : Int) (w : World) (R : Ending → World → Prop) : Prop :=
  ∃ (J : Int → Nat → World → Prop) (n₀ : Nat), J at_ n₀ w ∧
  ∀ at_1 : Int, ∀ (n : Nat) (w_ : World), J at_1 n w_ →
  br (decide (at_1 < (s.length : Int)))
    ((0 : Int) ≤ at_1 ∧ at_1 < (s.length : Int) ∧
    Calls P F_ref01_Blank #[Value.int .u8 (byteAt s at_1.toNat)] w_ (fun (e_ : Ending) (w_1 : World) =>
      ∃ r : Bool, e_ = Ending.returned (Value.bool r) ∧ 
      br r
        (InI64 (at_1 + 1) ∧
        ∃ m : Nat, m < n ∧ J (at_1 + 1) m w_1)
        (R (Ending.returned (Value.int .i64 at_1)) w_1)))
    (R (Ending.returned (Value.int .i64 at_1)) w_)
theorem eq_ref18_skip (s : Bytes) (at_ : Int) (w : World) (R : Ending → World → Prop) : vc_ref18_skip s at_ w R = vc (bodyOf D_ref18_skip) (cx0 P D_ref18_skip an_ref18_skip) 0 (st0 [Value.string (bs s), Value.int .i64 at_] w) (vEnd (cx0 P D_ref18_skip an_ref18_skip) D_ref18_skip R) := by kernel_rfl
theorem ok_ref18_skip (s : Bytes) (at_ : Int) {w : World} {R : Ending → World → Prop} (h : vc_ref18_skip s at_ w R) : Calls P F_ref18_skip #[Value.string (bs s), Value.int .i64 at_] w R :=
  calls_of_vc (P := P) (f := F_ref18_skip) (fn := D_ref18_skip) (c := bodyOf D_ref18_skip) (args := [Value.string (bs s), Value.int .i64 at_]) (R := R) (w := w) an_ref18_skip Try.func17 (bodyOf_some (by kernel_rfl)) (by kernel_rfl) (by rw [← eq_ref18_skip s at_ w R]; exact h)
def an_ref01_Begins : Ann := { boxes := [], loops := [], cuts := [], pans := [11, 13, 14, 15, 31], draws := [] }
def vc_ref01_Begins (p : Bytes) (s : Bytes) (w : World) (R : Ending → World → Prop) : Prop :=
  br (decide ((p.length : Int) ≤ (s.length : Int)))
    ((0 : Int) ≤ (p.length : Int) ∧ (p.length : Int) ≤ (s.length : Int) ∧
    R (Ending.returned (Value.bool (decide (s.take ((p.length : Int).toNat) = p)))) w)
    (R (Ending.returned (Value.bool false)) w)
theorem eq_ref01_Begins (p : Bytes) (s : Bytes) (w : World) (R : Ending → World → Prop) : vc_ref01_Begins p s w R = vc (bodyOf D_ref01_Begins) (cx0 P D_ref01_Begins an_ref01_Begins) 0 (st0 [Value.string (bs p), Value.string (bs s)] w) (vEnd (cx0 P D_ref01_Begins an_ref01_Begins) D_ref01_Begins R) := by kernel_rfl
theorem ok_ref01_Begins (p : Bytes) (s : Bytes) {w : World} {R : Ending → World → Prop} (h : vc_ref01_Begins p s w R) : Calls P F_ref01_Begins #[Value.string (bs p), Value.string (bs s)] w R :=
  calls_of_vc (P := P) (f := F_ref01_Begins) (fn := D_ref01_Begins) (c := bodyOf D_ref01_Begins) (args := [Value.string (bs p), Value.string (bs s)]) (R := R) (w := w) an_ref01_Begins Try.func18 (bodyOf_some (by kernel_rfl)) (by kernel_rfl) (by rw [← eq_ref01_Begins p s w R]; exact h)
def an_ref18_closes : Ann := { boxes := [], loops := [(0, [(1, Value.int .i64 0), (5, Value.bool false)], [4, 6, 7, 8, 9, 10, 11, 12, 13, 14, 15, 16, 17, 18, 19, 20, 21, 22, 23, 24, 25, 26, 27, 28, 29, 30, 31, 32, 33, 34, 35, 36, 37, 38])], cuts := [], pans := [11, 13, 14, 15, 31], draws := [] }
def vc_ref18_closes (s : Bytes) (at_ : Int) (w : World) (R : Ending → World → Prop) : Prop :=
  ∃ (J : Int → Bool → Nat → World → Prop) (n₀ : Nat), J at_ false n₀ w ∧
  ∀ at_1 : Int, ∀ in_ : Bool, ∀ (n : Nat) (w_ : World), J at_1 in_ n w_ →
  br (decide (at_1 < (s.length : Int)))
    (br in_
      ((0 : Int) ≤ at_1 ∧ at_1 < (s.length : Int) ∧
      br (decide (byteAt s at_1.toNat = 92))
        (InI64 (at_1 + 1) ∧
        InI64 ((at_1 + 1) + 1) ∧
        ∃ m : Nat, m < n ∧ J ((at_1 + 1) + 1) in_ m w_)
        ((0 : Int) ≤ at_1 ∧ at_1 < (s.length : Int) ∧
        br (decide (byteAt s at_1.toNat = 34))
          (InI64 (at_1 + 1) ∧
          ∃ m1 : Nat, m1 < n ∧ J (at_1 + 1) (!in_) m1 w_)
          (br (!in_)
            ((0 : Int) ≤ at_1 ∧ at_1 ≤ (s.length : Int) ∧
            Calls P F_ref01_Begins #[Value.string (bs [125, 125]), Value.string (bs (s.drop at_1.toNat))] w_ (fun (e_ : Ending) (w_1 : World) =>
              ∃ r : Bool, e_ = Ending.returned (Value.bool r) ∧ 
              br r
                (R (Ending.returned (Value.int .i64 at_1)) w_1)
                (InI64 (at_1 + 1) ∧
                ∃ m2 : Nat, m2 < n ∧ J (at_1 + 1) in_ m2 w_1)))
            (InI64 (at_1 + 1) ∧
            ∃ m3 : Nat, m3 < n ∧ J (at_1 + 1) in_ m3 w_))))
      ((0 : Int) ≤ at_1 ∧ at_1 < (s.length : Int) ∧
      br (decide (byteAt s at_1.toNat = 34))
        (InI64 (at_1 + 1) ∧
        ∃ m4 : Nat, m4 < n ∧ J (at_1 + 1) (!in_) m4 w_)
        (br (!in_)
          ((0 : Int) ≤ at_1 ∧ at_1 ≤ (s.length : Int) ∧
          Calls P F_ref01_Begins #[Value.string (bs [125, 125]), Value.string (bs (s.drop at_1.toNat))] w_ (fun (e_1 : Ending) (w_2 : World) =>
            ∃ r1 : Bool, e_1 = Ending.returned (Value.bool r1) ∧ 
            br r1
              (R (Ending.returned (Value.int .i64 at_1)) w_2)
              (InI64 (at_1 + 1) ∧
              ∃ m5 : Nat, m5 < n ∧ J (at_1 + 1) in_ m5 w_2)))
          (InI64 (at_1 + 1) ∧
          ∃ m6 : Nat, m6 < n ∧ J (at_1 + 1) in_ m6 w_))))
    (R (Ending.returned (Value.int .i64 (-1))) w_)
theorem eq_ref18_closes (s : Bytes) (at_ : Int) (w : World) (R : Ending → World → Prop) : vc_ref18_closes s at_ w R = vc (bodyOf D_ref18_closes) (cx0 P D_ref18_closes an_ref18_closes) 0 (st0 [Value.string (bs s), Value.int .i64 at_] w) (vEnd (cx0 P D_ref18_closes an_ref18_closes) D_ref18_closes R) := by kernel_rfl
theorem ok_ref18_closes (s : Bytes) (at_ : Int) {w : World} {R : Ending → World → Prop} (h : vc_ref18_closes s at_ w R) : Calls P F_ref18_closes #[Value.string (bs s), Value.int .i64 at_] w R :=
  calls_of_vc (P := P) (f := F_ref18_closes) (fn := D_ref18_closes) (c := bodyOf D_ref18_closes) (args := [Value.string (bs s), Value.int .i64 at_]) (R := R) (w := w) an_ref18_closes Try.func19 (bodyOf_some (by kernel_rfl)) (by kernel_rfl) (by rw [← eq_ref18_closes s at_ w R]; exact h)
def an_ref01_Blank : Ann := { boxes := [], loops := [], cuts := [], pans := [11, 13, 14, 15, 31], draws := [] }
def vc_ref01_Blank (c : Int) (w : World) (R : Ending → World → Prop) : Prop :=
  br (decide (c = 32))
    (R (Ending.returned (Value.bool true)) w)
    (br (decide (c = 9))
      (R (Ending.returned (Value.bool true)) w)
      (br (decide (c = 10))
        (R (Ending.returned (Value.bool true)) w)
        (br (decide (c = 12))
          (R (Ending.returned (Value.bool true)) w)
          (R (Ending.returned (Value.bool (decide (c = 13)))) w))))
theorem eq_ref01_Blank (c : Int) (w : World) (R : Ending → World → Prop) : vc_ref01_Blank c w R = vc (bodyOf D_ref01_Blank) (cx0 P D_ref01_Blank an_ref01_Blank) 0 (st0 [Value.int .u8 c] w) (vEnd (cx0 P D_ref01_Blank an_ref01_Blank) D_ref01_Blank R) := by kernel_rfl
theorem ok_ref01_Blank (c : Int) {w : World} {R : Ending → World → Prop} (h : vc_ref01_Blank c w R) : Calls P F_ref01_Blank #[Value.int .u8 c] w R :=
  calls_of_vc (P := P) (f := F_ref01_Blank) (fn := D_ref01_Blank) (c := bodyOf D_ref01_Blank) (args := [Value.int .u8 c]) (R := R) (w := w) an_ref01_Blank Try.func20 (bodyOf_some (by kernel_rfl)) (by kernel_rfl) (by rw [← eq_ref01_Blank c w R]; exact h)
def an_ref18_back : Ann := { boxes := [], loops := [(0, [(3, Value.int .i64 0)], [6, 7, 8, 9, 10, 11, 12, 13, 14, 15, 16])], cuts := [], pans := [11, 13, 14, 15, 31], draws := [] }
def vc_ref18_back (s : Bytes) (w : World) (R : Ending → World → Prop) : Prop :=
  ∃ (J : Int → Nat → World → Prop) (n₀ : Nat), J (s.length : Int) n₀ w ∧
  ∀ n1 : Int, ∀ (n : Nat) (w_ : World), J n1 n w_ →
  br (decide ((0 : Int) < n1))
    (InI64 (n1 - 1) ∧
    (0 : Int) ≤ n1 - 1 ∧ n1 - 1 < (s.length : Int) ∧
    Calls P F_ref01_Blank #[Value.int .u8 (byteAt s ((n1 - 1).toNat))] w_ (fun (e_ : Ending) (w_1 : World) =>
      ∃ r : Bool, e_ = Ending.returned (Value.bool r) ∧ 
      br r
        (InI64 (n1 - 1) ∧
        ∃ m : Nat, m < n ∧ J (n1 - 1) m w_1)
        ((0 : Int) ≤ n1 ∧ n1 ≤ (s.length : Int) ∧
        R (Ending.returned (Value.string (bs (s.take n1.toNat)))) w_1)))
    ((0 : Int) ≤ n1 ∧ n1 ≤ (s.length : Int) ∧
    R (Ending.returned (Value.string (bs (s.take n1.toNat)))) w_)
theorem eq_ref18_back (s : Bytes) (w : World) (R : Ending → World → Prop) : vc_ref18_back s w R = vc (bodyOf D_ref18_back) (cx0 P D_ref18_back an_ref18_back) 0 (st0 [Value.string (bs s)] w) (vEnd (cx0 P D_ref18_back an_ref18_back) D_ref18_back R) := by kernel_rfl
theorem ok_ref18_back (s : Bytes) {w : World} {R : Ending → World → Prop} (h : vc_ref18_back s w R) : Calls P F_ref18_back #[Value.string (bs s)] w R :=
  calls_of_vc (P := P) (f := F_ref18_back) (fn := D_ref18_back) (c := bodyOf D_ref18_back) (args := [Value.string (bs s)]) (R := R) (w := w) an_ref18_back Try.func21 (bodyOf_some (by kernel_rfl)) (by kernel_rfl) (by rw [← eq_ref18_back s w R]; exact h)
def an_ref01_Trim : Ann := { boxes := [], loops := [(0, [(3, Value.int .i64 0)], [7, 8, 9, 10, 11, 12, 13, 14, 15, 16, 17]), (2, [(4, Value.int .i64 0)], [18, 19, 20, 21, 22, 23, 24, 25, 26, 27, 28, 29])], cuts := [(4, [(3, Value.int .i64 0)], [7, 8, 9, 10, 11, 12, 13, 14, 15, 16, 17])], pans := [11, 13, 14, 15, 31], draws := [] }
def vc_ref01_Trim (s : Bytes) (w : World) (R : Ending → World → Prop) : Prop :=
  ∃ J : Int → World → Prop,
    (∃ (J1 : Int → Nat → World → Prop) (n₀ : Nat), J1 (0 : Int) n₀ w ∧
    ∀ a : Int, ∀ (n : Nat) (w_ : World), J1 a n w_ →
    br (decide (a < (s.length : Int)))
      ((0 : Int) ≤ a ∧ a < (s.length : Int) ∧
      Calls P F_ref01_Blank #[Value.int .u8 (byteAt s a.toNat)] w_ (fun (e_ : Ending) (w_1 : World) =>
        ∃ r : Bool, e_ = Ending.returned (Value.bool r) ∧ 
        br r
          (InI64 (a + 1) ∧
          ∃ m : Nat, m < n ∧ J1 (a + 1) m w_1)
          (J a w_1)))
      (J a w_)) ∧
  ∀ a1 : Int, ∀ w_2 : World, J a1 w_2 →
  ∃ (J2 : Int → Nat → World → Prop) (n₀1 : Nat), J2 (s.length : Int) n₀1 w_2 ∧
  ∀ b : Int, ∀ (n1 : Nat) (w_3 : World), J2 b n1 w_3 →
  br (decide (a1 < b))
    (InI64 (b - 1) ∧
    (0 : Int) ≤ b - 1 ∧ b - 1 < (s.length : Int) ∧
    Calls P F_ref01_Blank #[Value.int .u8 (byteAt s ((b - 1).toNat))] w_3 (fun (e_1 : Ending) (w_4 : World) =>
      ∃ r1 : Bool, e_1 = Ending.returned (Value.bool r1) ∧ 
      br r1
        (InI64 (b - 1) ∧
        ∃ m1 : Nat, m1 < n1 ∧ J2 (b - 1) m1 w_4)
        ((0 : Int) ≤ a1 ∧ a1 ≤ b ∧ b ≤ (s.length : Int) ∧
        R (Ending.returned (Value.string (bs ((s.take b.toNat).drop a1.toNat)))) w_4)))
    ((0 : Int) ≤ a1 ∧ a1 ≤ b ∧ b ≤ (s.length : Int) ∧
    R (Ending.returned (Value.string (bs ((s.take b.toNat).drop a1.toNat)))) w_3)
theorem eq_ref01_Trim (s : Bytes) (w : World) (R : Ending → World → Prop) : vc_ref01_Trim s w R = vc (bodyOf D_ref01_Trim) (cx0 P D_ref01_Trim an_ref01_Trim) 0 (st0 [Value.string (bs s)] w) (vEnd (cx0 P D_ref01_Trim an_ref01_Trim) D_ref01_Trim R) := by kernel_rfl
theorem ok_ref01_Trim (s : Bytes) {w : World} {R : Ending → World → Prop} (h : vc_ref01_Trim s w R) : Calls P F_ref01_Trim #[Value.string (bs s)] w R :=
  calls_of_vc (P := P) (f := F_ref01_Trim) (fn := D_ref01_Trim) (c := bodyOf D_ref01_Trim) (args := [Value.string (bs s)]) (R := R) (w := w) an_ref01_Trim Try.func22 (bodyOf_some (by kernel_rfl)) (by kernel_rfl) (by rw [← eq_ref01_Trim s w R]; exact h)
def an_ref20_Parser_count : Ann := { boxes := [], loops := [], cuts := [], pans := [11, 13, 14, 15, 31], draws := [] }
def vc_ref20_Parser_count (p : Addr) (at_ : Int) (w : World) (R : Ending → World → Prop) : Prop :=
  ∃ x : Int, CellsAt w (p.add 1) [Value.int .i64 x] ∧
  br (decide (x = 1024))
    (Calls P F_ref20_Parser_fail #[Value.pointer (some p), Value.int .i64 at_, Value.int .i64 3] w (fun (e_ : Ending) (w_ : World) =>
      ∃ r : Bool, e_ = Ending.returned (Value.bool r) ∧ 
      R (Ending.returned (Value.bool r)) w_))
    (∃ x1 : Int, CellsAt w (p.add 1) [Value.int .i64 x1] ∧
    InI64 (x1 + 1) ∧
    StoreOk w (p.add 1) 1 ∧ 
    R (Ending.returned (Value.bool true)) (setCells w (p.add 1) [Value.int .i64 (x1 + 1)]))
theorem eq_ref20_Parser_count (p : Addr) (at_ : Int) (w : World) (R : Ending → World → Prop) : vc_ref20_Parser_count p at_ w R = vc (bodyOf D_ref20_Parser_count) (cx0 P D_ref20_Parser_count an_ref20_Parser_count) 0 (st0 [Value.pointer (some p), Value.int .i64 at_] w) (vEnd (cx0 P D_ref20_Parser_count an_ref20_Parser_count) D_ref20_Parser_count R) := by kernel_rfl
theorem ok_ref20_Parser_count (p : Addr) (at_ : Int) {w : World} {R : Ending → World → Prop} (h : vc_ref20_Parser_count p at_ w R) : Calls P F_ref20_Parser_count #[Value.pointer (some p), Value.int .i64 at_] w R :=
  calls_of_vc (P := P) (f := F_ref20_Parser_count) (fn := D_ref20_Parser_count) (c := bodyOf D_ref20_Parser_count) (args := [Value.pointer (some p), Value.int .i64 at_]) (R := R) (w := w) an_ref20_Parser_count Try.func23 (bodyOf_some (by kernel_rfl)) (by kernel_rfl) (by rw [← eq_ref20_Parser_count p at_ w R]; exact h)
def an_ref20_Parser_words : Ann := { boxes := [(3, 100), (4, 103), (9, 106)], loops := [], cuts := [], pans := [11, 13, 14, 15, 31], draws := [] }
def vc_ref20_Parser_words (p : Addr) (xKind : Int) (xText : Bytes) (xAt : Int) (w : World) (R : Ending → World → Prop) : Prop :=
  ∀ b : Nat, w.heap.size ≤ b →
  ∀ b1 : Nat, w.heap.size ≤ b1 →
  ∀ w_ : World, LocB [b1, b] w w_ →
  Calls P F_ref18_Words #[Value.string (bs xText), Value.int .i64 xAt] w_ (fun (e_ : Ending) (w_1 : World) =>
    ∃ r : Sl, ∃ r1 : Int, ∃ r2 : Int, e_ = Ending.returned (Value.tuple #[Value.slice r.a r.len r.cap, Value.int .i64 r1, Value.int .i64 r2]) ∧ w_1.heap[b1]? = w_.heap[b1]? ∧ w_1.heap[b]? = w_.heap[b]? ∧ 
    br (!decide (r2 = 0))
      (Calls P F_ref20_Parser_fail #[Value.pointer (some p), Value.int .i64 r1, Value.int .i64 r2] w_1 (fun (e_1 : Ending) (w_2 : World) =>
        ∃ r3 : Bool, e_1 = Ending.returned (Value.bool r3) ∧ w_2.heap[b1]? = w_1.heap[b1]? ∧ w_2.heap[b]? = w_1.heap[b]? ∧ 
        ∀ w_3 : World, LocB [b1, b] w_2 w_3 →
        R (Ending.returned (Value.tuple #[Value.agg #[Value.slice none 0 0, Value.string (bs ([] : Bytes)), Value.int .i64 0], Value.bool r3])) w_3))
      (br (decide (((r.len : Nat) : Int) = 0))
        (Calls P F_ref20_Parser_fail #[Value.pointer (some p), Value.int .i64 xAt, Value.int .i64 33] w_1 (fun (e_2 : Ending) (w_4 : World) =>
          ∃ r4 : Bool, e_2 = Ending.returned (Value.bool r4) ∧ w_4.heap[b1]? = w_1.heap[b1]? ∧ w_4.heap[b]? = w_1.heap[b]? ∧ 
          ∀ w_5 : World, LocB [b1, b] w_4 w_5 →
          R (Ending.returned (Value.tuple #[Value.agg #[Value.slice none 0 0, Value.string (bs ([] : Bytes)), Value.int .i64 0], Value.bool r4])) w_5))
        (∀ b2 : Nat, w_1.heap.size ≤ b2 →
        (0 : Int) ≤ 0 ∧ (0 : Int) < ((r.len : Nat) : Int) ∧ ∃ a : Addr, r.a = some a ∧
        ∀ w_6 : World, LocB [b2, b1, b] w_1 w_6 →
        ∃ x : Int, CellsAt w_6 (a.add ((0 : Int).toNat * 3)) [Value.int .i64 x] ∧
        br (decide (x = 1))
          ((0 : Int) ≤ 0 ∧ (0 : Int) < ((r.len : Nat) : Int) ∧ ∃ a1 : Addr, r.a = some a1 ∧
          ∃ x1 : Bytes, CellsAt w_6 ((a1.add ((0 : Int).toNat * 3)).add 1) [Value.string (bs x1)] ∧
          ∀ w_7 : World, LocB [b2, b1, b] w_6 w_7 →
          R (Ending.returned (Value.tuple #[Value.agg #[Value.slice r.a r.len r.cap, Value.string (bs x1), Value.int .i64 xAt], Value.bool true])) w_7)
          (∀ w_8 : World, LocB [b2, b1, b] w_6 w_8 →
          R (Ending.returned (Value.tuple #[Value.agg #[Value.slice r.a r.len r.cap, Value.string (bs ([] : Bytes)), Value.int .i64 xAt], Value.bool true])) w_8))))
theorem eq_ref20_Parser_words (p : Addr) (xKind : Int) (xText : Bytes) (xAt : Int) (w : World) (R : Ending → World → Prop) : vc_ref20_Parser_words p xKind xText xAt w R = vc (bodyOf D_ref20_Parser_words) (cx0 P D_ref20_Parser_words an_ref20_Parser_words) 0 (st0 [Value.pointer (some p), Value.agg #[Value.int .i64 xKind, Value.string (bs xText), Value.int .i64 xAt]] w) (vEnd (cx0 P D_ref20_Parser_words an_ref20_Parser_words) D_ref20_Parser_words R) := by kernel_rfl
theorem ok_ref20_Parser_words (p : Addr) (xKind : Int) (xText : Bytes) (xAt : Int) {w : World} {R : Ending → World → Prop} (h : vc_ref20_Parser_words p xKind xText xAt w R) : Calls P F_ref20_Parser_words #[Value.pointer (some p), Value.agg #[Value.int .i64 xKind, Value.string (bs xText), Value.int .i64 xAt]] w R :=
  calls_of_vc (P := P) (f := F_ref20_Parser_words) (fn := D_ref20_Parser_words) (c := bodyOf D_ref20_Parser_words) (args := [Value.pointer (some p), Value.agg #[Value.int .i64 xKind, Value.string (bs xText), Value.int .i64 xAt]]) (R := R) (w := w) an_ref20_Parser_words Try.func24 (bodyOf_some (by kernel_rfl)) (by kernel_rfl) (by rw [← eq_ref20_Parser_words p xKind xText xAt w R]; exact h)
def an_ref20_Parser_fail : Ann := { boxes := [], loops := [], cuts := [], pans := [11, 13, 14, 15, 31], draws := [] }
def vc_ref20_Parser_fail (p : Addr) (at_ : Int) (e_ : Int) (w : World) (R : Ending → World → Prop) : Prop :=
  ∃ x : Int, CellsAt w (p.add 5) [Value.int .i64 x] ∧
  br (decide (x = 0))
    (StoreOk w (p.add 4) 1 ∧ 
    StoreOk (setCells w (p.add 4) [Value.int .i64 at_]) (p.add 5) 1 ∧ 
    R (Ending.returned (Value.bool false)) (setCells (setCells w (p.add 4) [Value.int .i64 at_]) (p.add 5) [Value.int .i64 e_]))
    (R (Ending.returned (Value.bool false)) w)
theorem eq_ref20_Parser_fail (p : Addr) (at_ : Int) (e_ : Int) (w : World) (R : Ending → World → Prop) : vc_ref20_Parser_fail p at_ e_ w R = vc (bodyOf D_ref20_Parser_fail) (cx0 P D_ref20_Parser_fail an_ref20_Parser_fail) 0 (st0 [Value.pointer (some p), Value.int .i64 at_, Value.int .i64 e_] w) (vEnd (cx0 P D_ref20_Parser_fail an_ref20_Parser_fail) D_ref20_Parser_fail R) := by kernel_rfl
theorem ok_ref20_Parser_fail (p : Addr) (at_ : Int) (e_ : Int) {w : World} {R : Ending → World → Prop} (h : vc_ref20_Parser_fail p at_ e_ w R) : Calls P F_ref20_Parser_fail #[Value.pointer (some p), Value.int .i64 at_, Value.int .i64 e_] w R :=
  calls_of_vc (P := P) (f := F_ref20_Parser_fail) (fn := D_ref20_Parser_fail) (c := bodyOf D_ref20_Parser_fail) (args := [Value.pointer (some p), Value.int .i64 at_, Value.int .i64 e_]) (R := R) (w := w) an_ref20_Parser_fail Try.func25 (bodyOf_some (by kernel_rfl)) (by kernel_rfl) (by rw [← eq_ref20_Parser_fail p at_ e_ w R]; exact h)
def an_ref20_Parser_define : Ann := { boxes := [(3, 100), (10, 103), (62, 106)], loops := [(0, [(7, Value.int .i64 0)], [4, 27, 28, 29, 30, 31, 32, 33, 34, 35, 36, 37, 38, 39, 40, 41, 42, 43, 44, 45, 46, 47, 48, 49])], cuts := [], pans := [11, 13, 14, 15, 31], draws := [] }
def vc_ref20_Parser_define (p : Addr) (wWords : Sl) (wHead : Bytes) (wAt : Int) (w : World) (R : Ending → World → Prop) : Prop :=
  ∀ b : Nat, w.heap.size ≤ b →
  ∀ w_ : World, LocB [b] w w_ →
  Calls P F_ref20_Parser_called #[Value.pointer (some p), Value.agg #[Value.slice wWords.a wWords.len wWords.cap, Value.string (bs wHead), Value.int .i64 wAt]] w_ (fun (e_ : Ending) (w_1 : World) =>
    ∃ r : Bytes, ∃ r1 : Bool, e_ = Ending.returned (Value.tuple #[Value.string (bs r), Value.bool r1]) ∧ w_1.heap[b]? = w_.heap[b]? ∧ 
    br (!r1)
      (R (Ending.returned (Value.bool false)) w_1)
      (br (!decide (((wWords.len : Nat) : Int) = 2))
        (Calls P F_ref20_Parser_fail #[Value.pointer (some p), Value.int .i64 wAt, Value.int .i64 33] w_1 (fun (e_1 : Ending) (w_2 : World) =>
          ∃ r2 : Bool, e_1 = Ending.returned (Value.bool r2) ∧ w_2.heap[b]? = w_1.heap[b]? ∧ 
          R (Ending.returned (Value.bool r2)) w_2))
        (∃ (J : Int → Nat → World → Prop) (n₀ : Nat), J (0 : Int) n₀ w_1 ∧
        ∀ i : Int, ∀ (n : Nat) (w_3 : World), J i n w_3 →
        ∃ x : Sl, CellsAt w_3 (p.add 3) [Value.slice x.a x.len x.cap] ∧
        br (decide (i < ((x.len : Nat) : Int)))
          (∃ x1 : Sl, CellsAt w_3 (p.add 3) [Value.slice x1.a x1.len x1.cap] ∧
          (0 : Int) ≤ i ∧ i < ((x1.len : Nat) : Int) ∧ ∃ a : Addr, x1.a = some a ∧
          ∃ x2 : Bytes, CellsAt w_3 (a.add (i.toNat * 2)) [Value.string (bs x2)] ∧
          br (decide (x2 = r))
            (Calls P F_ref20_Parser_fail #[Value.pointer (some p), Value.int .i64 wAt, Value.int .i64 6] w_3 (fun (e_2 : Ending) (w_4 : World) =>
              ∃ r3 : Bool, e_2 = Ending.returned (Value.bool r3) ∧ w_4.heap[b]? = w_3.heap[b]? ∧ 
              R (Ending.returned (Value.bool r3)) w_4))
            (InI64 (i + 1) ∧
            ∃ m : Nat, m < n ∧ J (i + 1) m w_3))
          (∃ x3 : Sl, CellsAt w_3 (p.add 3) [Value.slice x3.a x3.len x3.cap] ∧
          ∃ x4 : Sl, CellsAt w_3 (p.add 3) [Value.slice x4.a x4.len x4.cap] ∧
          ∀ b1 : Nat, w_3.heap.size ≤ b1 →
          ∀ w_5 : World, LocB [b1, b] w_3 w_5 →
          ∃ old : List Value, AppPre w_5 x4 2 40 1 old ∧ (∀ ad, x4.a = some ad → ad.block ≠ b1) ∧ (∀ ad, x4.a = some ad → ad.block ≠ b) ∧ 
          ∀ (s : Sl) (w_6 : World), AppRes w_5 x4 2 T_api_Def [Value.string (bs r), Value.slice none 0 0] 1 old s w_6 →
          StoreOk w_6 (p.add 3) 1 ∧ (p.add 3).block ≠ b1 ∧ (p.add 3).block ≠ b ∧ 
          Calls P F_ref20_Parser_nodes #[Value.pointer (some p), Value.int .i64 1] (setCells w_6 (p.add 3) [Value.slice s.a s.len s.cap]) (fun (e_3 : Ending) (w_7 : World) =>
            ∃ r4 : Sl, ∃ r5 : Sl, ∃ r6 : Bytes, ∃ r7 : Int, ∃ r8 : Bool, e_3 = Ending.returned (Value.tuple #[Value.slice r4.a r4.len r4.cap, Value.agg #[Value.slice r5.a r5.len r5.cap, Value.string (bs r6), Value.int .i64 r7], Value.bool r8]) ∧ w_7.heap[b1]? = (setCells w_6 (p.add 3) [Value.slice s.a s.len s.cap]).heap[b1]? ∧ w_7.heap[b]? = (setCells w_6 (p.add 3) [Value.slice s.a s.len s.cap]).heap[b]? ∧ 
            ∀ b2 : Nat, w_7.heap.size ≤ b2 →
            br (!r8)
              (∀ w_8 : World, LocB [b2, b1, b] w_7 w_8 →
              R (Ending.returned (Value.bool false)) w_8)
              (br (!decide (r6 = [101, 110, 100]))
                (∀ w_9 : World, LocB [b2, b1, b] w_7 w_9 →
                Calls P F_ref20_Parser_fail #[Value.pointer (some p), Value.int .i64 r7, Value.int .i64 33] w_9 (fun (e_4 : Ending) (w_10 : World) =>
                  ∃ r9 : Bool, e_4 = Ending.returned (Value.bool r9) ∧ w_10.heap[b2]? = w_9.heap[b2]? ∧ w_10.heap[b1]? = w_9.heap[b1]? ∧ w_10.heap[b]? = w_9.heap[b]? ∧ 
                  R (Ending.returned (Value.bool r9)) w_10))
                (∀ w_11 : World, LocB [b2, b1, b] w_7 w_11 →
                ∃ x5 : Sl, CellsAt w_11 (p.add 3) [Value.slice x5.a x5.len x5.cap] ∧
                (0 : Int) ≤ ((x3.len : Nat) : Int) ∧ ((x3.len : Nat) : Int) < ((x5.len : Nat) : Int) ∧ ∃ a1 : Addr, x5.a = some a1 ∧
                StoreOk w_11 ((a1.add (((x3.len : Nat) : Int).toNat * 2)).add 1) 1 ∧ ((a1.add (((x3.len : Nat) : Int).toNat * 2)).add 1).block ≠ b2 ∧ ((a1.add (((x3.len : Nat) : Int).toNat * 2)).add 1).block ≠ b1 ∧ ((a1.add (((x3.len : Nat) : Int).toNat * 2)).add 1).block ≠ b ∧ 
                R (Ending.returned (Value.bool true)) (setCells w_11 ((a1.add (((x3.len : Nat) : Int).toNat * 2)).add 1) [Value.slice r4.a r4.len r4.cap]))))))))
theorem eq_ref20_Parser_define (p : Addr) (wWords : Sl) (wHead : Bytes) (wAt : Int) (w : World) (R : Ending → World → Prop) : vc_ref20_Parser_define p wWords wHead wAt w R = vc (bodyOf D_ref20_Parser_define) (cx0 P D_ref20_Parser_define an_ref20_Parser_define) 0 (st0 [Value.pointer (some p), Value.agg #[Value.slice wWords.a wWords.len wWords.cap, Value.string (bs wHead), Value.int .i64 wAt]] w) (vEnd (cx0 P D_ref20_Parser_define an_ref20_Parser_define) D_ref20_Parser_define R) := by kernel_rfl
theorem ok_ref20_Parser_define (p : Addr) (wWords : Sl) (wHead : Bytes) (wAt : Int) {w : World} {R : Ending → World → Prop} (h : vc_ref20_Parser_define p wWords wHead wAt w R) : Calls P F_ref20_Parser_define #[Value.pointer (some p), Value.agg #[Value.slice wWords.a wWords.len wWords.cap, Value.string (bs wHead), Value.int .i64 wAt]] w R :=
  calls_of_vc (P := P) (f := F_ref20_Parser_define) (fn := D_ref20_Parser_define) (c := bodyOf D_ref20_Parser_define) (args := [Value.pointer (some p), Value.agg #[Value.slice wWords.a wWords.len wWords.cap, Value.string (bs wHead), Value.int .i64 wAt]]) (R := R) (w := w) an_ref20_Parser_define Try.func26 (bodyOf_some (by kernel_rfl)) (by kernel_rfl) (by rw [← eq_ref20_Parser_define p wWords wHead wAt w R]; exact h)
def an_ref20_Parser_block : Ann := { boxes := [(7, 200), (10, 203), (12, 212), (14, 221), (15, 224)], loops := [], cuts := [(18, [], [11, 64, 65, 66, 67, 68, 69, 70, 71, 72, 73, 74, 75, 76, 77, 78, 79, 80, 81, 82, 203, 204, 205, 206, 207, 208, 209, 210, 211]), (26, [(217, Value.slice none 0 0), (222, Value.string (bs ([] : Bytes))), (223, Value.int .i64 0)], [11, 13, 15, 16, 57, 58, 59, 60, 61, 62, 63, 64, 65, 66, 67, 68, 69, 70, 71, 72, 73, 74, 75, 76, 77, 78, 79, 80, 81, 82, 83, 84, 85, 86, 87, 88, 89, 90, 91, 92, 93, 94, 95, 96, 97, 98, 99, 100, 101, 102, 103, 104, 105, 106, 107, 108, 109, 110, 111, 112, 113, 114, 115, 203, 204, 205, 206, 207, 208, 209, 210, 211, 221, 224, 225, 226, 227, 228, 229, 230, 231, 232])], pans := [11, 13, 14, 15, 31], draws := [(9, [0, 1, 2, 3, 4, 5, 6], [.bl 212, .t, .t, .bl 200, .e, .bst 203, .t]), (17, [0, 1, 2, 3, 4, 5, 6], [.bl 212, .t, .t, .bl 221, .e, .bst 203, .t]), (19, [0, 1, 2, 3, 4, 5, 6], [.bl 212, .t, .t, .bl 221, .e, .bst 203, .t]), (27, [0, 1, 2, 3, 4, 5, 6], [.bl 212, .t, .t, .bl 221, .e, .bst 203, .t])] }
def vc_ref20_Parser_block (p : Addr) (kind : Int) (wWords : Sl) (wHead : Bytes) (wAt : Int) (from_ : Int) (deep : Int) (w : World) (R : Ending → World → Prop) : Prop :=
  ∀ b : Nat, w.heap.size ≤ b →
  ∀ b1 : Nat, w.heap.size ≤ b1 →
  ∀ b2 : Nat, w.heap.size ≤ b2 →
  ∀ w_ : World, LocB [b2, b1, b] w w_ →
  Calls P F_ref20_Parser_count #[Value.pointer (some p), Value.int .i64 wAt] w_ (fun (e_ : Ending) (w_1 : World) =>
    ∃ r : Bool, e_ = Ending.returned (Value.bool r) ∧ w_1.heap[b2]? = w_.heap[b2]? ∧ w_1.heap[b1]? = w_.heap[b1]? ∧ w_1.heap[b]? = w_.heap[b]? ∧ 
    br (!r)
      (∀ w_2 : World, LocB [b2, b1, b] w_1 w_2 →
      R (Ending.returned (Value.tuple #[Value.agg #[Value.int .i64 kind, Value.string (bs ([] : Bytes)), Value.string (bs ([] : Bytes)), Value.slice none 0 0, Value.slice none 0 0, Value.slice none 0 0, Value.int .i64 wAt, Value.int .i64 0, Value.int .i64 0], Value.bool false])) w_2)
      (Calls P F_ref20_Parser_pipe #[Value.pointer (some p), Value.agg #[Value.slice wWords.a wWords.len wWords.cap, Value.string (bs wHead), Value.int .i64 wAt], Value.int .i64 from_] w_1 (fun (e_1 : Ending) (w_3 : World) =>
        ∃ r1 : Sl, ∃ r2 : Bool, e_1 = Ending.returned (Value.tuple #[Value.slice r1.a r1.len r1.cap, Value.bool r2]) ∧ w_3.heap[b2]? = w_1.heap[b2]? ∧ w_3.heap[b1]? = w_1.heap[b1]? ∧ w_3.heap[b]? = w_1.heap[b]? ∧ 
        br (!r2)
          (∀ w_4 : World, LocB [b2, b1, b] w_3 w_4 →
          R (Ending.returned (Value.tuple #[Value.agg #[Value.int .i64 kind, Value.string (bs ([] : Bytes)), Value.string (bs ([] : Bytes)), Value.slice r1.a r1.len r1.cap, Value.slice none 0 0, Value.slice none 0 0, Value.int .i64 wAt, Value.int .i64 0, Value.int .i64 0], Value.bool false])) w_4)
          (br (decide ((16 : Int) ≤ deep))
            (∀ w_5 : World, LocB [b2, b1, b] w_3 w_5 →
            Calls P F_ref20_Parser_fail #[Value.pointer (some p), Value.int .i64 wAt, Value.int .i64 42] w_5 (fun (e_2 : Ending) (w_6 : World) =>
              ∃ r3 : Bool, e_2 = Ending.returned (Value.bool r3) ∧ w_6.heap[b2]? = w_5.heap[b2]? ∧ w_6.heap[b1]? = w_5.heap[b1]? ∧ w_6.heap[b]? = w_5.heap[b]? ∧ 
              ∀ w_7 : World, LocB [b2, b1, b] w_6 w_7 →
              R (Ending.returned (Value.tuple #[Value.agg #[Value.int .i64 kind, Value.string (bs ([] : Bytes)), Value.string (bs ([] : Bytes)), Value.slice r1.a r1.len r1.cap, Value.slice none 0 0, Value.slice none 0 0, Value.int .i64 wAt, Value.int .i64 0, Value.int .i64 0], Value.bool r3])) w_7))
            (∀ b3 : Nat, w_3.heap.size ≤ b3 →
            InI64 (deep + 1) ∧
            ∀ w_8 : World, LocB [b3, b2, b1, b] w_3 w_8 →
            Calls P F_ref20_Parser_nodes #[Value.pointer (some p), Value.int .i64 (deep + 1)] w_8 (fun (e_3 : Ending) (w_9 : World) =>
              ∃ r4 : Sl, ∃ r5 : Sl, ∃ r6 : Bytes, ∃ r7 : Int, ∃ r8 : Bool, e_3 = Ending.returned (Value.tuple #[Value.slice r4.a r4.len r4.cap, Value.agg #[Value.slice r5.a r5.len r5.cap, Value.string (bs r6), Value.int .i64 r7], Value.bool r8]) ∧ w_9.heap[b3]? = w_8.heap[b3]? ∧ w_9.heap[b2]? = w_8.heap[b2]? ∧ w_9.heap[b1]? = w_8.heap[b1]? ∧ w_9.heap[b]? = w_8.heap[b]? ∧ 
              br (!r8)
                (∀ w_10 : World, LocB [b3, b2, b1, b] w_9 w_10 →
                R (Ending.returned (Value.tuple #[Value.agg #[Value.int .i64 kind, Value.string (bs ([] : Bytes)), Value.string (bs ([] : Bytes)), Value.slice r1.a r1.len r1.cap, Value.slice r4.a r4.len r4.cap, Value.slice none 0 0, Value.int .i64 wAt, Value.int .i64 0, Value.int .i64 0], Value.bool false])) w_10)
                (∃ J : Sl → Bytes → Int → World → Prop,
                  (br (decide (r6 = [101, 108, 115, 101]))
                    (br (decide ((1 : Int) < ((r5.len : Nat) : Int)))
                      (∃ J1 : World → Prop,
                        ((0 : Int) ≤ 1 ∧ (1 : Int) < ((r5.len : Nat) : Int) ∧ ∃ a : Addr, r5.a = some a ∧
                        ∀ w_11 : World, LocB [b3, b2, b1, b] w_9 w_11 →
                        ∃ x : Int, CellsAt w_11 (a.add ((1 : Int).toNat * 3)) [Value.int .i64 x] ∧
                        br (!decide (x = 1))
                          (∀ w_12 : World, LocB [b3, b2, b1, b] w_11 w_12 →
                          Calls P F_ref20_Parser_fail #[Value.pointer (some p), Value.int .i64 r7, Value.int .i64 33] w_12 (fun (e_4 : Ending) (w_13 : World) =>
                            ∃ r9 : Bool, e_4 = Ending.returned (Value.bool r9) ∧ w_13.heap[b3]? = w_12.heap[b3]? ∧ w_13.heap[b2]? = w_12.heap[b2]? ∧ w_13.heap[b1]? = w_12.heap[b1]? ∧ w_13.heap[b]? = w_12.heap[b]? ∧ 
                            ∀ w_14 : World, LocB [b3, b2, b1, b] w_13 w_14 →
                            R (Ending.returned (Value.tuple #[Value.agg #[Value.int .i64 kind, Value.string (bs ([] : Bytes)), Value.string (bs ([] : Bytes)), Value.slice r1.a r1.len r1.cap, Value.slice r4.a r4.len r4.cap, Value.slice none 0 0, Value.int .i64 wAt, Value.int .i64 0, Value.int .i64 0], Value.bool r9])) w_14))
                          ((0 : Int) ≤ 1 ∧ (1 : Int) < ((r5.len : Nat) : Int) ∧ ∃ a1 : Addr, r5.a = some a1 ∧
                          ∃ x1 : Bytes, CellsAt w_11 ((a1.add ((1 : Int).toNat * 3)).add 1) [Value.string (bs x1)] ∧
                          br (!decide (x1 = [105, 102]))
                            (∀ w_15 : World, LocB [b3, b2, b1, b] w_11 w_15 →
                            Calls P F_ref20_Parser_fail #[Value.pointer (some p), Value.int .i64 r7, Value.int .i64 33] w_15 (fun (e_5 : Ending) (w_16 : World) =>
                              ∃ r10 : Bool, e_5 = Ending.returned (Value.bool r10) ∧ w_16.heap[b3]? = w_15.heap[b3]? ∧ w_16.heap[b2]? = w_15.heap[b2]? ∧ w_16.heap[b1]? = w_15.heap[b1]? ∧ w_16.heap[b]? = w_15.heap[b]? ∧ 
                              ∀ w_17 : World, LocB [b3, b2, b1, b] w_16 w_17 →
                              R (Ending.returned (Value.tuple #[Value.agg #[Value.int .i64 kind, Value.string (bs ([] : Bytes)), Value.string (bs ([] : Bytes)), Value.slice r1.a r1.len r1.cap, Value.slice r4.a r4.len r4.cap, Value.slice none 0 0, Value.int .i64 wAt, Value.int .i64 0, Value.int .i64 0], Value.bool r10])) w_17))
                            (J1 w_11))) ∧
                      ∀ w_18 : World, J1 w_18 →
                      InI64 (deep + 1) ∧
                      br (decide ((16 : Int) ≤ deep + 1))
                        (∀ w_19 : World, LocB [b3, b2, b1, b] w_18 w_19 →
                        Calls P F_ref20_Parser_fail #[Value.pointer (some p), Value.int .i64 r7, Value.int .i64 42] w_19 (fun (e_6 : Ending) (w_20 : World) =>
                          ∃ r11 : Bool, e_6 = Ending.returned (Value.bool r11) ∧ w_20.heap[b3]? = w_19.heap[b3]? ∧ w_20.heap[b2]? = w_19.heap[b2]? ∧ w_20.heap[b1]? = w_19.heap[b1]? ∧ w_20.heap[b]? = w_19.heap[b]? ∧ 
                          ∀ w_21 : World, LocB [b3, b2, b1, b] w_20 w_21 →
                          R (Ending.returned (Value.tuple #[Value.agg #[Value.int .i64 kind, Value.string (bs ([] : Bytes)), Value.string (bs ([] : Bytes)), Value.slice r1.a r1.len r1.cap, Value.slice r4.a r4.len r4.cap, Value.slice none 0 0, Value.int .i64 wAt, Value.int .i64 0, Value.int .i64 0], Value.bool r11])) w_21))
                        (InI64 (deep + 1) ∧
                        Calls P F_ref20_Parser_block #[Value.pointer (some p), Value.int .i64 3, Value.agg #[Value.slice r5.a r5.len r5.cap, Value.string (bs r6), Value.int .i64 r7], Value.int .i64 2, Value.int .i64 (deep + 1)] w_18 (fun (e_7 : Ending) (w_22 : World) =>
                          ∃ r12 : Int, ∃ r13 : Bytes, ∃ r14 : Bytes, ∃ r15 : Sl, ∃ r16 : Sl, ∃ r17 : Sl, ∃ r18 : Int, ∃ r19 : Int, ∃ r20 : Int, ∃ r21 : Bool, e_7 = Ending.returned (Value.tuple #[Value.agg #[Value.int .i64 r12, Value.string (bs r13), Value.string (bs r14), Value.slice r15.a r15.len r15.cap, Value.slice r16.a r16.len r16.cap, Value.slice r17.a r17.len r17.cap, Value.int .i64 r18, Value.int .i64 r19, Value.int .i64 r20], Value.bool r21]) ∧ w_22.heap[b3]? = w_18.heap[b3]? ∧ w_22.heap[b2]? = w_18.heap[b2]? ∧ w_22.heap[b1]? = w_18.heap[b1]? ∧ w_22.heap[b]? = w_18.heap[b]? ∧ 
                          ∀ b4 : Nat, w_22.heap.size ≤ b4 →
                          ∀ w_23 : World, LocB [b4, b3, b2, b1, b] w_22 w_23 →
                          ∀ w_24 : World, LocB [b4, b3, b2, b1, b] (w_23.alloc (.cells #[Value.int .i64 r12, Value.string (bs r13), Value.string (bs r14), Value.slice r15.a r15.len r15.cap, Value.slice r16.a r16.len r16.cap, Value.slice r17.a r17.len r17.cap, Value.int .i64 r18, Value.int .i64 r19, Value.int .i64 r20] T_api_Node)) w_24 →
                          R (Ending.returned (Value.tuple #[Value.agg #[Value.int .i64 kind, Value.string (bs ([] : Bytes)), Value.string (bs ([] : Bytes)), Value.slice r1.a r1.len r1.cap, Value.slice r4.a r4.len r4.cap, Value.slice (some (Addr.mk w_23.heap.size 0 none)) 1 1, Value.int .i64 wAt, Value.int .i64 0, Value.int .i64 0], Value.bool r21])) w_24)))
                      (InI64 (deep + 1) ∧
                      ∀ w_25 : World, LocB [b3, b2, b1, b] w_9 w_25 →
                      Calls P F_ref20_Parser_nodes #[Value.pointer (some p), Value.int .i64 (deep + 1)] w_25 (fun (e_8 : Ending) (w_26 : World) =>
                        ∃ r22 : Sl, ∃ r23 : Sl, ∃ r24 : Bytes, ∃ r25 : Int, ∃ r26 : Bool, e_8 = Ending.returned (Value.tuple #[Value.slice r22.a r22.len r22.cap, Value.agg #[Value.slice r23.a r23.len r23.cap, Value.string (bs r24), Value.int .i64 r25], Value.bool r26]) ∧ w_26.heap[b3]? = w_25.heap[b3]? ∧ w_26.heap[b2]? = w_25.heap[b2]? ∧ w_26.heap[b1]? = w_25.heap[b1]? ∧ w_26.heap[b]? = w_25.heap[b]? ∧ 
                        br (!r26)
                          (∀ w_27 : World, LocB [b3, b2, b1, b] w_26 w_27 →
                          R (Ending.returned (Value.tuple #[Value.agg #[Value.int .i64 kind, Value.string (bs ([] : Bytes)), Value.string (bs ([] : Bytes)), Value.slice r1.a r1.len r1.cap, Value.slice r4.a r4.len r4.cap, Value.slice r22.a r22.len r22.cap, Value.int .i64 wAt, Value.int .i64 0, Value.int .i64 0], Value.bool false])) w_27)
                          (∀ w_28 : World, LocB [b3, b2, b1, b] w_26 w_28 →
                          J r22 r24 r25 w_28))))
                    (∀ w_29 : World, LocB [b3, b2, b1, b] w_9 w_29 →
                    J ⟨none, 0, 0⟩ r6 r7 w_29)) ∧
                ∀ nElse : Sl, ∀ endhead : Bytes, ∀ endat : Int, ∀ w_30 : World, J nElse endhead endat w_30 →
                br (!decide (endhead = [101, 110, 100]))
                  (∀ w_31 : World, LocB [b3, b2, b1, b] w_30 w_31 →
                  Calls P F_ref20_Parser_fail #[Value.pointer (some p), Value.int .i64 endat, Value.int .i64 33] w_31 (fun (e_9 : Ending) (w_32 : World) =>
                    ∃ r27 : Bool, e_9 = Ending.returned (Value.bool r27) ∧ w_32.heap[b3]? = w_31.heap[b3]? ∧ w_32.heap[b2]? = w_31.heap[b2]? ∧ w_32.heap[b1]? = w_31.heap[b1]? ∧ w_32.heap[b]? = w_31.heap[b]? ∧ 
                    ∀ w_33 : World, LocB [b3, b2, b1, b] w_32 w_33 →
                    R (Ending.returned (Value.tuple #[Value.agg #[Value.int .i64 kind, Value.string (bs ([] : Bytes)), Value.string (bs ([] : Bytes)), Value.slice r1.a r1.len r1.cap, Value.slice r4.a r4.len r4.cap, Value.slice nElse.a nElse.len nElse.cap, Value.int .i64 wAt, Value.int .i64 0, Value.int .i64 0], Value.bool r27])) w_33))
                  (∀ w_34 : World, LocB [b3, b2, b1, b] w_30 w_34 →
                  R (Ending.returned (Value.tuple #[Value.agg #[Value.int .i64 kind, Value.string (bs ([] : Bytes)), Value.string (bs ([] : Bytes)), Value.slice r1.a r1.len r1.cap, Value.slice r4.a r4.len r4.cap, Value.slice nElse.a nElse.len nElse.cap, Value.int .i64 wAt, Value.int .i64 0, Value.int .i64 0], Value.bool true])) w_34))))))))
theorem eq_ref20_Parser_block (p : Addr) (kind : Int) (wWords : Sl) (wHead : Bytes) (wAt : Int) (from_ : Int) (deep : Int) (w : World) (R : Ending → World → Prop) : vc_ref20_Parser_block p kind wWords wHead wAt from_ deep w R = vc (bodyOf D_ref20_Parser_block) (cx0 P D_ref20_Parser_block an_ref20_Parser_block) 0 (st0 [Value.pointer (some p), Value.int .i64 kind, Value.agg #[Value.slice wWords.a wWords.len wWords.cap, Value.string (bs wHead), Value.int .i64 wAt], Value.int .i64 from_, Value.int .i64 deep] w) (vEnd (cx0 P D_ref20_Parser_block an_ref20_Parser_block) D_ref20_Parser_block R) := by kernel_rfl
theorem ok_ref20_Parser_block (p : Addr) (kind : Int) (wWords : Sl) (wHead : Bytes) (wAt : Int) (from_ : Int) (deep : Int) {w : World} {R : Ending → World → Prop} (h : vc_ref20_Parser_block p kind wWords wHead wAt from_ deep w R) : Calls P F_ref20_Parser_block #[Value.pointer (some p), Value.int .i64 kind, Value.agg #[Value.slice wWords.a wWords.len wWords.cap, Value.string (bs wHead), Value.int .i64 wAt], Value.int .i64 from_, Value.int .i64 deep] w R :=
  calls_of_vc (P := P) (f := F_ref20_Parser_block) (fn := D_ref20_Parser_block) (c := bodyOf D_ref20_Parser_block) (args := [Value.pointer (some p), Value.int .i64 kind, Value.agg #[Value.slice wWords.a wWords.len wWords.cap, Value.string (bs wHead), Value.int .i64 wAt], Value.int .i64 from_, Value.int .i64 deep]) (R := R) (w := w) an_ref20_Parser_block Try.func27 (bodyOf_some (by kernel_rfl)) (by kernel_rfl) (by rw [← eq_ref20_Parser_block p kind wWords wHead wAt from_ deep w R]; exact h)
def an_ref20_Parser_single : Ann := { boxes := [(3, 200), (4, 203), (6, 212)], loops := [], cuts := [], pans := [11, 13, 14, 15, 31], draws := [(14, [0, 1, 2, 3, 4, 5, 6, 7, 8], [.t, .t, .t, .h, .t, .t, .bst 212, .t, .bst 212]), (16, [0, 1, 2, 3, 4, 5, 6], [.bl 212, .t, .t, .bl 200, .e, .bst 203, .t])] }
def vc_ref20_Parser_single (p : Addr) (wWords : Sl) (wHead : Bytes) (wAt : Int) (w : World) (R : Ending → World → Prop) : Prop :=
  ∀ b : Nat, w.heap.size ≤ b →
  ∀ b1 : Nat, w.heap.size ≤ b1 →
  ∀ b2 : Nat, w.heap.size ≤ b2 →
  ∀ w_ : World, LocB [b2, b1, b] w w_ →
  Calls P F_ref20_Parser_count #[Value.pointer (some p), Value.int .i64 wAt] w_ (fun (e_ : Ending) (w_1 : World) =>
    ∃ r : Bool, e_ = Ending.returned (Value.bool r) ∧ w_1.heap[b2]? = w_.heap[b2]? ∧ w_1.heap[b1]? = w_.heap[b1]? ∧ w_1.heap[b]? = w_.heap[b]? ∧ 
    br (!r)
      (∀ w_2 : World, LocB [b2, b1, b] w_1 w_2 →
      R (Ending.returned (Value.tuple #[Value.agg #[Value.int .i64 0, Value.string (bs ([] : Bytes)), Value.string (bs ([] : Bytes)), Value.slice none 0 0, Value.slice none 0 0, Value.slice none 0 0, Value.int .i64 wAt, Value.int .i64 0, Value.int .i64 0], Value.bool false])) w_2)
      (br (decide (wHead = [116, 101, 109, 112, 108, 97, 116, 101]))
        (∀ w_3 : World, LocB [b2, b1, b] w_1 w_3 →
        Calls P F_ref20_Parser_called #[Value.pointer (some p), Value.agg #[Value.slice wWords.a wWords.len wWords.cap, Value.string (bs wHead), Value.int .i64 wAt]] w_3 (fun (e_1 : Ending) (w_4 : World) =>
          ∃ r1 : Bytes, ∃ r2 : Bool, e_1 = Ending.returned (Value.tuple #[Value.string (bs r1), Value.bool r2]) ∧ w_4.heap[b2]? = w_3.heap[b2]? ∧ w_4.heap[b1]? = w_3.heap[b1]? ∧ w_4.heap[b]? = w_3.heap[b]? ∧ 
          br r2
            (br (decide ((2 : Int) < ((wWords.len : Nat) : Int)))
              (∀ w_5 : World, LocB [b2, b1, b] w_4 w_5 →
              Calls P F_ref20_Parser_pipe #[Value.pointer (some p), Value.agg #[Value.slice wWords.a wWords.len wWords.cap, Value.string (bs wHead), Value.int .i64 wAt], Value.int .i64 2] w_5 (fun (e_2 : Ending) (w_6 : World) =>
                ∃ r3 : Sl, ∃ r4 : Bool, e_2 = Ending.returned (Value.tuple #[Value.slice r3.a r3.len r3.cap, Value.bool r4]) ∧ w_6.heap[b2]? = w_5.heap[b2]? ∧ w_6.heap[b1]? = w_5.heap[b1]? ∧ w_6.heap[b]? = w_5.heap[b]? ∧ 
                ∀ w_7 : World, LocB [b2, b1, b] w_6 w_7 →
                R (Ending.returned (Value.tuple #[Value.agg #[Value.int .i64 6, Value.string (bs ([] : Bytes)), Value.string (bs r1), Value.slice r3.a r3.len r3.cap, Value.slice none 0 0, Value.slice none 0 0, Value.int .i64 wAt, Value.int .i64 0, Value.int .i64 0], Value.bool r4])) w_7))
              (∀ w_8 : World, LocB [b2, b1, b] w_4 w_8 →
              R (Ending.returned (Value.tuple #[Value.agg #[Value.int .i64 6, Value.string (bs ([] : Bytes)), Value.string (bs r1), Value.slice none 0 0, Value.slice none 0 0, Value.slice none 0 0, Value.int .i64 wAt, Value.int .i64 0, Value.int .i64 0], Value.bool r2])) w_8))
            (∀ w_9 : World, LocB [b2, b1, b] w_4 w_9 →
            R (Ending.returned (Value.tuple #[Value.agg #[Value.int .i64 6, Value.string (bs ([] : Bytes)), Value.string (bs r1), Value.slice none 0 0, Value.slice none 0 0, Value.slice none 0 0, Value.int .i64 wAt, Value.int .i64 0, Value.int .i64 0], Value.bool r2])) w_9)))
        ((0 : Int) ≤ 0 ∧ (0 : Int) < ((wWords.len : Nat) : Int) ∧ ∃ a : Addr, wWords.a = some a ∧
        ∃ x : Int, CellsAt w_1 (a.add ((0 : Int).toNat * 3)) [Value.int .i64 x] ∧
        br (decide (x = 3))
          (br (decide ((1 : Int) < ((wWords.len : Nat) : Int)))
            ((0 : Int) ≤ 1 ∧ (1 : Int) < ((wWords.len : Nat) : Int) ∧ ∃ a1 : Addr, wWords.a = some a1 ∧
            ∃ x1 : Int, CellsAt w_1 (a1.add ((1 : Int).toNat * 3)) [Value.int .i64 x1] ∧
            br (decide (x1 = 6))
              ((0 : Int) ≤ 1 ∧ (1 : Int) < ((wWords.len : Nat) : Int) ∧ ∃ a2 : Addr, wWords.a = some a2 ∧
              ∃ x2 : Bytes, CellsAt w_1 ((a2.add ((1 : Int).toNat * 3)).add 1) [Value.string (bs x2)] ∧
              br (decide (x2 = [58, 61]))
                (∀ w_10 : World, LocB [b2, b1, b] w_1 w_10 →
                (0 : Int) ≤ 0 ∧ (0 : Int) < ((wWords.len : Nat) : Int) ∧ ∃ a3 : Addr, wWords.a = some a3 ∧
                ((a3.add ((0 : Int).toNat * 3)).add 1).block ≠ b2 ∧ ((a3.add ((0 : Int).toNat * 3)).add 1).block ≠ b2 ∧ ∃ x3 : Bytes, CellsAt w_10 ((a3.add ((0 : Int).toNat * 3)).add 1) [Value.string (bs x3)] ∧
                (0 : Int) ≤ 1 ∧ (1 : Int) ≤ (x3.length : Int) ∧
                ∀ w_11 : World, LocB [b2, b1, b] w_10 w_11 →
                Calls P F_ref01_Name #[Value.string (bs (x3.drop ((1 : Int).toNat)))] w_11 (fun (e_3 : Ending) (w_12 : World) =>
                  ∃ r5 : Bool, e_3 = Ending.returned (Value.bool r5) ∧ w_12.heap[b2]? = w_11.heap[b2]? ∧ w_12.heap[b1]? = w_11.heap[b1]? ∧ w_12.heap[b]? = w_11.heap[b]? ∧ 
                  br (!r5)
                    (∀ w_13 : World, LocB [b2, b1, b] w_12 w_13 →
                    Calls P F_ref20_Parser_fail #[Value.pointer (some p), Value.int .i64 wAt, Value.int .i64 33] w_13 (fun (e_4 : Ending) (w_14 : World) =>
                      ∃ r6 : Bool, e_4 = Ending.returned (Value.bool r6) ∧ w_14.heap[b2]? = w_13.heap[b2]? ∧ w_14.heap[b1]? = w_13.heap[b1]? ∧ w_14.heap[b]? = w_13.heap[b]? ∧ 
                      ∀ w_15 : World, LocB [b2, b1, b] w_14 w_15 →
                      R (Ending.returned (Value.tuple #[Value.agg #[Value.int .i64 7, Value.string (bs ([] : Bytes)), Value.string (bs (x3.drop ((1 : Int).toNat))), Value.slice none 0 0, Value.slice none 0 0, Value.slice none 0 0, Value.int .i64 wAt, Value.int .i64 0, Value.int .i64 0], Value.bool r6])) w_15))
                    (Calls P F_ref20_Parser_pipe #[Value.pointer (some p), Value.agg #[Value.slice wWords.a wWords.len wWords.cap, Value.string (bs wHead), Value.int .i64 wAt], Value.int .i64 2] w_12 (fun (e_5 : Ending) (w_16 : World) =>
                      ∃ r7 : Sl, ∃ r8 : Bool, e_5 = Ending.returned (Value.tuple #[Value.slice r7.a r7.len r7.cap, Value.bool r8]) ∧ w_16.heap[b2]? = w_12.heap[b2]? ∧ w_16.heap[b1]? = w_12.heap[b1]? ∧ w_16.heap[b]? = w_12.heap[b]? ∧ 
                      ∀ w_17 : World, LocB [b2, b1, b] w_16 w_17 →
                      R (Ending.returned (Value.tuple #[Value.agg #[Value.int .i64 7, Value.string (bs ([] : Bytes)), Value.string (bs (x3.drop ((1 : Int).toNat))), Value.slice r7.a r7.len r7.cap, Value.slice none 0 0, Value.slice none 0 0, Value.int .i64 wAt, Value.int .i64 0, Value.int .i64 0], Value.bool r8])) w_17))))
                (∀ w_18 : World, LocB [b2, b1, b] w_1 w_18 →
                Calls P F_ref20_Parser_pipe #[Value.pointer (some p), Value.agg #[Value.slice wWords.a wWords.len wWords.cap, Value.string (bs wHead), Value.int .i64 wAt], Value.int .i64 0] w_18 (fun (e_6 : Ending) (w_19 : World) =>
                  ∃ r9 : Sl, ∃ r10 : Bool, e_6 = Ending.returned (Value.tuple #[Value.slice r9.a r9.len r9.cap, Value.bool r10]) ∧ w_19.heap[b2]? = w_18.heap[b2]? ∧ w_19.heap[b1]? = w_18.heap[b1]? ∧ w_19.heap[b]? = w_18.heap[b]? ∧ 
                  ∀ w_20 : World, LocB [b2, b1, b] w_19 w_20 →
                  R (Ending.returned (Value.tuple #[Value.agg #[Value.int .i64 2, Value.string (bs ([] : Bytes)), Value.string (bs ([] : Bytes)), Value.slice r9.a r9.len r9.cap, Value.slice none 0 0, Value.slice none 0 0, Value.int .i64 wAt, Value.int .i64 0, Value.int .i64 0], Value.bool r10])) w_20)))
              (∀ w_21 : World, LocB [b2, b1, b] w_1 w_21 →
              Calls P F_ref20_Parser_pipe #[Value.pointer (some p), Value.agg #[Value.slice wWords.a wWords.len wWords.cap, Value.string (bs wHead), Value.int .i64 wAt], Value.int .i64 0] w_21 (fun (e_7 : Ending) (w_22 : World) =>
                ∃ r11 : Sl, ∃ r12 : Bool, e_7 = Ending.returned (Value.tuple #[Value.slice r11.a r11.len r11.cap, Value.bool r12]) ∧ w_22.heap[b2]? = w_21.heap[b2]? ∧ w_22.heap[b1]? = w_21.heap[b1]? ∧ w_22.heap[b]? = w_21.heap[b]? ∧ 
                ∀ w_23 : World, LocB [b2, b1, b] w_22 w_23 →
                R (Ending.returned (Value.tuple #[Value.agg #[Value.int .i64 2, Value.string (bs ([] : Bytes)), Value.string (bs ([] : Bytes)), Value.slice r11.a r11.len r11.cap, Value.slice none 0 0, Value.slice none 0 0, Value.int .i64 wAt, Value.int .i64 0, Value.int .i64 0], Value.bool r12])) w_23)))
            (∀ w_24 : World, LocB [b2, b1, b] w_1 w_24 →
            Calls P F_ref20_Parser_pipe #[Value.pointer (some p), Value.agg #[Value.slice wWords.a wWords.len wWords.cap, Value.string (bs wHead), Value.int .i64 wAt], Value.int .i64 0] w_24 (fun (e_8 : Ending) (w_25 : World) =>
              ∃ r13 : Sl, ∃ r14 : Bool, e_8 = Ending.returned (Value.tuple #[Value.slice r13.a r13.len r13.cap, Value.bool r14]) ∧ w_25.heap[b2]? = w_24.heap[b2]? ∧ w_25.heap[b1]? = w_24.heap[b1]? ∧ w_25.heap[b]? = w_24.heap[b]? ∧ 
              ∀ w_26 : World, LocB [b2, b1, b] w_25 w_26 →
              R (Ending.returned (Value.tuple #[Value.agg #[Value.int .i64 2, Value.string (bs ([] : Bytes)), Value.string (bs ([] : Bytes)), Value.slice r13.a r13.len r13.cap, Value.slice none 0 0, Value.slice none 0 0, Value.int .i64 wAt, Value.int .i64 0, Value.int .i64 0], Value.bool r14])) w_26)))
          (∀ w_27 : World, LocB [b2, b1, b] w_1 w_27 →
          Calls P F_ref20_Parser_pipe #[Value.pointer (some p), Value.agg #[Value.slice wWords.a wWords.len wWords.cap, Value.string (bs wHead), Value.int .i64 wAt], Value.int .i64 0] w_27 (fun (e_9 : Ending) (w_28 : World) =>
            ∃ r15 : Sl, ∃ r16 : Bool, e_9 = Ending.returned (Value.tuple #[Value.slice r15.a r15.len r15.cap, Value.bool r16]) ∧ w_28.heap[b2]? = w_27.heap[b2]? ∧ w_28.heap[b1]? = w_27.heap[b1]? ∧ w_28.heap[b]? = w_27.heap[b]? ∧ 
            ∀ w_29 : World, LocB [b2, b1, b] w_28 w_29 →
            R (Ending.returned (Value.tuple #[Value.agg #[Value.int .i64 2, Value.string (bs ([] : Bytes)), Value.string (bs ([] : Bytes)), Value.slice r15.a r15.len r15.cap, Value.slice none 0 0, Value.slice none 0 0, Value.int .i64 wAt, Value.int .i64 0, Value.int .i64 0], Value.bool r16])) w_29)))))
theorem eq_ref20_Parser_single (p : Addr) (wWords : Sl) (wHead : Bytes) (wAt : Int) (w : World) (R : Ending → World → Prop) : vc_ref20_Parser_single p wWords wHead wAt w R = vc (bodyOf D_ref20_Parser_single) (cx0 P D_ref20_Parser_single an_ref20_Parser_single) 0 (st0 [Value.pointer (some p), Value.agg #[Value.slice wWords.a wWords.len wWords.cap, Value.string (bs wHead), Value.int .i64 wAt]] w) (vEnd (cx0 P D_ref20_Parser_single an_ref20_Parser_single) D_ref20_Parser_single R) := by kernel_rfl
theorem ok_ref20_Parser_single (p : Addr) (wWords : Sl) (wHead : Bytes) (wAt : Int) {w : World} {R : Ending → World → Prop} (h : vc_ref20_Parser_single p wWords wHead wAt w R) : Calls P F_ref20_Parser_single #[Value.pointer (some p), Value.agg #[Value.slice wWords.a wWords.len wWords.cap, Value.string (bs wHead), Value.int .i64 wAt]] w R :=
  calls_of_vc (P := P) (f := F_ref20_Parser_single) (fn := D_ref20_Parser_single) (c := bodyOf D_ref20_Parser_single) (args := [Value.pointer (some p), Value.agg #[Value.slice wWords.a wWords.len wWords.cap, Value.string (bs wHead), Value.int .i64 wAt]]) (R := R) (w := w) an_ref20_Parser_single Try.func28 (bodyOf_some (by kernel_rfl)) (by kernel_rfl) (by rw [← eq_ref20_Parser_single p wWords wHead wAt w R]; exact h)
def an_pipes_Check : Ann := { boxes := [(4, 100)], loops := [(0, [(15, Value.int .i64 0)], [2, 3, 4, 16, 17, 18, 19, 20, 21, 22, 23, 24, 25, 100, 101])], cuts := [(3, [], [2, 5, 6, 7, 8, 9, 10, 11, 12])], pans := [11, 13, 14, 15, 31], draws := [] }
def vc_pipes_Check (l : Sl) (w : World) (R : Ending → World → Prop) : Prop :=
  ∃ J : World → Prop,
    (br (decide (((l.len : Nat) : Int) < 1))
      (R (Ending.returned (Value.int .i64 9)) w)
      (br (decide ((16 : Int) < ((l.len : Nat) : Int)))
        (R (Ending.returned (Value.int .i64 9)) w)
        (J w))) ∧
  ∀ w_ : World, J w_ →
  ∃ (J1 : Int → Nat → World → Prop) (n₀ : Nat), J1 (0 : Int) n₀ w_ ∧
  ∀ t15 : Int, ∀ (n : Nat) (w_1 : World), J1 t15 n w_1 →
  br (decide (t15 < ((l.len : Nat) : Int)))
    ((0 : Int) ≤ t15 ∧ t15 < ((l.len : Nat) : Int) ∧ ∃ a : Addr, l.a = some a ∧
    ∃ Name : Bytes, ∃ Args : Sl, CellsAt w_1 (a.add (t15.toNat * 2)) [Value.string (bs Name), Value.slice Args.a Args.len Args.cap] ∧
    ∀ b : Nat, w_1.heap.size ≤ b →
    ∀ w_2 : World, LocB [b] w_1 w_2 →
    Calls P F_pipes_callMay #[Value.agg #[Value.string (bs Name), Value.slice Args.a Args.len Args.cap], Value.bool (decide ((0 : Int) < t15))] w_2 (fun (e_ : Ending) (w_3 : World) =>
      ∃ r : Bool, e_ = Ending.returned (Value.bool r) ∧ w_3.heap[b]? = w_2.heap[b]? ∧ 
      br (!r)
        (R (Ending.returned (Value.int .i64 9)) w_3)
        (InI64 (t15 + 1) ∧
        ∃ m : Nat, m < n ∧ J1 (t15 + 1) m w_3)))
    (R (Ending.returned (Value.int .i64 0)) w_1)
theorem eq_pipes_Check (l : Sl) (w : World) (R : Ending → World → Prop) : vc_pipes_Check l w R = vc (bodyOf D_pipes_Check) (cx0 P D_pipes_Check an_pipes_Check) 0 (st0 [Value.slice l.a l.len l.cap] w) (vEnd (cx0 P D_pipes_Check an_pipes_Check) D_pipes_Check R) := by kernel_rfl
theorem ok_pipes_Check (l : Sl) {w : World} {R : Ending → World → Prop} (h : vc_pipes_Check l w R) : Calls P F_pipes_Check #[Value.slice l.a l.len l.cap] w R :=
  calls_of_vc (P := P) (f := F_pipes_Check) (fn := D_pipes_Check) (c := bodyOf D_pipes_Check) (args := [Value.slice l.a l.len l.cap]) (R := R) (w := w) an_pipes_Check Try.func29 (bodyOf_some (by kernel_rfl)) (by kernel_rfl) (by rw [← eq_pipes_Check l w R]; exact h)
def an_slices_Clip_string : Ann := { boxes := [], loops := [], cuts := [], pans := [11, 13, 14, 15, 31], draws := [] }
def vc_slices_Clip_string (s : Sl) (w : World) (R : Ending → World → Prop) : Prop :=
  (0 : Int) ≤ ((s.len : Nat) : Int) ∧ ((s.len : Nat) : Int) ≤ ((s.len : Nat) : Int) ∧ ((s.len : Nat) : Int) ≤ ((s.cap : Nat) : Int) ∧
  R (Ending.returned (Value.slice s.a (((s.len : Nat) : Int).toNat) (((s.len : Nat) : Int).toNat))) w
theorem eq_slices_Clip_string (s : Sl) (w : World) (R : Ending → World → Prop) : vc_slices_Clip_string s w R = vc (bodyOf D_slices_Clip_string) (cx0 P D_slices_Clip_string an_slices_Clip_string) 0 (st0 [Value.slice s.a s.len s.cap] w) (vEnd (cx0 P D_slices_Clip_string an_slices_Clip_string) D_slices_Clip_string R) := by kernel_rfl
theorem ok_slices_Clip_string (s : Sl) {w : World} {R : Ending → World → Prop} (h : vc_slices_Clip_string s w R) : Calls P F_slices_Clip_string #[Value.slice s.a s.len s.cap] w R :=
  calls_of_vc (P := P) (f := F_slices_Clip_string) (fn := D_slices_Clip_string) (c := bodyOf D_slices_Clip_string) (args := [Value.slice s.a s.len s.cap]) (R := R) (w := w) an_slices_Clip_string Try.func30 (bodyOf_some (by kernel_rfl)) (by kernel_rfl) (by rw [← eq_slices_Clip_string s w R]; exact h)
def an_check_pipe : Ann := { boxes := [(2, 100), (5, 109), (7, 111)], loops := [(0, [(11, Value.int .i64 0)], [5, 7, 12, 13, 14, 15, 16, 17, 18, 19, 20, 21, 22, 23, 24, 25, 26, 27, 28, 29, 30, 31, 32, 33, 34, 35, 36, 37, 38, 39, 40, 109, 110, 111, 112, 113, 114, 115]), (2, [(18, Value.int .i64 0)], [7, 19, 20, 21, 22, 23, 24, 25, 26, 27, 28, 29, 30, 31, 32, 33, 34, 35, 36, 37, 38, 39, 111, 112, 113, 114, 115])], cuts := [], pans := [11, 13, 14, 15, 31], draws := [(7, [0, 1, 2, 3, 4, 5, 6, 7, 8, 9, 10, 11, 14, 15, 12, 13, 16], [.t, .bl 111, .t, .t, .t, .bl 111, .t, .t, .t, .t, .t, .bl 111, .e, .t, .t, .bl 100, .e])] }
def vc_check_pipe (nKind : Int) (nText : Bytes) (nName : Bytes) (nPipe : Sl) (nBody : Sl) (nElse : Sl) (nAt : Int) (nEsc : Int) (nUnit : Int) (vars : Sl) (w : World) (R : Ending → World → Prop) : Prop :=
  ∀ b : Nat, w.heap.size ≤ b →
  ∀ w_ : World, LocB [b] w w_ →
  ∃ (J : Int → Nat → World → Prop) (n₀ : Nat), J (0 : Int) n₀ w_ ∧
  ∀ t11 : Int, ∀ (n : Nat) (w_1 : World), J t11 n w_1 →
  br (decide (t11 < ((nPipe.len : Nat) : Int)))
    ((0 : Int) ≤ t11 ∧ t11 < ((nPipe.len : Nat) : Int) ∧ ∃ a : Addr, nPipe.a = some a ∧
    ∃ Name : Bytes, ∃ Args : Sl, CellsAt w_1 (a.add (t11.toNat * 2)) [Value.string (bs Name), Value.slice Args.a Args.len Args.cap] ∧
    ∀ b1 : Nat, w_1.heap.size ≤ b1 →
    ∀ w_2 : World, LocB [b1, b] w_1 w_2 →
    ∃ (J1 : Int → Nat → World → Prop) (n₀1 : Nat), J1 (0 : Int) n₀1 w_2 ∧
    ∀ t18 : Int, ∀ (n1 : Nat) (w_3 : World), J1 t18 n1 w_3 →
    br (decide (t18 < ((Args.len : Nat) : Int)))
      ((0 : Int) ≤ t18 ∧ t18 < ((Args.len : Nat) : Int) ∧ ∃ a1 : Addr, Args.a = some a1 ∧
      ∃ Kind : Int, ∃ Name1 : Bytes, ∃ Path : Sl, ∃ Int : Int, ∃ Text : Bytes, CellsAt w_3 (a1.add (t18.toNat * 5)) [Value.int .i64 Kind, Value.string (bs Name1), Value.slice Path.a Path.len Path.cap, Value.int .i64 Int, Value.string (bs Text)] ∧
      ∀ b2 : Nat, w_3.heap.size ≤ b2 →
      ∀ w_4 : World, LocB [b2, b1, b] w_3 w_4 →
      br (!decide (Kind = 2))
        (Calls P F_check_need #[Value.bool true, Value.int .i64 nAt, Value.int .i64 31] w_4 (fun (e_ : Ending) (w_5 : World) =>
          (e_ = Ending.returned (Value.tuple #[]) ∧ w_5.heap[b2]? = w_4.heap[b2]? ∧ w_5.heap[b1]? = w_4.heap[b1]? ∧ w_5.heap[b]? = w_4.heap[b]? ∧ 
          InI64 (t18 + 1) ∧
          ∃ m : Nat, m < n1 ∧ J1 (t18 + 1) m w_5) ∨
          ∃ ch : List PanicEntry, e_ = Ending.panicked ch ∧ R (Ending.panicked ch) w_5))
        (br (decide (Name1 = ([] : Bytes)))
          (Calls P F_check_need #[Value.bool true, Value.int .i64 nAt, Value.int .i64 31] w_4 (fun (e_1 : Ending) (w_6 : World) =>
            (e_1 = Ending.returned (Value.tuple #[]) ∧ w_6.heap[b2]? = w_4.heap[b2]? ∧ w_6.heap[b1]? = w_4.heap[b1]? ∧ w_6.heap[b]? = w_4.heap[b]? ∧ 
            InI64 (t18 + 1) ∧
            ∃ m1 : Nat, m1 < n1 ∧ J1 (t18 + 1) m1 w_6) ∨
            ∃ ch1 : List PanicEntry, e_1 = Ending.panicked ch1 ∧ R (Ending.panicked ch1) w_6))
          (Calls P F_slices_Contains_string #[Value.slice vars.a vars.len vars.cap, Value.string (bs Name1)] w_4 (fun (e_2 : Ending) (w_7 : World) =>
            ∃ r : Bool, e_2 = Ending.returned (Value.bool r) ∧ w_7.heap[b2]? = w_4.heap[b2]? ∧ w_7.heap[b1]? = w_4.heap[b1]? ∧ w_7.heap[b]? = w_4.heap[b]? ∧ 
            Calls P F_check_need #[Value.bool r, Value.int .i64 nAt, Value.int .i64 31] w_7 (fun (e_3 : Ending) (w_8 : World) =>
              (e_3 = Ending.returned (Value.tuple #[]) ∧ w_8.heap[b2]? = w_7.heap[b2]? ∧ w_8.heap[b1]? = w_7.heap[b1]? ∧ w_8.heap[b]? = w_7.heap[b]? ∧ 
              InI64 (t18 + 1) ∧
              ∃ m2 : Nat, m2 < n1 ∧ J1 (t18 + 1) m2 w_8) ∨
              ∃ ch2 : List PanicEntry, e_3 = Ending.panicked ch2 ∧ R (Ending.panicked ch2) w_8)))))
      (InI64 (t11 + 1) ∧
      ∃ m3 : Nat, m3 < n ∧ J (t11 + 1) m3 w_3))
    (R (Ending.returned (Value.tuple #[])) w_1)
theorem eq_check_pipe (nKind : Int) (nText : Bytes) (nName : Bytes) (nPipe : Sl) (nBody : Sl) (nElse : Sl) (nAt : Int) (nEsc : Int) (nUnit : Int) (vars : Sl) (w : World) (R : Ending → World → Prop) : vc_check_pipe nKind nText nName nPipe nBody nElse nAt nEsc nUnit vars w R = vc (bodyOf D_check_pipe) (cx0 P D_check_pipe an_check_pipe) 0 (st0 [Value.agg #[Value.int .i64 nKind, Value.string (bs nText), Value.string (bs nName), Value.slice nPipe.a nPipe.len nPipe.cap, Value.slice nBody.a nBody.len nBody.cap, Value.slice nElse.a nElse.len nElse.cap, Value.int .i64 nAt, Value.int .i64 nEsc, Value.int .i64 nUnit], Value.slice vars.a vars.len vars.cap] w) (vEnd (cx0 P D_check_pipe an_check_pipe) D_check_pipe R) := by kernel_rfl
theorem ok_check_pipe (nKind : Int) (nText : Bytes) (nName : Bytes) (nPipe : Sl) (nBody : Sl) (nElse : Sl) (nAt : Int) (nEsc : Int) (nUnit : Int) (vars : Sl) {w : World} {R : Ending → World → Prop} (h : vc_check_pipe nKind nText nName nPipe nBody nElse nAt nEsc nUnit vars w R) : Calls P F_check_pipe #[Value.agg #[Value.int .i64 nKind, Value.string (bs nText), Value.string (bs nName), Value.slice nPipe.a nPipe.len nPipe.cap, Value.slice nBody.a nBody.len nBody.cap, Value.slice nElse.a nElse.len nElse.cap, Value.int .i64 nAt, Value.int .i64 nEsc, Value.int .i64 nUnit], Value.slice vars.a vars.len vars.cap] w R :=
  calls_of_vc (P := P) (f := F_check_pipe) (fn := D_check_pipe) (c := bodyOf D_check_pipe) (args := [Value.agg #[Value.int .i64 nKind, Value.string (bs nText), Value.string (bs nName), Value.slice nPipe.a nPipe.len nPipe.cap, Value.slice nBody.a nBody.len nBody.cap, Value.slice nElse.a nElse.len nElse.cap, Value.int .i64 nAt, Value.int .i64 nEsc, Value.int .i64 nUnit], Value.slice vars.a vars.len vars.cap]) (R := R) (w := w) an_check_pipe Try.func31 (bodyOf_some (by kernel_rfl)) (by kernel_rfl) (by rw [← eq_check_pipe nKind nText nName nPipe nBody nElse nAt nEsc nUnit vars w R]; exact h)
def an_slices_ContainsFunc_api_Def : Ann := { boxes := [], loops := [], cuts := [], pans := [11, 13, 14, 15, 31], draws := [] }
def vc_slices_ContainsFunc_api_Def (s : Sl) (g : FuncId) (fi ca : Array Value) (w : World) (R : Ending → World → Prop) : Prop :=
  Calls P F_slices_IndexFunc_api_Def #[Value.slice s.a s.len s.cap, Value.func (.func g) fi ca] w (fun (e_ : Ending) (w_ : World) =>
    ∃ r : Int, e_ = Ending.returned (Value.int .i64 r) ∧ 
    R (Ending.returned (Value.bool (decide ((0 : Int) ≤ r)))) w_)
theorem eq_slices_ContainsFunc_api_Def (s : Sl) (g : FuncId) (fi ca : Array Value) (w : World) (R : Ending → World → Prop) : vc_slices_ContainsFunc_api_Def s  g   fi ca  w R = vc (bodyOf D_slices_ContainsFunc_api_Def) (cx0 P D_slices_ContainsFunc_api_Def an_slices_ContainsFunc_api_Def) 0 (st0 [Value.slice s.a s.len s.cap, Value.func (.func g) fi ca] w) (vEnd (cx0 P D_slices_ContainsFunc_api_Def an_slices_ContainsFunc_api_Def) D_slices_ContainsFunc_api_Def R) := by kernel_rfl
theorem ok_slices_ContainsFunc_api_Def (s : Sl) (g : FuncId) (fi ca : Array Value) {w : World} {R : Ending → World → Prop} (h : vc_slices_ContainsFunc_api_Def s  g   fi ca  w R) : Calls P F_slices_ContainsFunc_api_Def #[Value.slice s.a s.len s.cap, Value.func (.func g) fi ca] w R :=
  calls_of_vc (P := P) (f := F_slices_ContainsFunc_api_Def) (fn := D_slices_ContainsFunc_api_Def) (c := bodyOf D_slices_ContainsFunc_api_Def) (args := [Value.slice s.a s.len s.cap, Value.func (.func g) fi ca]) (R := R) (w := w) an_slices_ContainsFunc_api_Def Try.func32 (bodyOf_some (by kernel_rfl)) (by kernel_rfl) (by rw [← eq_slices_ContainsFunc_api_Def s  g   fi ca  w R]; exact h)
def an_check_looker_nodes_1 : Ann := { boxes := [(2, 100)], loops := [], cuts := [], pans := [11, 13, 14, 15, 31], draws := [] }
def vc_check_looker_nodes_1 (dName : Bytes) (dBody : Sl) (c0 : Addr) (w : World) (R : Ending → World → Prop) : Prop :=
  ∀ b : Nat, w.heap.size ≤ b →
  ∀ w_ : World, LocB [b] w w_ →
  ∃ x : Bytes, CellsAt w_ (c0.add 2) [Value.string (bs x)] ∧
  R (Ending.returned (Value.bool (decide (dName = x)))) w_
theorem eq_check_looker_nodes_1 (dName : Bytes) (dBody : Sl) (c0 : Addr) (w : World) (R : Ending → World → Prop) : vc_check_looker_nodes_1 dName dBody c0 w R = vc (bodyOf D_check_looker_nodes_1) (cx0 P D_check_looker_nodes_1 an_check_looker_nodes_1) 0 (st0 [Value.agg #[Value.string (bs dName), Value.slice dBody.a dBody.len dBody.cap], Value.pointer (some c0)] w) (vEnd (cx0 P D_check_looker_nodes_1 an_check_looker_nodes_1) D_check_looker_nodes_1 R) := by kernel_rfl
theorem ok_check_looker_nodes_1 (dName : Bytes) (dBody : Sl) (c0 : Addr) {w : World} {R : Ending → World → Prop} (h : vc_check_looker_nodes_1 dName dBody c0 w R) : Calls P F_check_looker_nodes_1 #[Value.agg #[Value.string (bs dName), Value.slice dBody.a dBody.len dBody.cap], Value.pointer (some c0)] w R :=
  calls_of_vc (P := P) (f := F_check_looker_nodes_1) (fn := D_check_looker_nodes_1) (c := bodyOf D_check_looker_nodes_1) (args := [Value.agg #[Value.string (bs dName), Value.slice dBody.a dBody.len dBody.cap], Value.pointer (some c0)]) (R := R) (w := w) an_check_looker_nodes_1 Try.func33 (bodyOf_some (by kernel_rfl)) (by kernel_rfl) (by rw [← eq_check_looker_nodes_1 dName dBody c0 w R]; exact h)
def an_ref18_Words : Ann := { boxes := [(9, 100), (39, 103)], loops := [(0, [(7, Value.slice none 0 0), (8, Value.int .i64 0)], [4, 5, 6, 9, 10, 11, 12, 15, 16, 17, 18, 19, 20, 21, 22, 23, 24, 25, 26, 27, 28, 29, 30, 31, 32, 33, 34, 35, 36, 37, 38, 39, 40, 41, 42, 43, 100, 101, 102, 103, 104, 105])], cuts := [], pans := [11, 13, 14, 15, 31], draws := [] }
def vc_ref18_Words (s : Bytes) (base : Int) (w : World) (R : Ending → World → Prop) : Prop :=
  Calls P F_ref18_skip #[Value.string (bs s), Value.int .i64 0] w (fun (e_ : Ending) (w_ : World) =>
    ∃ r : Int, e_ = Ending.returned (Value.int .i64 r) ∧ 
    ∃ (J : Sl → Int → Nat → World → Prop) (n₀ : Nat), J ⟨none, 0, 0⟩ r n₀ w_ ∧
    ∀ out : Sl, ∀ at_ : Int, ∀ (n : Nat) (w_1 : World), J out at_ n w_1 →
    br (decide (at_ < (s.length : Int)))
      (Calls P F_ref18_word #[Value.string (bs s), Value.int .i64 at_] w_1 (fun (e_1 : Ending) (w_2 : World) =>
        ∃ r1 : Int, ∃ r2 : Bytes, ∃ r3 : Int, ∃ r4 : Int, ∃ r5 : Int, ∃ r6 : Int, e_1 = Ending.returned (Value.tuple #[Value.agg #[Value.int .i64 r1, Value.string (bs r2), Value.int .i64 r3], Value.int .i64 r4, Value.int .i64 r5, Value.int .i64 r6]) ∧ 
        ∀ b : Nat, w_2.heap.size ≤ b →
        br (!decide (r5 = 0))
          (InI64 (base + r6) ∧
          ∀ w_3 : World, LocB [b] w_2 w_3 →
          R (Ending.returned (Value.tuple #[Value.slice none 0 0, Value.int .i64 (base + r6), Value.int .i64 r5])) w_3)
          (InI64 (base + at_) ∧
          ∀ b1 : Nat, w_2.heap.size ≤ b1 →
          ∀ w_4 : World, LocB [b1, b] w_2 w_4 →
          ∃ old : List Value, AppPre w_4 out 3 32 1 old ∧ (∀ ad, out.a = some ad → ad.block ≠ b1) ∧ (∀ ad, out.a = some ad → ad.block ≠ b) ∧ 
          ∀ (s1 : Sl) (w_5 : World), AppRes w_4 out 3 T_ref18_Word [Value.int .i64 r1, Value.string (bs r2), Value.int .i64 (base + at_)] 1 old s1 w_5 →
          Calls P F_ref18_skip #[Value.string (bs s), Value.int .i64 r4] w_5 (fun (e_2 : Ending) (w_6 : World) =>
            ∃ r7 : Int, e_2 = Ending.returned (Value.int .i64 r7) ∧ w_6.heap[b1]? = w_5.heap[b1]? ∧ w_6.heap[b]? = w_5.heap[b]? ∧ 
            ∃ m : Nat, m < n ∧ J s1 r7 m w_6))))
      (R (Ending.returned (Value.tuple #[Value.slice out.a out.len out.cap, Value.int .i64 base, Value.int .i64 0])) w_1))
theorem eq_ref18_Words (s : Bytes) (base : Int) (w : World) (R : Ending → World → Prop) : vc_ref18_Words s base w R = vc (bodyOf D_ref18_Words) (cx0 P D_ref18_Words an_ref18_Words) 0 (st0 [Value.string (bs s), Value.int .i64 base] w) (vEnd (cx0 P D_ref18_Words an_ref18_Words) D_ref18_Words R) := by kernel_rfl
theorem ok_ref18_Words (s : Bytes) (base : Int) {w : World} {R : Ending → World → Prop} (h : vc_ref18_Words s base w R) : Calls P F_ref18_Words #[Value.string (bs s), Value.int .i64 base] w R :=
  calls_of_vc (P := P) (f := F_ref18_Words) (fn := D_ref18_Words) (c := bodyOf D_ref18_Words) (args := [Value.string (bs s), Value.int .i64 base]) (R := R) (w := w) an_ref18_Words Try.func34 (bodyOf_some (by kernel_rfl)) (by kernel_rfl) (by rw [← eq_ref18_Words s base w R]; exact h)
def an_ref20_Parser_called : Ann := { boxes := [(3, 100)], loops := [], cuts := [(3, [], [4, 5, 6, 7, 8, 9, 10, 11, 12, 13, 14, 15, 16, 17, 18, 19, 20, 21])], pans := [11, 13, 14, 15, 31], draws := [] }
def vc_ref20_Parser_called (p : Addr) (wWords : Sl) (wHead : Bytes) (wAt : Int) (w : World) (R : Ending → World → Prop) : Prop :=
  ∀ b : Nat, w.heap.size ≤ b →
  ∃ J : World → Prop,
    (br (decide (((wWords.len : Nat) : Int) < 2))
      (∀ w_ : World, LocB [b] w w_ →
      Calls P F_ref20_Parser_fail #[Value.pointer (some p), Value.int .i64 wAt, Value.int .i64 33] w_ (fun (e_ : Ending) (w_1 : World) =>
        ∃ r : Bool, e_ = Ending.returned (Value.bool r) ∧ w_1.heap[b]? = w_.heap[b]? ∧ 
        R (Ending.returned (Value.tuple #[Value.string (bs ([] : Bytes)), Value.bool r])) w_1))
      ((0 : Int) ≤ 1 ∧ (1 : Int) < ((wWords.len : Nat) : Int) ∧ ∃ a : Addr, wWords.a = some a ∧
      ∀ w_2 : World, LocB [b] w w_2 →
      ∃ x : Int, CellsAt w_2 (a.add ((1 : Int).toNat * 3)) [Value.int .i64 x] ∧
      br (!decide (x = 5))
        (Calls P F_ref20_Parser_fail #[Value.pointer (some p), Value.int .i64 wAt, Value.int .i64 33] w_2 (fun (e_1 : Ending) (w_3 : World) =>
          ∃ r1 : Bool, e_1 = Ending.returned (Value.bool r1) ∧ w_3.heap[b]? = w_2.heap[b]? ∧ 
          R (Ending.returned (Value.tuple #[Value.string (bs ([] : Bytes)), Value.bool r1])) w_3))
        (J w_2))) ∧
  ∀ w_4 : World, J w_4 →
  (0 : Int) ≤ 1 ∧ (1 : Int) < ((wWords.len : Nat) : Int) ∧ ∃ a1 : Addr, wWords.a = some a1 ∧
  ∃ x1 : Bytes, CellsAt w_4 ((a1.add ((1 : Int).toNat * 3)).add 1) [Value.string (bs x1)] ∧
  Calls P F_ref01_Name #[Value.string (bs x1)] w_4 (fun (e_2 : Ending) (w_5 : World) =>
    ∃ r2 : Bool, e_2 = Ending.returned (Value.bool r2) ∧ w_5.heap[b]? = w_4.heap[b]? ∧ 
    br (!r2)
      (Calls P F_ref20_Parser_fail #[Value.pointer (some p), Value.int .i64 wAt, Value.int .i64 31] w_5 (fun (e_3 : Ending) (w_6 : World) =>
        ∃ r3 : Bool, e_3 = Ending.returned (Value.bool r3) ∧ w_6.heap[b]? = w_5.heap[b]? ∧ 
        R (Ending.returned (Value.tuple #[Value.string (bs ([] : Bytes)), Value.bool r3])) w_6))
      ((0 : Int) ≤ 1 ∧ (1 : Int) < ((wWords.len : Nat) : Int) ∧ ∃ a2 : Addr, wWords.a = some a2 ∧
      ∃ x2 : Bytes, CellsAt w_5 ((a2.add ((1 : Int).toNat * 3)).add 1) [Value.string (bs x2)] ∧
      R (Ending.returned (Value.tuple #[Value.string (bs x2), Value.bool true])) w_5))
theorem eq_ref20_Parser_called (p : Addr) (wWords : Sl) (wHead : Bytes) (wAt : Int) (w : World) (R : Ending → World → Prop) : vc_ref20_Parser_called p wWords wHead wAt w R = vc (bodyOf D_ref20_Parser_called) (cx0 P D_ref20_Parser_called an_ref20_Parser_called) 0 (st0 [Value.pointer (some p), Value.agg #[Value.slice wWords.a wWords.len wWords.cap, Value.string (bs wHead), Value.int .i64 wAt]] w) (vEnd (cx0 P D_ref20_Parser_called an_ref20_Parser_called) D_ref20_Parser_called R) := by kernel_rfl
theorem ok_ref20_Parser_called (p : Addr) (wWords : Sl) (wHead : Bytes) (wAt : Int) {w : World} {R : Ending → World → Prop} (h : vc_ref20_Parser_called p wWords wHead wAt w R) : Calls P F_ref20_Parser_called #[Value.pointer (some p), Value.agg #[Value.slice wWords.a wWords.len wWords.cap, Value.string (bs wHead), Value.int .i64 wAt]] w R :=
  calls_of_vc (P := P) (f := F_ref20_Parser_called) (fn := D_ref20_Parser_called) (c := bodyOf D_ref20_Parser_called) (args := [Value.pointer (some p), Value.agg #[Value.slice wWords.a wWords.len wWords.cap, Value.string (bs wHead), Value.int .i64 wAt]]) (R := R) (w := w) an_ref20_Parser_called Try.func35 (bodyOf_some (by kernel_rfl)) (by kernel_rfl) (by rw [← eq_ref20_Parser_called p wWords wHead wAt w R]; exact h)
def an_ref20_Parser_pipe : Ann := { boxes := [(4, 100)], loops := [], cuts := [], pans := [11, 13, 14, 15, 31], draws := [(1, [0, 1, 2, 3, 4, 5, 6, 7, 8, 9, 10, 11, 12, 13], [.t, .bl 100, .t, .t, .t, .bl 100, .e, .t, .t, .t, .t, .t, .t, .t])] }
def vc_ref20_Parser_pipe (p : Addr) (wWords : Sl) (wHead : Bytes) (wAt : Int) (from_ : Int) (w : World) (R : Ending → World → Prop) : Prop :=
  ∀ b : Nat, w.heap.size ≤ b →
  ∀ w_ : World, LocB [b] w w_ →
  (0 : Int) ≤ from_ ∧ from_ ≤ ((wWords.len : Nat) : Int) ∧
  Calls P F_ref19_Parse #[Value.slice (cutA wWords.a from_.toNat wWords.cap 3) (wWords.len - from_.toNat) (wWords.cap - from_.toNat), Value.int .i64 wAt] w_ (fun (e_ : Ending) (w_1 : World) =>
    ∃ r : Sl, ∃ r1 : Int, ∃ r2 : Int, e_ = Ending.returned (Value.tuple #[Value.slice r.a r.len r.cap, Value.int .i64 r1, Value.int .i64 r2]) ∧ w_1.heap[b]? = w_.heap[b]? ∧ 
    br (!decide (r2 = 0))
      (Calls P F_ref20_Parser_fail #[Value.pointer (some p), Value.int .i64 r1, Value.int .i64 r2] w_1 (fun (e_1 : Ending) (w_2 : World) =>
        ∃ r3 : Bool, e_1 = Ending.returned (Value.bool r3) ∧ w_2.heap[b]? = w_1.heap[b]? ∧ 
        R (Ending.returned (Value.tuple #[Value.slice none 0 0, Value.bool r3])) w_2))
      (R (Ending.returned (Value.tuple #[Value.slice r.a r.len r.cap, Value.bool true])) w_1))
theorem eq_ref20_Parser_pipe (p : Addr) (wWords : Sl) (wHead : Bytes) (wAt : Int) (from_ : Int) (w : World) (R : Ending → World → Prop) : vc_ref20_Parser_pipe p wWords wHead wAt from_ w R = vc (bodyOf D_ref20_Parser_pipe) (cx0 P D_ref20_Parser_pipe an_ref20_Parser_pipe) 0 (st0 [Value.pointer (some p), Value.agg #[Value.slice wWords.a wWords.len wWords.cap, Value.string (bs wHead), Value.int .i64 wAt], Value.int .i64 from_] w) (vEnd (cx0 P D_ref20_Parser_pipe an_ref20_Parser_pipe) D_ref20_Parser_pipe R) := by kernel_rfl
theorem ok_ref20_Parser_pipe (p : Addr) (wWords : Sl) (wHead : Bytes) (wAt : Int) (from_ : Int) {w : World} {R : Ending → World → Prop} (h : vc_ref20_Parser_pipe p wWords wHead wAt from_ w R) : Calls P F_ref20_Parser_pipe #[Value.pointer (some p), Value.agg #[Value.slice wWords.a wWords.len wWords.cap, Value.string (bs wHead), Value.int .i64 wAt], Value.int .i64 from_] w R :=
  calls_of_vc (P := P) (f := F_ref20_Parser_pipe) (fn := D_ref20_Parser_pipe) (c := bodyOf D_ref20_Parser_pipe) (args := [Value.pointer (some p), Value.agg #[Value.slice wWords.a wWords.len wWords.cap, Value.string (bs wHead), Value.int .i64 wAt], Value.int .i64 from_]) (R := R) (w := w) an_ref20_Parser_pipe Try.func36 (bodyOf_some (by kernel_rfl)) (by kernel_rfl) (by rw [← eq_ref20_Parser_pipe p wWords wHead wAt from_ w R]; exact h)
def an_ref01_Name : Ann := { boxes := [], loops := [(0, [(3, Value.int .i64 0)], [2, 4, 5, 6, 7, 8, 9, 10, 11, 12, 13, 14, 15, 16, 17, 18, 19, 20, 21, 22, 23, 24, 25, 26, 27, 28, 29, 30, 31])], cuts := [], pans := [11, 13, 14, 15, 31], draws := [] }
def vc_ref01_Name (s : Bytes) (w : World) (R : Ending → World → Prop) : Prop :=
  ∃ (J : Int → Nat → World → Prop) (n₀ : Nat), J (0 : Int) n₀ w ∧
  ∀ i : Int, ∀ (n : Nat) (w_ : World), J i n w_ →
  br (decide (i < (s.length : Int)))
    ((0 : Int) ≤ i ∧ i < (s.length : Int) ∧
    Calls P F_ref01_Letter #[Value.int .u8 (byteAt s i.toNat)] w_ (fun (e_ : Ending) (w_1 : World) =>
      ∃ r : Bool, e_ = Ending.returned (Value.bool r) ∧ 
      br (!r)
        ((0 : Int) ≤ i ∧ i < (s.length : Int) ∧
        br (!decide (byteAt s i.toNat = 95))
          (br (decide (i = 0))
            (R (Ending.returned (Value.bool false)) w_1)
            ((0 : Int) ≤ i ∧ i < (s.length : Int) ∧
            Calls P F_ref01_Digit #[Value.int .u8 (byteAt s i.toNat)] w_1 (fun (e_1 : Ending) (w_2 : World) =>
              ∃ r1 : Bool, e_1 = Ending.returned (Value.bool r1) ∧ 
              br (!r1)
                (R (Ending.returned (Value.bool false)) w_2)
                (InI64 (i + 1) ∧
                ∃ m : Nat, m < n ∧ J (i + 1) m w_2))))
          (InI64 (i + 1) ∧
          ∃ m1 : Nat, m1 < n ∧ J (i + 1) m1 w_1))
        (InI64 (i + 1) ∧
        ∃ m2 : Nat, m2 < n ∧ J (i + 1) m2 w_1)))
    (br (decide ((1 : Int) ≤ (s.length : Int)))
      (R (Ending.returned (Value.bool (decide ((s.length : Int) ≤ 32)))) w_)
      (R (Ending.returned (Value.bool false)) w_))
theorem eq_ref01_Name (s : Bytes) (w : World) (R : Ending → World → Prop) : vc_ref01_Name s w R = vc (bodyOf D_ref01_Name) (cx0 P D_ref01_Name an_ref01_Name) 0 (st0 [Value.string (bs s)] w) (vEnd (cx0 P D_ref01_Name an_ref01_Name) D_ref01_Name R) := by kernel_rfl
theorem ok_ref01_Name (s : Bytes) {w : World} {R : Ending → World → Prop} (h : vc_ref01_Name s w R) : Calls P F_ref01_Name #[Value.string (bs s)] w R :=
  calls_of_vc (P := P) (f := F_ref01_Name) (fn := D_ref01_Name) (c := bodyOf D_ref01_Name) (args := [Value.string (bs s)]) (R := R) (w := w) an_ref01_Name Try.func37 (bodyOf_some (by kernel_rfl)) (by kernel_rfl) (by rw [← eq_ref01_Name s w R]; exact h)
def an_pipes_callMay : Ann := { boxes := [(2, 100)], loops := [], cuts := [(9, [(8, Value.int .i64 0)], [33, 34, 35])], pans := [11, 13, 14, 15, 31], draws := [] }
def vc_pipes_callMay (cName : Bytes) (cArgs : Sl) (ahead : Bool) (w : World) (R : Ending → World → Prop) : Prop :=
  ∀ b : Nat, w.heap.size ≤ b →
  ∀ w_ : World, LocB [b] w w_ →
  Calls P F_slices_ContainsFunc_api_Arg #[Value.slice cArgs.a cArgs.len cArgs.cap, Value.func (.func F_pipes_callMay_1) #[] #[]] w_ (fun (e_ : Ending) (w_1 : World) =>
    ∃ r : Bool, e_ = Ending.returned (Value.bool r) ∧ w_1.heap[b]? = w_.heap[b]? ∧ 
    br r
      (R (Ending.returned (Value.bool false)) w_1)
      (br (decide (cName = ([] : Bytes)))
        (br (!ahead)
          (R (Ending.returned (Value.bool (decide (((cArgs.len : Nat) : Int) = 1)))) w_1)
          (R (Ending.returned (Value.bool false)) w_1))
        (Calls P F_pipes_Arity #[Value.string (bs cName)] w_1 (fun (e_1 : Ending) (w_2 : World) =>
          ∃ r1 : Int, ∃ r2 : Int, ∃ r3 : Bool, e_1 = Ending.returned (Value.tuple #[Value.int .i64 r1, Value.int .i64 r2, Value.bool r3]) ∧ w_2.heap[b]? = w_1.heap[b]? ∧ 
          ∃ J : Int → World → Prop,
            (br ahead
              (InI64 (((cArgs.len : Nat) : Int) + 1) ∧
              J (((cArgs.len : Nat) : Int) + 1) w_2)
              (J ((cArgs.len : Nat) : Int) w_2)) ∧
          ∀ n : Int, ∀ w_3 : World, J n w_3 →
          br r3
            (br (decide (r1 ≤ n))
              (R (Ending.returned (Value.bool (decide (n ≤ r2)))) w_3)
              (R (Ending.returned (Value.bool false)) w_3))
            (R (Ending.returned (Value.bool false)) w_3)))))
theorem eq_pipes_callMay (cName : Bytes) (cArgs : Sl) (ahead : Bool) (w : World) (R : Ending → World → Prop) : vc_pipes_callMay cName cArgs ahead w R = vc (bodyOf D_pipes_callMay) (cx0 P D_pipes_callMay an_pipes_callMay) 0 (st0 [Value.agg #[Value.string (bs cName), Value.slice cArgs.a cArgs.len cArgs.cap], Value.bool ahead] w) (vEnd (cx0 P D_pipes_callMay an_pipes_callMay) D_pipes_callMay R) := by kernel_rfl
theorem ok_pipes_callMay (cName : Bytes) (cArgs : Sl) (ahead : Bool) {w : World} {R : Ending → World → Prop} (h : vc_pipes_callMay cName cArgs ahead w R) : Calls P F_pipes_callMay #[Value.agg #[Value.string (bs cName), Value.slice cArgs.a cArgs.len cArgs.cap], Value.bool ahead] w R :=
  calls_of_vc (P := P) (f := F_pipes_callMay) (fn := D_pipes_callMay) (c := bodyOf D_pipes_callMay) (args := [Value.agg #[Value.string (bs cName), Value.slice cArgs.a cArgs.len cArgs.cap], Value.bool ahead]) (R := R) (w := w) an_pipes_callMay Try.func38 (bodyOf_some (by kernel_rfl)) (by kernel_rfl) (by rw [← eq_pipes_callMay cName cArgs ahead w R]; exact h)
def an_slices_Contains_string : Ann := { boxes := [], loops := [], cuts := [], pans := [11, 13, 14, 15, 31], draws := [] }
def vc_slices_Contains_string (s : Sl) (v : Bytes) (w : World) (R : Ending → World → Prop) : Prop :=
  Calls P F_slices_Index_string #[Value.slice s.a s.len s.cap, Value.string (bs v)] w (fun (e_ : Ending) (w_ : World) =>
    ∃ r : Int, e_ = Ending.returned (Value.int .i64 r) ∧ 
    R (Ending.returned (Value.bool (decide ((0 : Int) ≤ r)))) w_)
theorem eq_slices_Contains_string (s : Sl) (v : Bytes) (w : World) (R : Ending → World → Prop) : vc_slices_Contains_string s v w R = vc (bodyOf D_slices_Contains_string) (cx0 P D_slices_Contains_string an_slices_Contains_string) 0 (st0 [Value.slice s.a s.len s.cap, Value.string (bs v)] w) (vEnd (cx0 P D_slices_Contains_string an_slices_Contains_string) D_slices_Contains_string R) := by kernel_rfl
theorem ok_slices_Contains_string (s : Sl) (v : Bytes) {w : World} {R : Ending → World → Prop} (h : vc_slices_Contains_string s v w R) : Calls P F_slices_Contains_string #[Value.slice s.a s.len s.cap, Value.string (bs v)] w R :=
  calls_of_vc (P := P) (f := F_slices_Contains_string) (fn := D_slices_Contains_string) (c := bodyOf D_slices_Contains_string) (args := [Value.slice s.a s.len s.cap, Value.string (bs v)]) (R := R) (w := w) an_slices_Contains_string Try.func39 (bodyOf_some (by kernel_rfl)) (by kernel_rfl) (by rw [← eq_slices_Contains_string s v w R]; exact h)
def an_slices_IndexFunc_api_Def : Ann := { boxes := [], loops := [(0, [(8, Value.int .i64 0)], [4, 5, 9, 10, 11, 12, 13, 14, 15, 16, 17, 18])], cuts := [], pans := [11, 13, 14, 15, 31], draws := [] }
def vc_slices_IndexFunc_api_Def (s : Sl) (g : FuncId) (fi ca : Array Value) (w : World) (R : Ending → World → Prop) : Prop :=
  ∃ (J : Int → Nat → World → Prop) (n₀ : Nat), J (0 : Int) n₀ w ∧
  ∀ t8 : Int, ∀ (n : Nat) (w_ : World), J t8 n w_ →
  br (decide (t8 < ((s.len : Nat) : Int)))
    ((0 : Int) ≤ t8 ∧ t8 < ((s.len : Nat) : Int) ∧ ∃ a : Addr, s.a = some a ∧
    ∃ Name : Bytes, ∃ Body : Sl, CellsAt w_ (a.add (t8.toNat * 2)) [Value.string (bs Name), Value.slice Body.a Body.len Body.cap] ∧
    enterable P g = true ∧
    Calls P g (fi.toList ++ [Value.agg #[Value.string (bs Name), Value.slice Body.a Body.len Body.cap]] ++ ca.toList).toArray w_ (fun (e_ : Ending) (w_1 : World) =>
      ∃ r : Bool, e_ = Ending.returned (Value.bool r) ∧ 
      br r
        (R (Ending.returned (Value.int .i64 t8)) w_1)
        (InI64 (t8 + 1) ∧
        ∃ m : Nat, m < n ∧ J (t8 + 1) m w_1)))
    (R (Ending.returned (Value.int .i64 (-1))) w_)
theorem eq_slices_IndexFunc_api_Def (s : Sl) (g : FuncId) (fi ca : Array Value) (w : World) (R : Ending → World → Prop) : vc_slices_IndexFunc_api_Def s  g   fi ca  w R = vc (bodyOf D_slices_IndexFunc_api_Def) (cx0 P D_slices_IndexFunc_api_Def an_slices_IndexFunc_api_Def) 0 (st0 [Value.slice s.a s.len s.cap, Value.func (.func g) fi ca] w) (vEnd (cx0 P D_slices_IndexFunc_api_Def an_slices_IndexFunc_api_Def) D_slices_IndexFunc_api_Def R) := by kernel_rfl
theorem ok_slices_IndexFunc_api_Def (s : Sl) (g : FuncId) (fi ca : Array Value) {w : World} {R : Ending → World → Prop} (h : vc_slices_IndexFunc_api_Def s  g   fi ca  w R) : Calls P F_slices_IndexFunc_api_Def #[Value.slice s.a s.len s.cap, Value.func (.func g) fi ca] w R :=
  calls_of_vc (P := P) (f := F_slices_IndexFunc_api_Def) (fn := D_slices_IndexFunc_api_Def) (c := bodyOf D_slices_IndexFunc_api_Def) (args := [Value.slice s.a s.len s.cap, Value.func (.func g) fi ca]) (R := R) (w := w) an_slices_IndexFunc_api_Def Try.func40 (bodyOf_some (by kernel_rfl)) (by kernel_rfl) (by rw [← eq_slices_IndexFunc_api_Def s  g   fi ca  w R]; exact h)
def an_ref18_word : Ann := { boxes := [(4, 200), (11, 203)], loops := [(1, [(9, Value.int .i64 0)], [83, 84, 85, 86, 87, 88, 89, 90, 91, 92, 93, 94])], cuts := [(25, [(9, Value.int .i64 0)], [83, 84, 85, 86, 87, 88, 89, 90, 91, 92, 93, 94]), (37, [(9, Value.int .i64 0), (10, Value.int .i64 0), (203, Value.int .i64 0)], [5, 6, 7, 12, 13, 14, 15, 16, 17, 18, 25, 26, 27, 28, 29, 30, 31, 32, 33, 34, 35, 36, 37, 38, 39, 40, 41, 42, 43, 44, 45, 46, 47, 48, 49, 50, 51, 52, 53, 54, 55, 56, 57, 58, 59, 60, 61, 62, 63, 64, 65, 66, 67, 68, 69, 70, 71, 72, 73, 74, 75, 76, 77, 78, 79, 80, 81, 82, 83, 84, 85, 86, 87, 88, 89, 90, 91, 92, 93, 94, 95, 96, 97, 98, 99, 100, 101, 102, 103, 104, 105, 106, 107, 108, 109, 110, 111, 112, 113, 114, 115, 116, 117, 118, 119, 120, 121, 122, 123, 124, 125, 126, 127, 128, 129, 130, 131, 132, 200, 201, 202])], pans := [11, 13, 14, 15, 31], draws := [] }
def vc_ref18_word (s : Bytes) (at_ : Int) (w : World) (R : Ending → World → Prop) : Prop :=
  ∀ b : Nat, w.heap.size ≤ b →
  (0 : Int) ≤ at_ ∧ at_ < (s.length : Int) ∧
  InI64 (at_ + 1) ∧
  ∀ b1 : Nat, w.heap.size ≤ b1 →
  ∃ J : Int → Int → Int → World → Prop,
    (∀ w_ : World, LocB [b1, b] w w_ →
    Calls P F_ref18_begin #[Value.string (bs s), Value.int .i64 at_] w_ (fun (e_ : Ending) (w_1 : World) =>
      ∃ r : Bool, e_ = Ending.returned (Value.bool r) ∧ w_1.heap[b1]? = w_.heap[b1]? ∧ w_1.heap[b]? = w_.heap[b]? ∧ 
      br r
        (Calls P F_ref18_name #[Value.string (bs s), Value.int .i64 at_] w_1 (fun (e_1 : Ending) (w_2 : World) =>
          ∃ r1 : Int, e_1 = Ending.returned (Value.int .i64 r1) ∧ w_2.heap[b1]? = w_1.heap[b1]? ∧ w_2.heap[b]? = w_1.heap[b]? ∧ 
          InI64 (r1 - at_) ∧
          br (decide ((32 : Int) < r1 - at_))
            (∀ w_3 : World, LocB [b1, b] w_2 w_3 →
            J r1 (5 : Int) (1 : Int) w_3)
            (∀ w_4 : World, LocB [b1, b] w_2 w_4 →
            J r1 (0 : Int) (1 : Int) w_4)))
        (br (decide (byteAt s at_.toNat = 46))
          (InI64 (at_ + 1) ∧
          ∀ w_5 : World, LocB [b1, b] w_1 w_5 →
          Calls P F_ref18_begin #[Value.string (bs s), Value.int .i64 (at_ + 1)] w_5 (fun (e_2 : Ending) (w_6 : World) =>
            ∃ r2 : Bool, e_2 = Ending.returned (Value.bool r2) ∧ w_6.heap[b1]? = w_5.heap[b1]? ∧ w_6.heap[b]? = w_5.heap[b]? ∧ 
            br r2
              (Calls P F_ref18_dots #[Value.string (bs s), Value.int .i64 at_] w_6 (fun (e_3 : Ending) (w_7 : World) =>
                ∃ r3 : Int, ∃ r4 : Int, e_3 = Ending.returned (Value.tuple #[Value.int .i64 r3, Value.int .i64 r4]) ∧ w_7.heap[b1]? = w_6.heap[b1]? ∧ w_7.heap[b]? = w_6.heap[b]? ∧ 
                J r3 r4 (2 : Int) w_7))
              (J (at_ + 1) (0 : Int) (2 : Int) w_6)))
          (br (decide (byteAt s at_.toNat = 36))
            (InI64 (at_ + 1) ∧
            ∀ w_8 : World, LocB [b1, b] w_1 w_8 →
            Calls P F_ref18_name #[Value.string (bs s), Value.int .i64 (at_ + 1)] w_8 (fun (e_4 : Ending) (w_9 : World) =>
              ∃ r5 : Int, e_4 = Ending.returned (Value.int .i64 r5) ∧ w_9.heap[b1]? = w_8.heap[b1]? ∧ w_9.heap[b]? = w_8.heap[b]? ∧ 
              br (decide ((0 : Int) < r5))
                (InI64 (r5 - at_) ∧
                InI64 ((r5 - at_) - 1) ∧
                br (decide ((32 : Int) < (r5 - at_) - 1))
                  (br (decide ((5 : Int) = 0))
                    (Calls P F_ref18_dots #[Value.string (bs s), Value.int .i64 r5] w_9 (fun (e_5 : Ending) (w_10 : World) =>
                      ∃ r6 : Int, ∃ r7 : Int, e_5 = Ending.returned (Value.tuple #[Value.int .i64 r6, Value.int .i64 r7]) ∧ w_10.heap[b1]? = w_9.heap[b1]? ∧ w_10.heap[b]? = w_9.heap[b]? ∧ 
                      J r6 r7 (3 : Int) w_10))
                    (J r5 (5 : Int) (3 : Int) w_9))
                  (br (decide ((0 : Int) = 0))
                    (Calls P F_ref18_dots #[Value.string (bs s), Value.int .i64 r5] w_9 (fun (e_6 : Ending) (w_11 : World) =>
                      ∃ r8 : Int, ∃ r9 : Int, e_6 = Ending.returned (Value.tuple #[Value.int .i64 r8, Value.int .i64 r9]) ∧ w_11.heap[b1]? = w_9.heap[b1]? ∧ w_11.heap[b]? = w_9.heap[b]? ∧ 
                      J r8 r9 (3 : Int) w_11))
                    (J r5 (0 : Int) (3 : Int) w_9)))
                (br (decide ((0 : Int) = 0))
                  (Calls P F_ref18_dots #[Value.string (bs s), Value.int .i64 (at_ + 1)] w_9 (fun (e_7 : Ending) (w_12 : World) =>
                    ∃ r10 : Int, ∃ r11 : Int, e_7 = Ending.returned (Value.tuple #[Value.int .i64 r10, Value.int .i64 r11]) ∧ w_12.heap[b1]? = w_9.heap[b1]? ∧ w_12.heap[b]? = w_9.heap[b]? ∧ 
                    J r10 r11 (3 : Int) w_12))
                  (J (at_ + 1) (0 : Int) (3 : Int) w_9))))
            (br (decide (byteAt s at_.toNat = 45))
              (∃ J1 : Int → World → Prop,
                (∀ w_13 : World, LocB [b1, b] w_1 w_13 →
                ∃ (J2 : Int → Nat → World → Prop) (n₀ : Nat), J2 (at_ + 1) n₀ w_13 ∧
                ∀ n1 : Int, ∀ (n : Nat) (w_14 : World), J2 n1 n w_14 →
                br (decide (n1 < (s.length : Int)))
                  ((0 : Int) ≤ n1 ∧ n1 < (s.length : Int) ∧
                  Calls P F_ref01_Digit #[Value.int .u8 (byteAt s n1.toNat)] w_14 (fun (e_8 : Ending) (w_15 : World) =>
                    ∃ r12 : Bool, e_8 = Ending.returned (Value.bool r12) ∧ w_15.heap[b1]? = w_14.heap[b1]? ∧ w_15.heap[b]? = w_14.heap[b]? ∧ 
                    br r12
                      (InI64 (n1 + 1) ∧
                      ∃ m : Nat, m < n ∧ J2 (n1 + 1) m w_15)
                      (J1 n1 w_15)))
                  (J1 n1 w_14)) ∧
              ∀ n2 : Int, ∀ w_16 : World, J1 n2 w_16 →
              (0 : Int) ≤ at_ ∧ at_ ≤ n2 ∧ n2 ≤ (s.length : Int) ∧
              Calls P F_ref01_Parse #[Value.string (bs ((s.take n2.toNat).drop at_.toNat))] w_16 (fun (e_9 : Ending) (w_17 : World) =>
                ∃ r13 : Int, ∃ r14 : Int, e_9 = Ending.returned (Value.tuple #[Value.int .i64 r13, Value.int .i64 r14]) ∧ w_17.heap[b1]? = w_16.heap[b1]? ∧ w_17.heap[b]? = w_16.heap[b]? ∧ 
                br (decide (r14 = 4))
                  (J n2 (4 : Int) (4 : Int) w_17)
                  (br (!decide (r14 = 0))
                    (J n2 (33 : Int) (4 : Int) w_17)
                    (J n2 (0 : Int) (4 : Int) w_17))))
              (Calls P F_ref01_Digit #[Value.int .u8 (byteAt s at_.toNat)] w_1 (fun (e_10 : Ending) (w_18 : World) =>
                ∃ r15 : Bool, e_10 = Ending.returned (Value.bool r15) ∧ w_18.heap[b1]? = w_1.heap[b1]? ∧ w_18.heap[b]? = w_1.heap[b]? ∧ 
                br r15
                  (∃ J3 : Int → World → Prop,
                    (∀ w_19 : World, LocB [b1, b] w_18 w_19 →
                    ∃ (J4 : Int → Nat → World → Prop) (n₀1 : Nat), J4 (at_ + 1) n₀1 w_19 ∧
                    ∀ n4 : Int, ∀ (n3 : Nat) (w_20 : World), J4 n4 n3 w_20 →
                    br (decide (n4 < (s.length : Int)))
                      ((0 : Int) ≤ n4 ∧ n4 < (s.length : Int) ∧
                      Calls P F_ref01_Digit #[Value.int .u8 (byteAt s n4.toNat)] w_20 (fun (e_11 : Ending) (w_21 : World) =>
                        ∃ r16 : Bool, e_11 = Ending.returned (Value.bool r16) ∧ w_21.heap[b1]? = w_20.heap[b1]? ∧ w_21.heap[b]? = w_20.heap[b]? ∧ 
                        br r16
                          (InI64 (n4 + 1) ∧
                          ∃ m1 : Nat, m1 < n3 ∧ J4 (n4 + 1) m1 w_21)
                          (J3 n4 w_21)))
                      (J3 n4 w_20)) ∧
                  ∀ n5 : Int, ∀ w_22 : World, J3 n5 w_22 →
                  (0 : Int) ≤ at_ ∧ at_ ≤ n5 ∧ n5 ≤ (s.length : Int) ∧
                  Calls P F_ref01_Parse #[Value.string (bs ((s.take n5.toNat).drop at_.toNat))] w_22 (fun (e_12 : Ending) (w_23 : World) =>
                    ∃ r17 : Int, ∃ r18 : Int, e_12 = Ending.returned (Value.tuple #[Value.int .i64 r17, Value.int .i64 r18]) ∧ w_23.heap[b1]? = w_22.heap[b1]? ∧ w_23.heap[b]? = w_22.heap[b]? ∧ 
                    br (decide (r18 = 4))
                      (J n5 (4 : Int) (4 : Int) w_23)
                      (br (!decide (r18 = 0))
                        (J n5 (33 : Int) (4 : Int) w_23)
                        (J n5 (0 : Int) (4 : Int) w_23))))
                  (br (decide (byteAt s at_.toNat = 34))
                    (Calls P F_ref18_str #[Value.string (bs s), Value.int .i64 at_] w_18 (fun (e_13 : Ending) (w_24 : World) =>
                      ∃ r19 : Bytes, ∃ r20 : Int, ∃ r21 : Int, ∃ r22 : Int, e_13 = Ending.returned (Value.tuple #[Value.string (bs r19), Value.int .i64 r20, Value.int .i64 r21, Value.int .i64 r22]) ∧ w_24.heap[b1]? = w_18.heap[b1]? ∧ w_24.heap[b]? = w_18.heap[b]? ∧ 
                      ∀ w_25 : World, LocB [b1, b] w_24 w_25 →
                      R (Ending.returned (Value.tuple #[Value.agg #[Value.int .i64 5, Value.string (bs r19), Value.int .i64 0], Value.int .i64 r20, Value.int .i64 r21, Value.int .i64 r22])) w_25))
                    ((0 : Int) ≤ at_ ∧ at_ ≤ (s.length : Int) ∧
                    Calls P F_ref01_Begins #[Value.string (bs [58, 61]), Value.string (bs (s.drop at_.toNat))] w_18 (fun (e_14 : Ending) (w_26 : World) =>
                      ∃ r23 : Bool, e_14 = Ending.returned (Value.bool r23) ∧ w_26.heap[b1]? = w_18.heap[b1]? ∧ w_26.heap[b]? = w_18.heap[b]? ∧ 
                      br r23
                        (InI64 (at_ + 2) ∧
                        J (at_ + 2) (0 : Int) (6 : Int) w_26)
                        (br (!decide (byteAt s at_.toNat = 124))
                          (J (at_ + 1) (33 : Int) (6 : Int) w_26)
                          (J (at_ + 1) (0 : Int) (6 : Int) w_26)))))))))))) ∧
  ∀ n6 : Int, ∀ e_15 : Int, ∀ wKind : Int, ∀ w_27 : World, J n6 e_15 wKind w_27 →
  br (!decide (e_15 = 0))
    (∀ w_28 : World, LocB [b1, b] w_27 w_28 →
    R (Ending.returned (Value.tuple #[Value.agg #[Value.int .i64 wKind, Value.string (bs ([] : Bytes)), Value.int .i64 0], Value.int .i64 0, Value.int .i64 e_15, Value.int .i64 at_])) w_28)
    ((0 : Int) ≤ at_ ∧ at_ ≤ n6 ∧ n6 ≤ (s.length : Int) ∧
    ∀ w_29 : World, LocB [b1, b] w_27 w_29 →
    R (Ending.returned (Value.tuple #[Value.agg #[Value.int .i64 wKind, Value.string (bs ((s.take n6.toNat).drop at_.toNat)), Value.int .i64 0], Value.int .i64 n6, Value.int .i64 0, Value.int .i64 0])) w_29)
theorem eq_ref18_word (s : Bytes) (at_ : Int) (w : World) (R : Ending → World → Prop) : vc_ref18_word s at_ w R = vc (bodyOf D_ref18_word) (cx0 P D_ref18_word an_ref18_word) 0 (st0 [Value.string (bs s), Value.int .i64 at_] w) (vEnd (cx0 P D_ref18_word an_ref18_word) D_ref18_word R) := by kernel_rfl
theorem ok_ref18_word (s : Bytes) (at_ : Int) {w : World} {R : Ending → World → Prop} (h : vc_ref18_word s at_ w R) : Calls P F_ref18_word #[Value.string (bs s), Value.int .i64 at_] w R :=
  calls_of_vc (P := P) (f := F_ref18_word) (fn := D_ref18_word) (c := bodyOf D_ref18_word) (args := [Value.string (bs s), Value.int .i64 at_]) (R := R) (w := w) an_ref18_word Try.func41 (bodyOf_some (by kernel_rfl)) (by kernel_rfl) (by rw [← eq_ref18_word s at_ w R]; exact h)
def an_ref19_Parse : Ann := { boxes := [(10, 100), (66, 102)], loops := [(0, [(7, Value.slice none 0 0), (8, Value.int .i64 0)], [4, 5, 6, 9, 10, 11, 12, 17, 18, 19, 20, 21, 22, 23, 24, 25, 26, 27, 28, 29, 30, 31, 32, 33, 34, 35, 36, 37, 38, 39, 40, 41, 42, 43, 44, 45, 46, 47, 48, 49, 50, 51, 52, 53, 54, 55, 56, 57, 58, 59, 60, 61, 62, 63, 64, 65, 66, 67, 68, 69, 70, 71, 72, 73, 74, 75, 76, 77, 78, 79, 80, 81, 82, 83, 84, 85, 86, 87, 88, 89, 90, 91, 92, 100, 101, 102, 103]), (2, [(9, Value.int .i64 0)], [18, 19, 20, 21, 22, 23, 24, 25, 26, 27, 28, 29, 30, 31])], cuts := [(8, [(9, Value.int .i64 0)], [18, 19, 20, 21, 22, 23, 24, 25, 26, 27, 28, 29, 30, 31])], pans := [11, 13, 14, 15, 31], draws := [(9, [0, 1, 2, 3, 4, 5, 6, 7], [.t, .t, .t, .t, .h, .t, .t, .t]), (14, [0, 1, 2, 3, 4, 5, 6, 7], [.t, .t, .t, .t, .h, .t, .t, .t]), (19, [0, 1, 2, 3, 4, 5, 6, 7], [.t, .t, .t, .t, .h, .t, .t, .t])] }
def vc_ref19_Parse (l : Sl) (at_ : Int) (w : World) (R : Ending → World → Prop) : Prop :=
  br (decide (((l.len : Nat) : Int) = 0))
    (R (Ending.returned (Value.tuple #[Value.slice none 0 0, Value.int .i64 at_, Value.int .i64 8])) w)
    (∃ (J : Sl → Int → Nat → World → Prop) (n₀ : Nat), J ⟨none, 0, 0⟩ (0 : Int) n₀ w ∧
    ∀ out : Sl, ∀ from_ : Int, ∀ (n : Nat) (w_ : World), J out from_ n w_ →
    ∃ J1 : Int → World → Prop,
      (∃ (J2 : Int → Nat → World → Prop) (n₀1 : Nat), J2 from_ n₀1 w_ ∧
      ∀ to : Int, ∀ (n1 : Nat) (w_1 : World), J2 to n1 w_1 →
      br (decide (to < ((l.len : Nat) : Int)))
        ((0 : Int) ≤ to ∧ to < ((l.len : Nat) : Int) ∧ ∃ a : Addr, l.a = some a ∧
        ∃ x : Int, CellsAt w_1 (a.add (to.toNat * 3)) [Value.int .i64 x] ∧
        br (!decide (x = 6))
          (InI64 (to + 1) ∧
          ∃ m : Nat, m < n1 ∧ J2 (to + 1) m w_1)
          (J1 to w_1))
        (J1 to w_1)) ∧
    ∀ to1 : Int, ∀ w_2 : World, J1 to1 w_2 →
    br (decide (to1 = from_))
      (∀ w_3 : World, LocB [] w_2 w_3 →
      (0 : Int) ≤ from_ ∧ from_ < ((l.len : Nat) : Int) ∧ ∃ a1 : Addr, l.a = some a1 ∧
      ∃ x1 : Int, CellsAt w_3 ((a1.add (from_.toNat * 3)).add 2) [Value.int .i64 x1] ∧
      R (Ending.returned (Value.tuple #[Value.slice none 0 0, Value.int .i64 x1, Value.int .i64 33])) w_3)
      ((0 : Int) ≤ from_ ∧ from_ ≤ to1 ∧ to1 ≤ ((l.cap : Nat) : Int) ∧
      Calls P F_ref19_call #[Value.slice (cutA l.a from_.toNat l.cap 3) (to1.toNat - from_.toNat) (l.cap - from_.toNat), Value.bool (decide ((0 : Int) < ((out.len : Nat) : Int)))] w_2 (fun (e_ : Ending) (w_4 : World) =>
        ∃ r : Bytes, ∃ r1 : Sl, ∃ r2 : Int, ∃ r3 : Int, e_ = Ending.returned (Value.tuple #[Value.agg #[Value.string (bs r), Value.slice r1.a r1.len r1.cap], Value.int .i64 r2, Value.int .i64 r3]) ∧ 
        ∀ b : Nat, w_4.heap.size ≤ b →
        br (!decide (r3 = 0))
          (∀ w_5 : World, LocB [b] w_4 w_5 →
          R (Ending.returned (Value.tuple #[Value.slice none 0 0, Value.int .i64 r2, Value.int .i64 r3])) w_5)
          (br (decide (((out.len : Nat) : Int) = 16))
            (∀ w_6 : World, LocB [b] w_4 w_6 →
            (0 : Int) ≤ from_ ∧ from_ < ((l.len : Nat) : Int) ∧ ∃ a2 : Addr, l.a = some a2 ∧
            ∃ x2 : Int, CellsAt w_6 ((a2.add (from_.toNat * 3)).add 2) [Value.int .i64 x2] ∧
            R (Ending.returned (Value.tuple #[Value.slice none 0 0, Value.int .i64 x2, Value.int .i64 3])) w_6)
            (∀ b1 : Nat, w_4.heap.size ≤ b1 →
            ∀ w_7 : World, LocB [b1, b] w_4 w_7 →
            ∃ old : List Value, AppPre w_7 out 2 40 1 old ∧ (∀ ad, out.a = some ad → ad.block ≠ b1) ∧ (∀ ad, out.a = some ad → ad.block ≠ b) ∧ 
            ∀ (s : Sl) (w_8 : World), AppRes w_7 out 2 T_api_Call [Value.string (bs r), Value.slice r1.a r1.len r1.cap] 1 old s w_8 →
            br (decide (to1 = ((l.len : Nat) : Int)))
              (R (Ending.returned (Value.tuple #[Value.slice s.a s.len s.cap, Value.int .i64 at_, Value.int .i64 0])) w_8)
              ((0 : Int) ≤ to1 ∧ to1 < ((l.len : Nat) : Int) ∧ ∃ a3 : Addr, l.a = some a3 ∧
              ∃ x3 : Bytes, CellsAt w_8 ((a3.add (to1.toNat * 3)).add 1) [Value.string (bs x3)] ∧
              br (!decide (x3 = [124]))
                (∀ w_9 : World, LocB [b1, b] w_8 w_9 →
                (0 : Int) ≤ to1 ∧ to1 < ((l.len : Nat) : Int) ∧ ∃ a4 : Addr, l.a = some a4 ∧
                ∃ x4 : Int, CellsAt w_9 ((a4.add (to1.toNat * 3)).add 2) [Value.int .i64 x4] ∧
                R (Ending.returned (Value.tuple #[Value.slice none 0 0, Value.int .i64 x4, Value.int .i64 33])) w_9)
                (InI64 (to1 + 1) ∧
                br (decide (to1 + 1 = ((l.len : Nat) : Int)))
                  (R (Ending.returned (Value.tuple #[Value.slice none 0 0, Value.int .i64 at_, Value.int .i64 33])) w_8)
                  (InI64 (to1 + 1) ∧
                  ∃ m1 : Nat, m1 < n ∧ J s (to1 + 1) m1 w_8))))))))
theorem eq_ref19_Parse (l : Sl) (at_ : Int) (w : World) (R : Ending → World → Prop) : vc_ref19_Parse l at_ w R = vc (bodyOf D_ref19_Parse) (cx0 P D_ref19_Parse an_ref19_Parse) 0 (st0 [Value.slice l.a l.len l.cap, Value.int .i64 at_] w) (vEnd (cx0 P D_ref19_Parse an_ref19_Parse) D_ref19_Parse R) := by kernel_rfl
theorem ok_ref19_Parse (l : Sl) (at_ : Int) {w : World} {R : Ending → World → Prop} (h : vc_ref19_Parse l at_ w R) : Calls P F_ref19_Parse #[Value.slice l.a l.len l.cap, Value.int .i64 at_] w R :=
  calls_of_vc (P := P) (f := F_ref19_Parse) (fn := D_ref19_Parse) (c := bodyOf D_ref19_Parse) (args := [Value.slice l.a l.len l.cap, Value.int .i64 at_]) (R := R) (w := w) an_ref19_Parse Try.func42 (bodyOf_some (by kernel_rfl)) (by kernel_rfl) (by rw [← eq_ref19_Parse l at_ w R]; exact h)
def an_ref01_Letter : Ann := { boxes := [], loops := [], cuts := [], pans := [11, 13, 14, 15, 31], draws := [] }
def vc_ref01_Letter (c : Int) (w : World) (R : Ending → World → Prop) : Prop :=
  br (decide ((97 : Int) ≤ c))
    (br (decide (c ≤ 122))
      (R (Ending.returned (Value.bool true)) w)
      (br (decide ((65 : Int) ≤ c))
        (R (Ending.returned (Value.bool (decide (c ≤ 90)))) w)
        (R (Ending.returned (Value.bool false)) w)))
    (br (decide ((65 : Int) ≤ c))
      (R (Ending.returned (Value.bool (decide (c ≤ 90)))) w)
      (R (Ending.returned (Value.bool false)) w))
theorem eq_ref01_Letter (c : Int) (w : World) (R : Ending → World → Prop) : vc_ref01_Letter c w R = vc (bodyOf D_ref01_Letter) (cx0 P D_ref01_Letter an_ref01_Letter) 0 (st0 [Value.int .u8 c] w) (vEnd (cx0 P D_ref01_Letter an_ref01_Letter) D_ref01_Letter R) := by kernel_rfl
theorem ok_ref01_Letter (c : Int) {w : World} {R : Ending → World → Prop} (h : vc_ref01_Letter c w R) : Calls P F_ref01_Letter #[Value.int .u8 c] w R :=
  calls_of_vc (P := P) (f := F_ref01_Letter) (fn := D_ref01_Letter) (c := bodyOf D_ref01_Letter) (args := [Value.int .u8 c]) (R := R) (w := w) an_ref01_Letter Try.func43 (bodyOf_some (by kernel_rfl)) (by kernel_rfl) (by rw [← eq_ref01_Letter c w R]; exact h)
def an_ref01_Digit : Ann := { boxes := [], loops := [], cuts := [], pans := [11, 13, 14, 15, 31], draws := [] }
def vc_ref01_Digit (c : Int) (w : World) (R : Ending → World → Prop) : Prop :=
  br (decide ((48 : Int) ≤ c))
    (R (Ending.returned (Value.bool (decide (c ≤ 57)))) w)
    (R (Ending.returned (Value.bool false)) w)
theorem eq_ref01_Digit (c : Int) (w : World) (R : Ending → World → Prop) : vc_ref01_Digit c w R = vc (bodyOf D_ref01_Digit) (cx0 P D_ref01_Digit an_ref01_Digit) 0 (st0 [Value.int .u8 c] w) (vEnd (cx0 P D_ref01_Digit an_ref01_Digit) D_ref01_Digit R) := by kernel_rfl
theorem ok_ref01_Digit (c : Int) {w : World} {R : Ending → World → Prop} (h : vc_ref01_Digit c w R) : Calls P F_ref01_Digit #[Value.int .u8 c] w R :=
  calls_of_vc (P := P) (f := F_ref01_Digit) (fn := D_ref01_Digit) (c := bodyOf D_ref01_Digit) (args := [Value.int .u8 c]) (R := R) (w := w) an_ref01_Digit Try.func44 (bodyOf_some (by kernel_rfl)) (by kernel_rfl) (by rw [← eq_ref01_Digit c w R]; exact h)
def an_slices_ContainsFunc_api_Arg : Ann := { boxes := [], loops := [], cuts := [], pans := [11, 13, 14, 15, 31], draws := [] }
def vc_slices_ContainsFunc_api_Arg (s : Sl) (g : FuncId) (fi ca : Array Value) (w : World) (R : Ending → World → Prop) : Prop :=
  Calls P F_slices_IndexFunc_api_Arg #[Value.slice s.a s.len s.cap, Value.func (.func g) fi ca] w (fun (e_ : Ending) (w_ : World) =>
    ∃ r : Int, e_ = Ending.returned (Value.int .i64 r) ∧ 
    R (Ending.returned (Value.bool (decide ((0 : Int) ≤ r)))) w_)
theorem eq_slices_ContainsFunc_api_Arg (s : Sl) (g : FuncId) (fi ca : Array Value) (w : World) (R : Ending → World → Prop) : vc_slices_ContainsFunc_api_Arg s  g   fi ca  w R = vc (bodyOf D_slices_ContainsFunc_api_Arg) (cx0 P D_slices_ContainsFunc_api_Arg an_slices_ContainsFunc_api_Arg) 0 (st0 [Value.slice s.a s.len s.cap, Value.func (.func g) fi ca] w) (vEnd (cx0 P D_slices_ContainsFunc_api_Arg an_slices_ContainsFunc_api_Arg) D_slices_ContainsFunc_api_Arg R) := by kernel_rfl
theorem ok_slices_ContainsFunc_api_Arg (s : Sl) (g : FuncId) (fi ca : Array Value) {w : World} {R : Ending → World → Prop} (h : vc_slices_ContainsFunc_api_Arg s  g   fi ca  w R) : Calls P F_slices_ContainsFunc_api_Arg #[Value.slice s.a s.len s.cap, Value.func (.func g) fi ca] w R :=
  calls_of_vc (P := P) (f := F_slices_ContainsFunc_api_Arg) (fn := D_slices_ContainsFunc_api_Arg) (c := bodyOf D_slices_ContainsFunc_api_Arg) (args := [Value.slice s.a s.len s.cap, Value.func (.func g) fi ca]) (R := R) (w := w) an_slices_ContainsFunc_api_Arg Try.func45 (bodyOf_some (by kernel_rfl)) (by kernel_rfl) (by rw [← eq_slices_ContainsFunc_api_Arg s  g   fi ca  w R]; exact h)
def an_pipes_callMay_1 : Ann := { boxes := [(1, 100)], loops := [], cuts := [], pans := [11, 13, 14, 15, 31], draws := [] }
def vc_pipes_callMay_1 (aKind : Int) (aName : Bytes) (aPath : Sl) (aInt : Int) (aText : Bytes) (w : World) (R : Ending → World → Prop) : Prop :=
  ∀ b : Nat, w.heap.size ≤ b →
  ∀ w_ : World, LocB [b] w w_ →
  Calls P F_pipes_argMay #[Value.agg #[Value.int .i64 aKind, Value.string (bs aName), Value.slice aPath.a aPath.len aPath.cap, Value.int .i64 aInt, Value.string (bs aText)]] w_ (fun (e_ : Ending) (w_1 : World) =>
    ∃ r : Bool, e_ = Ending.returned (Value.bool r) ∧ w_1.heap[b]? = w_.heap[b]? ∧ 
    R (Ending.returned (Value.bool (!r))) w_1)
theorem eq_pipes_callMay_1 (aKind : Int) (aName : Bytes) (aPath : Sl) (aInt : Int) (aText : Bytes) (w : World) (R : Ending → World → Prop) : vc_pipes_callMay_1 aKind aName aPath aInt aText w R = vc (bodyOf D_pipes_callMay_1) (cx0 P D_pipes_callMay_1 an_pipes_callMay_1) 0 (st0 [Value.agg #[Value.int .i64 aKind, Value.string (bs aName), Value.slice aPath.a aPath.len aPath.cap, Value.int .i64 aInt, Value.string (bs aText)]] w) (vEnd (cx0 P D_pipes_callMay_1 an_pipes_callMay_1) D_pipes_callMay_1 R) := by kernel_rfl
theorem ok_pipes_callMay_1 (aKind : Int) (aName : Bytes) (aPath : Sl) (aInt : Int) (aText : Bytes) {w : World} {R : Ending → World → Prop} (h : vc_pipes_callMay_1 aKind aName aPath aInt aText w R) : Calls P F_pipes_callMay_1 #[Value.agg #[Value.int .i64 aKind, Value.string (bs aName), Value.slice aPath.a aPath.len aPath.cap, Value.int .i64 aInt, Value.string (bs aText)]] w R :=
  calls_of_vc (P := P) (f := F_pipes_callMay_1) (fn := D_pipes_callMay_1) (c := bodyOf D_pipes_callMay_1) (args := [Value.agg #[Value.int .i64 aKind, Value.string (bs aName), Value.slice aPath.a aPath.len aPath.cap, Value.int .i64 aInt, Value.string (bs aText)]]) (R := R) (w := w) an_pipes_callMay_1 Try.func46 (bodyOf_some (by kernel_rfl)) (by kernel_rfl) (by rw [← eq_pipes_callMay_1 aKind aName aPath aInt aText w R]; exact h)
def an_pipes_argMay : Ann := { boxes := [(1, 100)], loops := [], cuts := [(3, [], [2, 3, 4, 5, 6, 7, 8, 9, 10, 11])], pans := [11, 13, 14, 15, 31], draws := [] }
def vc_pipes_argMay (aKind : Int) (aName : Bytes) (aPath : Sl) (aInt : Int) (aText : Bytes) (w : World) (R : Ending → World → Prop) : Prop :=
  ∀ b : Nat, w.heap.size ≤ b →
  ∃ J : World → Prop,
    (∀ w_ : World, LocB [b] w w_ →
    Calls P F_slices_ContainsFunc_string #[Value.slice aPath.a aPath.len aPath.cap, Value.func (.func F_pipes_argMay_1) #[] #[]] w_ (fun (e_ : Ending) (w_1 : World) =>
      ∃ r : Bool, e_ = Ending.returned (Value.bool r) ∧ w_1.heap[b]? = w_.heap[b]? ∧ 
      br r
        (R (Ending.returned (Value.bool false)) w_1)
        (br (decide ((16 : Int) < ((aPath.len : Nat) : Int)))
          (R (Ending.returned (Value.bool false)) w_1)
          (J w_1)))) ∧
  ∀ w_2 : World, J w_2 →
  br (decide ((1 : Int) ≤ aKind))
    (br (decide (aKind ≤ 7))
      (br (decide (aKind = 2))
        (br (decide (aName = ([] : Bytes)))
          (br (decide (aKind ≤ 2))
            (br (decide (aKind = 3))
              (br (decide (aKind = 4))
                (R (Ending.returned (Value.bool (decide ((aText.length : Int) ≤ 4096)))) w_2)
                (br (decide (aText = ([] : Bytes)))
                  (R (Ending.returned (Value.bool (decide ((aText.length : Int) ≤ 4096)))) w_2)
                  (R (Ending.returned (Value.bool false)) w_2)))
              (br (decide (aInt = 0))
                (br (decide (aKind = 4))
                  (R (Ending.returned (Value.bool (decide ((aText.length : Int) ≤ 4096)))) w_2)
                  (br (decide (aText = ([] : Bytes)))
                    (R (Ending.returned (Value.bool (decide ((aText.length : Int) ≤ 4096)))) w_2)
                    (R (Ending.returned (Value.bool false)) w_2)))
                (R (Ending.returned (Value.bool false)) w_2)))
            (br (decide (((aPath.len : Nat) : Int) = 0))
              (br (decide (aKind = 3))
                (br (decide (aKind = 4))
                  (R (Ending.returned (Value.bool (decide ((aText.length : Int) ≤ 4096)))) w_2)
                  (br (decide (aText = ([] : Bytes)))
                    (R (Ending.returned (Value.bool (decide ((aText.length : Int) ≤ 4096)))) w_2)
                    (R (Ending.returned (Value.bool false)) w_2)))
                (br (decide (aInt = 0))
                  (br (decide (aKind = 4))
                    (R (Ending.returned (Value.bool (decide ((aText.length : Int) ≤ 4096)))) w_2)
                    (br (decide (aText = ([] : Bytes)))
                      (R (Ending.returned (Value.bool (decide ((aText.length : Int) ≤ 4096)))) w_2)
                      (R (Ending.returned (Value.bool false)) w_2)))
                  (R (Ending.returned (Value.bool false)) w_2)))
              (R (Ending.returned (Value.bool false)) w_2)))
          (Calls P F_octets_Name #[Value.string (bs aName)] w_2 (fun (e_1 : Ending) (w_3 : World) =>
            ∃ r1 : Bool, e_1 = Ending.returned (Value.bool r1) ∧ w_3.heap[b]? = w_2.heap[b]? ∧ 
            br r1
              (br (decide (aKind ≤ 2))
                (br (decide (aKind = 3))
                  (br (decide (aKind = 4))
                    (R (Ending.returned (Value.bool (decide ((aText.length : Int) ≤ 4096)))) w_3)
                    (br (decide (aText = ([] : Bytes)))
                      (R (Ending.returned (Value.bool (decide ((aText.length : Int) ≤ 4096)))) w_3)
                      (R (Ending.returned (Value.bool false)) w_3)))
                  (br (decide (aInt = 0))
                    (br (decide (aKind = 4))
                      (R (Ending.returned (Value.bool (decide ((aText.length : Int) ≤ 4096)))) w_3)
                      (br (decide (aText = ([] : Bytes)))
                        (R (Ending.returned (Value.bool (decide ((aText.length : Int) ≤ 4096)))) w_3)
                        (R (Ending.returned (Value.bool false)) w_3)))
                    (R (Ending.returned (Value.bool false)) w_3)))
                (br (decide (((aPath.len : Nat) : Int) = 0))
                  (br (decide (aKind = 3))
                    (br (decide (aKind = 4))
                      (R (Ending.returned (Value.bool (decide ((aText.length : Int) ≤ 4096)))) w_3)
                      (br (decide (aText = ([] : Bytes)))
                        (R (Ending.returned (Value.bool (decide ((aText.length : Int) ≤ 4096)))) w_3)
                        (R (Ending.returned (Value.bool false)) w_3)))
                    (br (decide (aInt = 0))
                      (br (decide (aKind = 4))
                        (R (Ending.returned (Value.bool (decide ((aText.length : Int) ≤ 4096)))) w_3)
                        (br (decide (aText = ([] : Bytes)))
                          (R (Ending.returned (Value.bool (decide ((aText.length : Int) ≤ 4096)))) w_3)
                          (R (Ending.returned (Value.bool false)) w_3)))
                      (R (Ending.returned (Value.bool false)) w_3)))
                  (R (Ending.returned (Value.bool false)) w_3)))
              (br (decide (aName = ([] : Bytes)))
                (br (decide (aKind ≤ 2))
                  (br (decide (aKind = 3))
                    (br (decide (aKind = 4))
                      (R (Ending.returned (Value.bool (decide ((aText.length : Int) ≤ 4096)))) w_3)
                      (br (decide (aText = ([] : Bytes)))
                        (R (Ending.returned (Value.bool (decide ((aText.length : Int) ≤ 4096)))) w_3)
                        (R (Ending.returned (Value.bool false)) w_3)))
                    (br (decide (aInt = 0))
                      (br (decide (aKind = 4))
                        (R (Ending.returned (Value.bool (decide ((aText.length : Int) ≤ 4096)))) w_3)
                        (br (decide (aText = ([] : Bytes)))
                          (R (Ending.returned (Value.bool (decide ((aText.length : Int) ≤ 4096)))) w_3)
                          (R (Ending.returned (Value.bool false)) w_3)))
                      (R (Ending.returned (Value.bool false)) w_3)))
                  (br (decide (((aPath.len : Nat) : Int) = 0))
                    (br (decide (aKind = 3))
                      (br (decide (aKind = 4))
                        (R (Ending.returned (Value.bool (decide ((aText.length : Int) ≤ 4096)))) w_3)
                        (br (decide (aText = ([] : Bytes)))
                          (R (Ending.returned (Value.bool (decide ((aText.length : Int) ≤ 4096)))) w_3)
                          (R (Ending.returned (Value.bool false)) w_3)))
                      (br (decide (aInt = 0))
                        (br (decide (aKind = 4))
                          (R (Ending.returned (Value.bool (decide ((aText.length : Int) ≤ 4096)))) w_3)
                          (br (decide (aText = ([] : Bytes)))
                            (R (Ending.returned (Value.bool (decide ((aText.length : Int) ≤ 4096)))) w_3)
                            (R (Ending.returned (Value.bool false)) w_3)))
                        (R (Ending.returned (Value.bool false)) w_3)))
                    (R (Ending.returned (Value.bool false)) w_3)))
                (R (Ending.returned (Value.bool false)) w_3)))))
        (br (decide (aName = ([] : Bytes)))
          (br (decide (aKind ≤ 2))
            (br (decide (aKind = 3))
              (br (decide (aKind = 4))
                (R (Ending.returned (Value.bool (decide ((aText.length : Int) ≤ 4096)))) w_2)
                (br (decide (aText = ([] : Bytes)))
                  (R (Ending.returned (Value.bool (decide ((aText.length : Int) ≤ 4096)))) w_2)
                  (R (Ending.returned (Value.bool false)) w_2)))
              (br (decide (aInt = 0))
                (br (decide (aKind = 4))
                  (R (Ending.returned (Value.bool (decide ((aText.length : Int) ≤ 4096)))) w_2)
                  (br (decide (aText = ([] : Bytes)))
                    (R (Ending.returned (Value.bool (decide ((aText.length : Int) ≤ 4096)))) w_2)
                    (R (Ending.returned (Value.bool false)) w_2)))
                (R (Ending.returned (Value.bool false)) w_2)))
            (br (decide (((aPath.len : Nat) : Int) = 0))
              (br (decide (aKind = 3))
                (br (decide (aKind = 4))
                  (R (Ending.returned (Value.bool (decide ((aText.length : Int) ≤ 4096)))) w_2)
                  (br (decide (aText = ([] : Bytes)))
                    (R (Ending.returned (Value.bool (decide ((aText.length : Int) ≤ 4096)))) w_2)
                    (R (Ending.returned (Value.bool false)) w_2)))
                (br (decide (aInt = 0))
                  (br (decide (aKind = 4))
                    (R (Ending.returned (Value.bool (decide ((aText.length : Int) ≤ 4096)))) w_2)
                    (br (decide (aText = ([] : Bytes)))
                      (R (Ending.returned (Value.bool (decide ((aText.length : Int) ≤ 4096)))) w_2)
                      (R (Ending.returned (Value.bool false)) w_2)))
                  (R (Ending.returned (Value.bool false)) w_2)))
              (R (Ending.returned (Value.bool false)) w_2)))
          (R (Ending.returned (Value.bool false)) w_2)))
      (R (Ending.returned (Value.bool false)) w_2))
    (R (Ending.returned (Value.bool false)) w_2)
theorem eq_pipes_argMay (aKind : Int) (aName : Bytes) (aPath : Sl) (aInt : Int) (aText : Bytes) (w : World) (R : Ending → World → Prop) : vc_pipes_argMay aKind aName aPath aInt aText w R = vc (bodyOf D_pipes_argMay) (cx0 P D_pipes_argMay an_pipes_argMay) 0 (st0 [Value.agg #[Value.int .i64 aKind, Value.string (bs aName), Value.slice aPath.a aPath.len aPath.cap, Value.int .i64 aInt, Value.string (bs aText)]] w) (vEnd (cx0 P D_pipes_argMay an_pipes_argMay) D_pipes_argMay R) := by kernel_rfl
theorem ok_pipes_argMay (aKind : Int) (aName : Bytes) (aPath : Sl) (aInt : Int) (aText : Bytes) {w : World} {R : Ending → World → Prop} (h : vc_pipes_argMay aKind aName aPath aInt aText w R) : Calls P F_pipes_argMay #[Value.agg #[Value.int .i64 aKind, Value.string (bs aName), Value.slice aPath.a aPath.len aPath.cap, Value.int .i64 aInt, Value.string (bs aText)]] w R :=
  calls_of_vc (P := P) (f := F_pipes_argMay) (fn := D_pipes_argMay) (c := bodyOf D_pipes_argMay) (args := [Value.agg #[Value.int .i64 aKind, Value.string (bs aName), Value.slice aPath.a aPath.len aPath.cap, Value.int .i64 aInt, Value.string (bs aText)]]) (R := R) (w := w) an_pipes_argMay Try.func47 (bodyOf_some (by kernel_rfl)) (by kernel_rfl) (by rw [← eq_pipes_argMay aKind aName aPath aInt aText w R]; exact h)
end Go.Proofs.Ytpedoaeieabhoaa.V
