import Derived.Test.YtcddpmiandgkjaaWordWalks
import Derived.Test.YtcddpmiandgkjaaMaps
import Derived.Test.YtcddpmiandgkjaaWf
/-! The thirteen closures of alu.Does; its small helpers. -/
namespace Go.Proofs.Ytcddpmiandgkjaa
open Go.RowKit Go.Maps
set_option maxHeartbeats 1000000
set_option maxRecDepth 100000

theorem alu_size (w : World) (wide : Bool) : Calls Try.prog 67 #[.bool wide] w fun e w' => e = .returned (.int .i64 (if wide then 8 else 4)) ∧ w = w' := by
  cases wide
  all_goals
    go_enter Try.func67, Try.ntmps67
    go_wp2
    go_ret
    exact ⟨rfl, rfl⟩

theorem alu_do_1 (w : World) (ba bb : Nat) (a b : Int) (ha : w.cell? ⟨ba, 0, none⟩ = some (.int .u64 a)) (hb : w.cell? ⟨bb, 0, none⟩ = some (.int .u64 b)) :
    Calls Try.prog 70 #[.pointer (some ⟨ba, 0, none⟩), .pointer (some ⟨bb, 0, none⟩)] w fun e w' => e = .returned (.int .u64 (IntKind.u64.wrap (a + b))) ∧ w = w' := by
  go_enter Try.func70, Try.ntmps70
  go_wp2_with fail
  go_ret
  exact ⟨rfl, rfl⟩

theorem alu_do_2 (w : World) (ba bb : Nat) (a b : Int) (ha : w.cell? ⟨ba, 0, none⟩ = some (.int .u64 a)) (hb : w.cell? ⟨bb, 0, none⟩ = some (.int .u64 b)) :
    Calls Try.prog 71 #[.pointer (some ⟨ba, 0, none⟩), .pointer (some ⟨bb, 0, none⟩)] w fun e w' => e = .returned (.int .u64 (IntKind.u64.wrap (a - b))) ∧ w = w' := by
  go_enter Try.func71, Try.ntmps71
  go_wp2_with fail
  go_ret
  exact ⟨rfl, rfl⟩

theorem alu_do_3 (w : World) (ba bb : Nat) (a b : Int) (ha : w.cell? ⟨ba, 0, none⟩ = some (.int .u64 a)) (hb : w.cell? ⟨bb, 0, none⟩ = some (.int .u64 b)) :
    Calls Try.prog 72 #[.pointer (some ⟨ba, 0, none⟩), .pointer (some ⟨bb, 0, none⟩)] w fun e w' => e = .returned (.int .u64 (IntKind.u64.wrap (a * b))) ∧ w = w' := by
  go_enter Try.func72, Try.ntmps72
  go_wp2_with fail
  go_ret
  exact ⟨rfl, rfl⟩

theorem alu_do_4 (w : World) (bq : Nat) (q : Int) (hq : w.cell? ⟨bq, 0, none⟩ = some (.int .u64 q)) :
    Calls Try.prog 73 #[.pointer (some ⟨bq, 0, none⟩)] w fun e w' => e = .returned (.int .u64 (q)) ∧ w = w' := by
  go_enter Try.func73, Try.ntmps73
  go_wp2_with fail
  go_ret
  exact ⟨rfl, rfl⟩

theorem alu_do_5 (w : World) (br : Nat) (r : Int) (hr : w.cell? ⟨br, 0, none⟩ = some (.int .u64 r)) :
    Calls Try.prog 74 #[.pointer (some ⟨br, 0, none⟩)] w fun e w' => e = .returned (.int .u64 (r)) ∧ w = w' := by
  go_enter Try.func74, Try.ntmps74
  go_wp2_with fail
  go_ret
  exact ⟨rfl, rfl⟩

theorem alu_do_6 (w : World) (ba bb : Nat) (a b : Int) (ha : w.cell? ⟨ba, 0, none⟩ = some (.int .u64 a)) (hb : w.cell? ⟨bb, 0, none⟩ = some (.int .u64 b)) :
    Calls Try.prog 75 #[.pointer (some ⟨ba, 0, none⟩), .pointer (some ⟨bb, 0, none⟩)] w fun e w' => e = .returned (.int .u64 (bits .or .u64 a b)) ∧ w = w' := by
  go_enter Try.func75, Try.ntmps75
  go_wp2_with fail
  go_ret
  exact ⟨rfl, rfl⟩

theorem alu_do_7 (w : World) (ba bb : Nat) (a b : Int) (ha : w.cell? ⟨ba, 0, none⟩ = some (.int .u64 a)) (hb : w.cell? ⟨bb, 0, none⟩ = some (.int .u64 b)) :
    Calls Try.prog 76 #[.pointer (some ⟨ba, 0, none⟩), .pointer (some ⟨bb, 0, none⟩)] w fun e w' => e = .returned (.int .u64 (bits .and .u64 a b)) ∧ w = w' := by
  go_enter Try.func76, Try.ntmps76
  go_wp2_with fail
  go_ret
  exact ⟨rfl, rfl⟩

theorem alu_do_8 (w : World) (ba bb : Nat) (a b : Int) (ha : w.cell? ⟨ba, 0, none⟩ = some (.int .u64 a)) (hb : w.cell? ⟨bb, 0, none⟩ = some (.int .u64 b)) :
    Calls Try.prog 77 #[.pointer (some ⟨ba, 0, none⟩), .pointer (some ⟨bb, 0, none⟩)] w fun e w' => e = .returned (.int .u64 (bits .xor .u64 a b)) ∧ w = w' := by
  go_enter Try.func77, Try.ntmps77
  go_wp2_with fail
  go_ret
  exact ⟨rfl, rfl⟩

theorem alu_do_9 (w : World) (ba bs : Nat) (a s : Int) (ha : w.cell? ⟨ba, 0, none⟩ = some (.int .u64 a)) (hs : w.cell? ⟨bs, 0, none⟩ = some (.int .u64 s)) (_ : 0 ≤ s) (_ : s < 64) :
    Calls Try.prog 78 #[.pointer (some ⟨ba, 0, none⟩), .pointer (some ⟨bs, 0, none⟩)] w fun e w' => e = .returned (.int .u64 (IntKind.u64.wrap (a * 2 ^ s.toNat))) ∧ w = w' := by
  go_enter Try.func78, Try.ntmps78
  go_wp2_with fail
  go_ret
  exact ⟨rfl, rfl⟩

theorem alu_do_10 (w : World) (ba bs : Nat) (a s : Int) (ha : w.cell? ⟨ba, 0, none⟩ = some (.int .u64 a)) (hs : w.cell? ⟨bs, 0, none⟩ = some (.int .u64 s)) (_ : 0 ≤ s) (_ : s < 64) :
    Calls Try.prog 79 #[.pointer (some ⟨ba, 0, none⟩), .pointer (some ⟨bs, 0, none⟩)] w fun e w' => e = .returned (.int .u64 (a / 2 ^ s.toNat)) ∧ w = w' := by
  go_enter Try.func79, Try.ntmps79
  go_wp2_with fail
  go_ret
  exact ⟨rfl, rfl⟩

theorem alu_do_11 (w : World) (ba bn bs : Nat) (a n s : Int) (ha : w.cell? ⟨ba, 0, none⟩ = some (.int .u64 a)) (hn : w.cell? ⟨bn, 0, none⟩ = some (.int .i64 n)) (hs : w.cell? ⟨bs, 0, none⟩ = some (.int .u64 s)) (h0 : 0 ≤ a) (h1 : a < 18446744073709551616) (_ : 0 ≤ s) (_ : s < 64) :
    Calls Try.prog 80 #[.pointer (some ⟨ba, 0, none⟩), .pointer (some ⟨bn, 0, none⟩), .pointer (some ⟨bs, 0, none⟩)] w fun e w' => e = .returned (.int .u64 (IntKind.u64.wrap (wordSign a n / 2 ^ s.toNat))) ∧ ∃ k, w' = w.drewN k := by
  go_enter Try.func80, Try.ntmps80
  go_wp2_with fail
  go_quiet (exact quiet_left (word_sign a n h0 h1 _))
  go_wp2_with fail
  go_ret
  exact ⟨rfl, _, rfl⟩

theorem alu_do_12 (w : World) (ba : Nat) (a : Int) (ha : w.cell? ⟨ba, 0, none⟩ = some (.int .u64 a)) :
    Calls Try.prog 82 #[.pointer (some ⟨ba, 0, none⟩)] w fun e w' => e = .returned (.int .u64 (IntKind.u64.wrap (-a))) ∧ w = w' := by
  go_enter Try.func82, Try.ntmps82
  go_wp2_with fail
  go_ret
  exact ⟨rfl, rfl⟩

theorem alu_do_13 (w : World) (bb : Nat) (b : Int) (hb : w.cell? ⟨bb, 0, none⟩ = some (.int .u64 b)) :
    Calls Try.prog 83 #[.pointer (some ⟨bb, 0, none⟩)] w fun e w' => e = .returned (.int .u64 (b)) ∧ w = w' := by
  go_enter Try.func83, Try.ntmps83
  go_wp2_with fail
  go_ret
  exact ⟨rfl, rfl⟩

end Go.Proofs.Ytcddpmiandgkjaa
