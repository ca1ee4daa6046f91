import Derived.Test.YtdlgipoaimgbpaaWordWalks
import Derived.Test.YtdlgipoaimgbpaaMaps
import Derived.Test.YtdlgipoaimgbpaaWf
/-! The thirteen closures of alu.Does; its small helpers. -/
namespace Go.Proofs.Ytdlgipoaimgbpaa
open Go.RowKit Go.Maps
set_option maxHeartbeats 1000000
set_option maxRecDepth 100000

theorem alu_size (w : World) (wide : Bool) : Calls Try.prog 31 #[.bool wide] w fun e w' => e = .returned (.int .i64 (if wide then 8 else 4)) ∧ w = w' := by
  cases wide
  all_goals
    go_enter Try.func31, Try.ntmps31
    go_wp2
    go_ret
    exact ⟨rfl, rfl⟩

theorem alu_do_1 (w : World) (ba bb : Nat) (a b : Int) (ha : w.cell? ⟨ba, 0, none⟩ = some (.int .u64 a)) (hb : w.cell? ⟨bb, 0, none⟩ = some (.int .u64 b)) :
    Calls Try.prog 34 #[.pointer (some ⟨ba, 0, none⟩), .pointer (some ⟨bb, 0, none⟩)] w fun e w' => e = .returned (.int .u64 (IntKind.u64.wrap (a + b))) ∧ w = w' := by
  go_enter Try.func34, Try.ntmps34
  go_wp2_with fail
  go_ret
  exact ⟨rfl, rfl⟩

theorem alu_do_2 (w : World) (ba bb : Nat) (a b : Int) (ha : w.cell? ⟨ba, 0, none⟩ = some (.int .u64 a)) (hb : w.cell? ⟨bb, 0, none⟩ = some (.int .u64 b)) :
    Calls Try.prog 35 #[.pointer (some ⟨ba, 0, none⟩), .pointer (some ⟨bb, 0, none⟩)] w fun e w' => e = .returned (.int .u64 (IntKind.u64.wrap (a - b))) ∧ w = w' := by
  go_enter Try.func35, Try.ntmps35
  go_wp2_with fail
  go_ret
  exact ⟨rfl, rfl⟩

theorem alu_do_3 (w : World) (ba bb : Nat) (a b : Int) (ha : w.cell? ⟨ba, 0, none⟩ = some (.int .u64 a)) (hb : w.cell? ⟨bb, 0, none⟩ = some (.int .u64 b)) :
    Calls Try.prog 36 #[.pointer (some ⟨ba, 0, none⟩), .pointer (some ⟨bb, 0, none⟩)] w fun e w' => e = .returned (.int .u64 (IntKind.u64.wrap (a * b))) ∧ w = w' := by
  go_enter Try.func36, Try.ntmps36
  go_wp2_with fail
  go_ret
  exact ⟨rfl, rfl⟩

theorem alu_do_4 (w : World) (bq : Nat) (q : Int) (hq : w.cell? ⟨bq, 0, none⟩ = some (.int .u64 q)) :
    Calls Try.prog 37 #[.pointer (some ⟨bq, 0, none⟩)] w fun e w' => e = .returned (.int .u64 (q)) ∧ w = w' := by
  go_enter Try.func37, Try.ntmps37
  go_wp2_with fail
  go_ret
  exact ⟨rfl, rfl⟩

theorem alu_do_5 (w : World) (br : Nat) (r : Int) (hr : w.cell? ⟨br, 0, none⟩ = some (.int .u64 r)) :
    Calls Try.prog 38 #[.pointer (some ⟨br, 0, none⟩)] w fun e w' => e = .returned (.int .u64 (r)) ∧ w = w' := by
  go_enter Try.func38, Try.ntmps38
  go_wp2_with fail
  go_ret
  exact ⟨rfl, rfl⟩

theorem alu_do_6 (w : World) (ba bb : Nat) (a b : Int) (ha : w.cell? ⟨ba, 0, none⟩ = some (.int .u64 a)) (hb : w.cell? ⟨bb, 0, none⟩ = some (.int .u64 b)) :
    Calls Try.prog 39 #[.pointer (some ⟨ba, 0, none⟩), .pointer (some ⟨bb, 0, none⟩)] w fun e w' => e = .returned (.int .u64 (bits .or .u64 a b)) ∧ w = w' := by
  go_enter Try.func39, Try.ntmps39
  go_wp2_with fail
  go_ret
  exact ⟨rfl, rfl⟩

theorem alu_do_7 (w : World) (ba bb : Nat) (a b : Int) (ha : w.cell? ⟨ba, 0, none⟩ = some (.int .u64 a)) (hb : w.cell? ⟨bb, 0, none⟩ = some (.int .u64 b)) :
    Calls Try.prog 40 #[.pointer (some ⟨ba, 0, none⟩), .pointer (some ⟨bb, 0, none⟩)] w fun e w' => e = .returned (.int .u64 (bits .and .u64 a b)) ∧ w = w' := by
  go_enter Try.func40, Try.ntmps40
  go_wp2_with fail
  go_ret
  exact ⟨rfl, rfl⟩

theorem alu_do_8 (w : World) (ba bb : Nat) (a b : Int) (ha : w.cell? ⟨ba, 0, none⟩ = some (.int .u64 a)) (hb : w.cell? ⟨bb, 0, none⟩ = some (.int .u64 b)) :
    Calls Try.prog 41 #[.pointer (some ⟨ba, 0, none⟩), .pointer (some ⟨bb, 0, none⟩)] w fun e w' => e = .returned (.int .u64 (bits .xor .u64 a b)) ∧ w = w' := by
  go_enter Try.func41, Try.ntmps41
  go_wp2_with fail
  go_ret
  exact ⟨rfl, rfl⟩

theorem alu_do_9 (w : World) (ba bs : Nat) (a s : Int) (ha : w.cell? ⟨ba, 0, none⟩ = some (.int .u64 a)) (hs : w.cell? ⟨bs, 0, none⟩ = some (.int .u64 s)) (_ : 0 ≤ s) (_ : s < 64) :
    Calls Try.prog 42 #[.pointer (some ⟨ba, 0, none⟩), .pointer (some ⟨bs, 0, none⟩)] w fun e w' => e = .returned (.int .u64 (IntKind.u64.wrap (a * 2 ^ s.toNat))) ∧ w = w' := by
  go_enter Try.func42, Try.ntmps42
  go_wp2_with fail
  go_ret
  exact ⟨rfl, rfl⟩

theorem alu_do_10 (w : World) (ba bs : Nat) (a s : Int) (ha : w.cell? ⟨ba, 0, none⟩ = some (.int .u64 a)) (hs : w.cell? ⟨bs, 0, none⟩ = some (.int .u64 s)) (_ : 0 ≤ s) (_ : s < 64) :
    Calls Try.prog 43 #[.pointer (some ⟨ba, 0, none⟩), .pointer (some ⟨bs, 0, none⟩)] w fun e w' => e = .returned (.int .u64 (a / 2 ^ s.toNat)) ∧ w = w' := by
  go_enter Try.func43, Try.ntmps43
  go_wp2_with fail
  go_ret
  exact ⟨rfl, rfl⟩

theorem alu_do_11 (w : World) (ba bn bs : Nat) (a n s : Int) (ha : w.cell? ⟨ba, 0, none⟩ = some (.int .u64 a)) (hn : w.cell? ⟨bn, 0, none⟩ = some (.int .i64 n)) (hs : w.cell? ⟨bs, 0, none⟩ = some (.int .u64 s)) (h0 : 0 ≤ a) (h1 : a < 18446744073709551616) (_ : 0 ≤ s) (_ : s < 64) :
    Calls Try.prog 44 #[.pointer (some ⟨ba, 0, none⟩), .pointer (some ⟨bn, 0, none⟩), .pointer (some ⟨bs, 0, none⟩)] w fun e w' => e = .returned (.int .u64 (IntKind.u64.wrap (wordSign a n / 2 ^ s.toNat))) ∧ ∃ k, w' = w.drewN k := by
  go_enter Try.func44, Try.ntmps44
  go_wp2_with fail
  go_quiet (exact quiet_left (word_sign a n h0 h1 _))
  go_wp2_with fail
  go_ret
  exact ⟨rfl, _, rfl⟩

theorem alu_do_12 (w : World) (ba : Nat) (a : Int) (ha : w.cell? ⟨ba, 0, none⟩ = some (.int .u64 a)) :
    Calls Try.prog 46 #[.pointer (some ⟨ba, 0, none⟩)] w fun e w' => e = .returned (.int .u64 (IntKind.u64.wrap (-a))) ∧ w = w' := by
  go_enter Try.func46, Try.ntmps46
  go_wp2_with fail
  go_ret
  exact ⟨rfl, rfl⟩

theorem alu_do_13 (w : World) (bb : Nat) (b : Int) (hb : w.cell? ⟨bb, 0, none⟩ = some (.int .u64 b)) :
    Calls Try.prog 47 #[.pointer (some ⟨bb, 0, none⟩)] w fun e w' => e = .returned (.int .u64 (b)) ∧ w = w' := by
  go_enter Try.func47, Try.ntmps47
  go_wp2_with fail
  go_ret
  exact ⟨rfl, rfl⟩

end Go.Proofs.Ytdlgipoaimgbpaa
