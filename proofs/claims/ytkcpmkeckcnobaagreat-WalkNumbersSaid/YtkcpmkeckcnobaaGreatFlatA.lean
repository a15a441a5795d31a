/- Own lemmas of several kinds, put together: Flat1, Flat2, Flat3. -/
import Derived.Test.YtkcpmkeckcnobaaGreatKitC
import Derived.Test.YtkcpmkeckcnobaaGreatProg
/- The kit's flat.. functions over no list at all (printed by wip/tools/flats.py). -/
namespace Go.Proofs.YtkcpmkeckcnobaaGreat
open Go.RowKit

set_option maxRecDepth 100000 in
set_option maxHeartbeats 1600000 in
theorem flatLimbs_nil (w : World) : Calls Tryz.prog 93 #[.slice none 0 0] w fun e w' => e = .returned (.bool true) ∧ Mod Nn w w' := by
  have hi : (Tryz.prog.info? 185).map (fun i => (i.zero, i.size, i.bytes)) = some (some (.slice none 0 0), 1, 24) := by kernel_rfl
  go_enter Tryz.func93, Tryz.ntmps93
  go_wp2
  go_loopw [3] (fun i wr => i = .int .i64 0 ∧ wr = w) (fun _ _ => 0)
  case atStart => exact ⟨rfl, rfl⟩
  case round =>
    obtain ⟨rfl, rfl⟩ := hrel
    go_wp2_with (first
      | (with_reducible change wpList _ _ _ (⟨some 43, _, _, _, _, _⟩ :: _) _ _
         go_must (refine wpList_make1 91 _ _ rfl rfl 185 (.slice none 0 0) 24 Tryz.underlying91 hi rfl 0 0 0 0 rfl rfl rfl rfl (by omega) (by omega) (by omega) ?_)
         intro w1 b1 m1 z1
         clear b1 z1))
    go_loopw [6] (fun i wr => i = .int .i64 0 ∧ wr = w1) (fun _ _ => 0)
    case atStart => exact ⟨rfl, rfl⟩
    case round =>
      obtain ⟨rfl, rfl⟩ := hrel
      go_wp2
      go_loopw [9] (fun i wx => i = .int .i64 0 ∧ wx = wr) (fun _ _ => 0)
      case atStart => exact ⟨rfl, rfl⟩
      case round =>
        obtain ⟨rfl, rfl⟩ := hrel
        go_wp2
        go_loopw [11] (fun i wx => i = .int .i64 0 ∧ wx = wr) (fun _ _ => 0)
        case atStart => exact ⟨rfl, rfl⟩
        case round =>
          obtain ⟨rfl, rfl⟩ := hrel
          go_wp2
          go_loopw [14] (fun i wx => i = .int .i64 0 ∧ wx = wr) (fun _ _ => 0)
          case atStart => exact ⟨rfl, rfl⟩
          case round =>
            obtain ⟨rfl, rfl⟩ := hrel
            go_wp2
            go_ret
            exact ⟨rfl, m1⟩
set_option maxRecDepth 100000 in
set_option maxHeartbeats 1600000 in
theorem flatWords_nil (w : World) : Calls Tryz.prog 94 #[.slice none 0 0] w fun e w' => e = .returned (.bool true) ∧ Mod Nn w w' := by
  have hi : (Tryz.prog.info? 186).map (fun i => (i.zero, i.size, i.bytes)) = some (some (.slice none 0 0), 1, 24) := by kernel_rfl
  go_enter Tryz.func94, Tryz.ntmps94
  go_wp2
  go_loopw [3] (fun i wr => i = .int .i64 0 ∧ wr = w) (fun _ _ => 0)
  case atStart => exact ⟨rfl, rfl⟩
  case round =>
    obtain ⟨rfl, rfl⟩ := hrel
    go_wp2_with (first
      | (with_reducible change wpList _ _ _ (⟨some 43, _, _, _, _, _⟩ :: _) _ _
         go_must (refine wpList_make1 92 _ _ rfl rfl 186 (.slice none 0 0) 24 Tryz.underlying92 hi rfl 0 0 0 0 rfl rfl rfl rfl (by omega) (by omega) (by omega) ?_)
         intro w1 b1 m1 z1
         clear b1 z1))
    go_loopw [6] (fun i wr => i = .int .i64 0 ∧ wr = w1) (fun _ _ => 0)
    case atStart => exact ⟨rfl, rfl⟩
    case round =>
      obtain ⟨rfl, rfl⟩ := hrel
      go_wp2
      go_loopw [9] (fun i wx => i = .int .i64 0 ∧ wx = wr) (fun _ _ => 0)
      case atStart => exact ⟨rfl, rfl⟩
      case round =>
        obtain ⟨rfl, rfl⟩ := hrel
        go_wp2
        go_loopw [11] (fun i wx => i = .int .i64 0 ∧ wx = wr) (fun _ _ => 0)
        case atStart => exact ⟨rfl, rfl⟩
        case round =>
          obtain ⟨rfl, rfl⟩ := hrel
          go_wp2
          go_loopw [14] (fun i wx => i = .int .i64 0 ∧ wx = wr) (fun _ _ => 0)
          case atStart => exact ⟨rfl, rfl⟩
          case round =>
            obtain ⟨rfl, rfl⟩ := hrel
            go_wp2
            go_ret
            exact ⟨rfl, m1⟩
set_option maxRecDepth 100000 in
set_option maxHeartbeats 1600000 in
theorem flatInts_nil (w : World) : Calls Tryz.prog 95 #[.slice none 0 0] w fun e w' => e = .returned (.bool true) ∧ Mod Nn w w' := by
  have hi : (Tryz.prog.info? 30).map (fun i => (i.zero, i.size, i.bytes)) = some (some (.slice none 0 0), 1, 24) := by kernel_rfl
  go_enter Tryz.func95, Tryz.ntmps95
  go_wp2
  go_loopw [3] (fun i wr => i = .int .i64 0 ∧ wr = w) (fun _ _ => 0)
  case atStart => exact ⟨rfl, rfl⟩
  case round =>
    obtain ⟨rfl, rfl⟩ := hrel
    go_wp2_with (first
      | (with_reducible change wpList _ _ _ (⟨some 42, _, _, _, _, _⟩ :: _) _ _
         go_must (refine wpList_make1 93 _ _ rfl rfl 30 (.slice none 0 0) 24 Tryz.underlying93 hi rfl 0 0 0 0 rfl rfl rfl rfl (by omega) (by omega) (by omega) ?_)
         intro w1 b1 m1 z1
         clear b1 z1))
    go_loopw [6] (fun i wr => i = .int .i64 0 ∧ wr = w1) (fun _ _ => 0)
    case atStart => exact ⟨rfl, rfl⟩
    case round =>
      obtain ⟨rfl, rfl⟩ := hrel
      go_wp2
      go_loopw [9] (fun i wx => i = .int .i64 0 ∧ wx = wr) (fun _ _ => 0)
      case atStart => exact ⟨rfl, rfl⟩
      case round =>
        obtain ⟨rfl, rfl⟩ := hrel
        go_wp2
        go_loopw [11] (fun i wx => i = .int .i64 0 ∧ wx = wr) (fun _ _ => 0)
        case atStart => exact ⟨rfl, rfl⟩
        case round =>
          obtain ⟨rfl, rfl⟩ := hrel
          go_wp2
          go_loopw [14] (fun i wx => i = .int .i64 0 ∧ wx = wr) (fun _ _ => 0)
          case atStart => exact ⟨rfl, rfl⟩
          case round =>
            obtain ⟨rfl, rfl⟩ := hrel
            go_wp2
            go_ret
            exact ⟨rfl, m1⟩
set_option maxRecDepth 100000 in
set_option maxHeartbeats 1600000 in
theorem flatLongs_nil (w : World) : Calls Tryz.prog 96 #[.slice none 0 0] w fun e w' => e = .returned (.bool true) ∧ Mod Nn w w' := by
  have hi : (Tryz.prog.info? 187).map (fun i => (i.zero, i.size, i.bytes)) = some (some (.slice none 0 0), 1, 24) := by kernel_rfl
  go_enter Tryz.func96, Tryz.ntmps96
  go_wp2
  go_loopw [3] (fun i wr => i = .int .i64 0 ∧ wr = w) (fun _ _ => 0)
  case atStart => exact ⟨rfl, rfl⟩
  case round =>
    obtain ⟨rfl, rfl⟩ := hrel
    go_wp2_with (first
      | (with_reducible change wpList _ _ _ (⟨some 42, _, _, _, _, _⟩ :: _) _ _
         go_must (refine wpList_make1 94 _ _ rfl rfl 187 (.slice none 0 0) 24 Tryz.underlying94 hi rfl 0 0 0 0 rfl rfl rfl rfl (by omega) (by omega) (by omega) ?_)
         intro w1 b1 m1 z1
         clear b1 z1))
    go_loopw [6] (fun i wr => i = .int .i64 0 ∧ wr = w1) (fun _ _ => 0)
    case atStart => exact ⟨rfl, rfl⟩
    case round =>
      obtain ⟨rfl, rfl⟩ := hrel
      go_wp2
      go_loopw [9] (fun i wx => i = .int .i64 0 ∧ wx = wr) (fun _ _ => 0)
      case atStart => exact ⟨rfl, rfl⟩
      case round =>
        obtain ⟨rfl, rfl⟩ := hrel
        go_wp2
        go_loopw [11] (fun i wx => i = .int .i64 0 ∧ wx = wr) (fun _ _ => 0)
        case atStart => exact ⟨rfl, rfl⟩
        case round =>
          obtain ⟨rfl, rfl⟩ := hrel
          go_wp2
          go_loopw [14] (fun i wx => i = .int .i64 0 ∧ wx = wr) (fun _ _ => 0)
          case atStart => exact ⟨rfl, rfl⟩
          case round =>
            obtain ⟨rfl, rfl⟩ := hrel
            go_wp2
            go_ret
            exact ⟨rfl, m1⟩
set_option maxRecDepth 100000 in
set_option maxHeartbeats 1600000 in
theorem flatTexts_nil (w : World) : Calls Tryz.prog 97 #[.slice none 0 0] w fun e w' => e = .returned (.bool true) ∧ Mod Nn w w' := by
  have hi : (Tryz.prog.info? 188).map (fun i => (i.zero, i.size, i.bytes)) = some (some (.slice none 0 0), 1, 24) := by kernel_rfl
  go_enter Tryz.func97, Tryz.ntmps97
  go_wp2
  go_loopw [3] (fun i wr => i = .int .i64 0 ∧ wr = w) (fun _ _ => 0)
  case atStart => exact ⟨rfl, rfl⟩
  case round =>
    obtain ⟨rfl, rfl⟩ := hrel
    go_wp2_with (first
      | (with_reducible change wpList _ _ _ (⟨some 42, _, _, _, _, _⟩ :: _) _ _
         go_must (refine wpList_make1 95 _ _ rfl rfl 188 (.slice none 0 0) 24 Tryz.underlying95 hi rfl 0 0 0 0 rfl rfl rfl rfl (by omega) (by omega) (by omega) ?_)
         intro w1 b1 m1 z1
         clear b1 z1))
    go_loopw [6] (fun i wr => i = .int .i64 0 ∧ wr = w1) (fun _ _ => 0)
    case atStart => exact ⟨rfl, rfl⟩
    case round =>
      obtain ⟨rfl, rfl⟩ := hrel
      go_wp2
      go_loopw [9] (fun i wx => i = .int .i64 0 ∧ wx = wr) (fun _ _ => 0)
      case atStart => exact ⟨rfl, rfl⟩
      case round =>
        obtain ⟨rfl, rfl⟩ := hrel
        go_wp2
        go_loopw [11] (fun i wx => i = .int .i64 0 ∧ wx = wr) (fun _ _ => 0)
        case atStart => exact ⟨rfl, rfl⟩
        case round =>
          obtain ⟨rfl, rfl⟩ := hrel
          go_wp2
          go_loopw [14] (fun i wx => i = .int .i64 0 ∧ wx = wr) (fun _ _ => 0)
          case atStart => exact ⟨rfl, rfl⟩
          case round =>
            obtain ⟨rfl, rfl⟩ := hrel
            go_wp2
            go_ret
            exact ⟨rfl, m1⟩
set_option maxRecDepth 100000 in
set_option maxHeartbeats 1600000 in
theorem flatTreeKeys_nil (w : World) : Calls Tryz.prog 99 #[.slice none 0 0] w fun e w' => e = .returned (.bool true) ∧ Mod Nn w w' := by
  have hi : (Tryz.prog.info? 29).map (fun i => (i.zero, i.size, i.bytes)) = some (some (.slice none 0 0), 1, 24) := by kernel_rfl
  go_enter Tryz.func99, Tryz.ntmps99
  go_wp2
  go_loopw [3] (fun i wr => i = .int .i64 0 ∧ wr = w) (fun _ _ => 0)
  case atStart => exact ⟨rfl, rfl⟩
  case round =>
    obtain ⟨rfl, rfl⟩ := hrel
    go_wp2_with (first
      | (with_reducible change wpList _ _ _ (⟨some 42, _, _, _, _, _⟩ :: _) _ _
         go_must (refine wpList_make1 96 _ _ rfl rfl 29 (.slice none 0 0) 24 Tryz.underlying96 hi rfl 0 0 0 0 rfl rfl rfl rfl (by omega) (by omega) (by omega) ?_)
         intro w1 b1 m1 z1
         clear b1 z1))
    go_loopw [6] (fun i wr => i = .int .i64 0 ∧ wr = w1) (fun _ _ => 0)
    case atStart => exact ⟨rfl, rfl⟩
    case round =>
      obtain ⟨rfl, rfl⟩ := hrel
      go_wp2
      go_loopw [9] (fun i wx => i = .int .i64 0 ∧ wx = wr) (fun _ _ => 0)
      case atStart => exact ⟨rfl, rfl⟩
      case round =>
        obtain ⟨rfl, rfl⟩ := hrel
        go_wp2
        go_loopw [11] (fun i wx => i = .int .i64 0 ∧ wx = wr) (fun _ _ => 0)
        case atStart => exact ⟨rfl, rfl⟩
        case round =>
          obtain ⟨rfl, rfl⟩ := hrel
          go_wp2
          go_loopw [14] (fun i wx => i = .int .i64 0 ∧ wx = wr) (fun _ _ => 0)
          case atStart => exact ⟨rfl, rfl⟩
          case round =>
            obtain ⟨rfl, rfl⟩ := hrel
            go_wp2
            go_ret
            exact ⟨rfl, m1⟩
set_option maxRecDepth 100000 in
set_option maxHeartbeats 1600000 in
theorem flatPieces_nil (w : World) : Calls Tryz.prog 100 #[.slice none 0 0] w fun e w' => e = .returned (.bool true) ∧ Mod Nn w w' := by
  have hi : (Tryz.prog.info? 190).map (fun i => (i.zero, i.size, i.bytes)) = some (some (.slice none 0 0), 1, 24) := by kernel_rfl
  go_enter Tryz.func100, Tryz.ntmps100
  go_wp2
  go_loopw [3] (fun i wr => i = .int .i64 0 ∧ wr = w) (fun _ _ => 0)
  case atStart => exact ⟨rfl, rfl⟩
  case round =>
    obtain ⟨rfl, rfl⟩ := hrel
    go_wp2_with (first
      | (with_reducible change wpList _ _ _ (⟨some 42, _, _, _, _, _⟩ :: _) _ _
         go_must (refine wpList_make1 97 _ _ rfl rfl 190 (.slice none 0 0) 24 Tryz.underlying97 hi rfl 0 0 0 0 rfl rfl rfl rfl (by omega) (by omega) (by omega) ?_)
         intro w1 b1 m1 z1
         clear b1 z1))
    go_loopw [6] (fun i wr => i = .int .i64 0 ∧ wr = w1) (fun _ _ => 0)
    case atStart => exact ⟨rfl, rfl⟩
    case round =>
      obtain ⟨rfl, rfl⟩ := hrel
      go_wp2
      go_loopw [9] (fun i wx => i = .int .i64 0 ∧ wx = wr) (fun _ _ => 0)
      case atStart => exact ⟨rfl, rfl⟩
      case round =>
        obtain ⟨rfl, rfl⟩ := hrel
        go_wp2
        go_loopw [11] (fun i wx => i = .int .i64 0 ∧ wx = wr) (fun _ _ => 0)
        case atStart => exact ⟨rfl, rfl⟩
        case round =>
          obtain ⟨rfl, rfl⟩ := hrel
          go_wp2
          go_loopw [14] (fun i wx => i = .int .i64 0 ∧ wx = wr) (fun _ _ => 0)
          case atStart => exact ⟨rfl, rfl⟩
          case round =>
            obtain ⟨rfl, rfl⟩ := hrel
            go_wp2
            go_ret
            exact ⟨rfl, m1⟩
end Go.Proofs.YtkcpmkeckcnobaaGreat

/- The kit's flat.. functions over no list at all (printed by wip/tools/flats.py). -/
namespace Go.Proofs.YtkcpmkeckcnobaaGreat
open Go.RowKit

set_option maxRecDepth 100000 in
set_option maxHeartbeats 1600000 in
theorem flatFates_nil (w : World) : Calls Tryz.prog 101 #[.slice none 0 0] w fun e w' => e = .returned (.bool true) ∧ Mod Nn w w' := by
  have hi : (Tryz.prog.info? 194).map (fun i => (i.zero, i.size, i.bytes)) = some (some (.slice none 0 0), 1, 24) := by kernel_rfl
  go_enter Tryz.func101, Tryz.ntmps101
  go_wp2
  go_loopw [3] (fun i wr => i = .int .i64 0 ∧ wr = w) (fun _ _ => 0)
  case atStart => exact ⟨rfl, rfl⟩
  case round =>
    obtain ⟨rfl, rfl⟩ := hrel
    go_wp2_with (first
      | (with_reducible change wpList _ _ _ (⟨some 42, _, _, _, _, _⟩ :: _) _ _
         go_must (refine wpList_make1 98 _ _ rfl rfl 194 (.slice none 0 0) 24 Tryz.underlying98 hi rfl 0 0 0 0 rfl rfl rfl rfl (by omega) (by omega) (by omega) ?_)
         intro w1 b1 m1 z1
         clear b1 z1))
    go_loopw [6] (fun i wr => i = .int .i64 0 ∧ wr = w1) (fun _ _ => 0)
    case atStart => exact ⟨rfl, rfl⟩
    case round =>
      obtain ⟨rfl, rfl⟩ := hrel
      go_wp2
      go_loopw [9] (fun i wx => i = .int .i64 0 ∧ wx = wr) (fun _ _ => 0)
      case atStart => exact ⟨rfl, rfl⟩
      case round =>
        obtain ⟨rfl, rfl⟩ := hrel
        go_wp2
        go_loopw [11] (fun i wx => i = .int .i64 0 ∧ wx = wr) (fun _ _ => 0)
        case atStart => exact ⟨rfl, rfl⟩
        case round =>
          obtain ⟨rfl, rfl⟩ := hrel
          go_wp2
          go_loopw [14] (fun i wx => i = .int .i64 0 ∧ wx = wr) (fun _ _ => 0)
          case atStart => exact ⟨rfl, rfl⟩
          case round =>
            obtain ⟨rfl, rfl⟩ := hrel
            go_wp2
            go_ret
            exact ⟨rfl, m1⟩
set_option maxRecDepth 100000 in
set_option maxHeartbeats 1600000 in
theorem flatFrames_nil (w : World) : Calls Tryz.prog 102 #[.slice none 0 0] w fun e w' => e = .returned (.bool true) ∧ Mod Nn w w' := by
  have hi : (Tryz.prog.info? 198).map (fun i => (i.zero, i.size, i.bytes)) = some (some (.slice none 0 0), 1, 24) := by kernel_rfl
  go_enter Tryz.func102, Tryz.ntmps102
  go_wp2
  go_loopw [3] (fun i wr => i = .int .i64 0 ∧ wr = w) (fun _ _ => 0)
  case atStart => exact ⟨rfl, rfl⟩
  case round =>
    obtain ⟨rfl, rfl⟩ := hrel
    go_wp2_with (first
      | (with_reducible change wpList _ _ _ (⟨some 42, _, _, _, _, _⟩ :: _) _ _
         go_must (refine wpList_make1 99 _ _ rfl rfl 198 (.slice none 0 0) 24 Tryz.underlying99 hi rfl 0 0 0 0 rfl rfl rfl rfl (by omega) (by omega) (by omega) ?_)
         intro w1 b1 m1 z1
         clear b1 z1))
    go_loopw [6] (fun i wr => i = .int .i64 0 ∧ wr = w1) (fun _ _ => 0)
    case atStart => exact ⟨rfl, rfl⟩
    case round =>
      obtain ⟨rfl, rfl⟩ := hrel
      go_wp2
      go_loopw [9] (fun i wx => i = .int .i64 0 ∧ wx = wr) (fun _ _ => 0)
      case atStart => exact ⟨rfl, rfl⟩
      case round =>
        obtain ⟨rfl, rfl⟩ := hrel
        go_wp2
        go_loopw [11] (fun i wx => i = .int .i64 0 ∧ wx = wr) (fun _ _ => 0)
        case atStart => exact ⟨rfl, rfl⟩
        case round =>
          obtain ⟨rfl, rfl⟩ := hrel
          go_wp2
          go_loopw [14] (fun i wx => i = .int .i64 0 ∧ wx = wr) (fun _ _ => 0)
          case atStart => exact ⟨rfl, rfl⟩
          case round =>
            obtain ⟨rfl, rfl⟩ := hrel
            go_wp2
            go_ret
            exact ⟨rfl, m1⟩
set_option maxRecDepth 100000 in
set_option maxHeartbeats 1600000 in
theorem flatPlaces_nil (w : World) : Calls Tryz.prog 103 #[.slice none 0 0] w fun e w' => e = .returned (.bool true) ∧ Mod Nn w w' := by
  have hi : (Tryz.prog.info? 203).map (fun i => (i.zero, i.size, i.bytes)) = some (some (.slice none 0 0), 1, 24) := by kernel_rfl
  go_enter Tryz.func103, Tryz.ntmps103
  go_wp2
  go_loopw [3] (fun i wr => i = .int .i64 0 ∧ wr = w) (fun _ _ => 0)
  case atStart => exact ⟨rfl, rfl⟩
  case round =>
    obtain ⟨rfl, rfl⟩ := hrel
    go_wp2_with (first
      | (with_reducible change wpList _ _ _ (⟨some 42, _, _, _, _, _⟩ :: _) _ _
         go_must (refine wpList_make1 100 _ _ rfl rfl 203 (.slice none 0 0) 24 Tryz.underlying100 hi rfl 0 0 0 0 rfl rfl rfl rfl (by omega) (by omega) (by omega) ?_)
         intro w1 b1 m1 z1
         clear b1 z1))
    go_loopw [6] (fun i wr => i = .int .i64 0 ∧ wr = w1) (fun _ _ => 0)
    case atStart => exact ⟨rfl, rfl⟩
    case round =>
      obtain ⟨rfl, rfl⟩ := hrel
      go_wp2
      go_loopw [9] (fun i wx => i = .int .i64 0 ∧ wx = wr) (fun _ _ => 0)
      case atStart => exact ⟨rfl, rfl⟩
      case round =>
        obtain ⟨rfl, rfl⟩ := hrel
        go_wp2
        go_loopw [11] (fun i wx => i = .int .i64 0 ∧ wx = wr) (fun _ _ => 0)
        case atStart => exact ⟨rfl, rfl⟩
        case round =>
          obtain ⟨rfl, rfl⟩ := hrel
          go_wp2
          go_loopw [14] (fun i wx => i = .int .i64 0 ∧ wx = wr) (fun _ _ => 0)
          case atStart => exact ⟨rfl, rfl⟩
          case round =>
            obtain ⟨rfl, rfl⟩ := hrel
            go_wp2
            go_ret
            exact ⟨rfl, m1⟩
set_option maxRecDepth 100000 in
set_option maxHeartbeats 1600000 in
theorem flatEntries_nil (w : World) : Calls Tryz.prog 104 #[.slice none 0 0] w fun e w' => e = .returned (.bool true) ∧ Mod Nn w w' := by
  have hi : (Tryz.prog.info? 28).map (fun i => (i.zero, i.size, i.bytes)) = some (some (.slice none 0 0), 1, 24) := by kernel_rfl
  go_enter Tryz.func104, Tryz.ntmps104
  go_wp2
  go_loopw [3] (fun i wr => i = .int .i64 0 ∧ wr = w) (fun _ _ => 0)
  case atStart => exact ⟨rfl, rfl⟩
  case round =>
    obtain ⟨rfl, rfl⟩ := hrel
    go_wp2_with (first
      | (with_reducible change wpList _ _ _ (⟨some 42, _, _, _, _, _⟩ :: _) _ _
         go_must (refine wpList_make1 52 _ _ rfl rfl 28 (.slice none 0 0) 24 Tryz.underlying52 hi rfl 0 0 0 0 rfl rfl rfl rfl (by omega) (by omega) (by omega) ?_)
         intro w1 b1 m1 z1
         clear b1 z1))
    go_loopw [6] (fun i wr => i = .int .i64 0 ∧ wr = w1) (fun _ _ => 0)
    case atStart => exact ⟨rfl, rfl⟩
    case round =>
      obtain ⟨rfl, rfl⟩ := hrel
      go_wp2
      go_loopw [9] (fun i wx => i = .int .i64 0 ∧ wx = wr) (fun _ _ => 0)
      case atStart => exact ⟨rfl, rfl⟩
      case round =>
        obtain ⟨rfl, rfl⟩ := hrel
        go_wp2
        go_loopw [11] (fun i wx => i = .int .i64 0 ∧ wx = wr) (fun _ _ => 0)
        case atStart => exact ⟨rfl, rfl⟩
        case round =>
          obtain ⟨rfl, rfl⟩ := hrel
          go_wp2
          go_loopw [14] (fun i wx => i = .int .i64 0 ∧ wx = wr) (fun _ _ => 0)
          case atStart => exact ⟨rfl, rfl⟩
          case round =>
            obtain ⟨rfl, rfl⟩ := hrel
            go_wp2
            go_ret
            exact ⟨rfl, m1⟩
set_option maxRecDepth 100000 in
set_option maxHeartbeats 1600000 in
theorem flatNodes_nil (w : World) : Calls Tryz.prog 105 #[.slice none 0 0] w fun e w' => e = .returned (.bool true) ∧ Mod Nn w w' := by
  have hi : (Tryz.prog.info? 22).map (fun i => (i.zero, i.size, i.bytes)) = some (some (.slice none 0 0), 1, 24) := by kernel_rfl
  go_enter Tryz.func105, Tryz.ntmps105
  go_wp2
  go_loopw [3] (fun i wr => i = .int .i64 0 ∧ wr = w) (fun _ _ => 0)
  case atStart => exact ⟨rfl, rfl⟩
  case round =>
    obtain ⟨rfl, rfl⟩ := hrel
    go_wp2_with (first
      | (with_reducible change wpList _ _ _ (⟨some 42, _, _, _, _, _⟩ :: _) _ _
         go_must (refine wpList_make1 67 _ _ rfl rfl 22 (.slice none 0 0) 24 Tryz.underlying67 hi rfl 0 0 0 0 rfl rfl rfl rfl (by omega) (by omega) (by omega) ?_)
         intro w1 b1 m1 z1
         clear b1 z1))
    go_loopw [6] (fun i wr => i = .int .i64 0 ∧ wr = w1) (fun _ _ => 0)
    case atStart => exact ⟨rfl, rfl⟩
    case round =>
      obtain ⟨rfl, rfl⟩ := hrel
      go_wp2
      go_loopw [9] (fun i wx => i = .int .i64 0 ∧ wx = wr) (fun _ _ => 0)
      case atStart => exact ⟨rfl, rfl⟩
      case round =>
        obtain ⟨rfl, rfl⟩ := hrel
        go_wp2
        go_loopw [11] (fun i wx => i = .int .i64 0 ∧ wx = wr) (fun _ _ => 0)
        case atStart => exact ⟨rfl, rfl⟩
        case round =>
          obtain ⟨rfl, rfl⟩ := hrel
          go_wp2
          go_loopw [14] (fun i wx => i = .int .i64 0 ∧ wx = wr) (fun _ _ => 0)
          case atStart => exact ⟨rfl, rfl⟩
          case round =>
            obtain ⟨rfl, rfl⟩ := hrel
            go_wp2
            go_ret
            exact ⟨rfl, m1⟩
set_option maxRecDepth 100000 in
set_option maxHeartbeats 1600000 in
theorem flatItems_nil (w : World) : Calls Tryz.prog 106 #[.slice none 0 0] w fun e w' => e = .returned (.bool true) ∧ Mod Nn w w' := by
  have hi : (Tryz.prog.info? 208).map (fun i => (i.zero, i.size, i.bytes)) = some (some (.slice none 0 0), 1, 24) := by kernel_rfl
  go_enter Tryz.func106, Tryz.ntmps106
  go_wp2
  go_loopw [3] (fun i wr => i = .int .i64 0 ∧ wr = w) (fun _ _ => 0)
  case atStart => exact ⟨rfl, rfl⟩
  case round =>
    obtain ⟨rfl, rfl⟩ := hrel
    go_wp2_with (first
      | (with_reducible change wpList _ _ _ (⟨some 42, _, _, _, _, _⟩ :: _) _ _
         go_must (refine wpList_make1 101 _ _ rfl rfl 208 (.slice none 0 0) 24 Tryz.underlying101 hi rfl 0 0 0 0 rfl rfl rfl rfl (by omega) (by omega) (by omega) ?_)
         intro w1 b1 m1 z1
         clear b1 z1))
    go_loopw [6] (fun i wr => i = .int .i64 0 ∧ wr = w1) (fun _ _ => 0)
    case atStart => exact ⟨rfl, rfl⟩
    case round =>
      obtain ⟨rfl, rfl⟩ := hrel
      go_wp2
      go_loopw [9] (fun i wx => i = .int .i64 0 ∧ wx = wr) (fun _ _ => 0)
      case atStart => exact ⟨rfl, rfl⟩
      case round =>
        obtain ⟨rfl, rfl⟩ := hrel
        go_wp2
        go_loopw [11] (fun i wx => i = .int .i64 0 ∧ wx = wr) (fun _ _ => 0)
        case atStart => exact ⟨rfl, rfl⟩
        case round =>
          obtain ⟨rfl, rfl⟩ := hrel
          go_wp2
          go_loopw [14] (fun i wx => i = .int .i64 0 ∧ wx = wr) (fun _ _ => 0)
          case atStart => exact ⟨rfl, rfl⟩
          case round =>
            obtain ⟨rfl, rfl⟩ := hrel
            go_wp2
            go_ret
            exact ⟨rfl, m1⟩
set_option maxRecDepth 100000 in
set_option maxHeartbeats 1600000 in
theorem flatCounts_nil (w : World) : Calls Tryz.prog 107 #[.slice none 0 0] w fun e w' => e = .returned (.bool true) ∧ Mod Nn w w' := by
  have hi : (Tryz.prog.info? 217).map (fun i => (i.zero, i.size, i.bytes)) = some (some (.slice none 0 0), 1, 24) := by kernel_rfl
  go_enter Tryz.func107, Tryz.ntmps107
  go_wp2
  go_loopw [3] (fun i wr => i = .int .i64 0 ∧ wr = w) (fun _ _ => 0)
  case atStart => exact ⟨rfl, rfl⟩
  case round =>
    obtain ⟨rfl, rfl⟩ := hrel
    go_wp2_with (first
      | (with_reducible change wpList _ _ _ (⟨some 42, _, _, _, _, _⟩ :: _) _ _
         go_must (refine wpList_make1 102 _ _ rfl rfl 217 (.slice none 0 0) 24 Tryz.underlying102 hi rfl 0 0 0 0 rfl rfl rfl rfl (by omega) (by omega) (by omega) ?_)
         intro w1 b1 m1 z1
         clear b1 z1))
    go_loopw [6] (fun i wr => i = .int .i64 0 ∧ wr = w1) (fun _ _ => 0)
    case atStart => exact ⟨rfl, rfl⟩
    case round =>
      obtain ⟨rfl, rfl⟩ := hrel
      go_wp2
      go_loopw [9] (fun i wx => i = .int .i64 0 ∧ wx = wr) (fun _ _ => 0)
      case atStart => exact ⟨rfl, rfl⟩
      case round =>
        obtain ⟨rfl, rfl⟩ := hrel
        go_wp2
        go_loopw [11] (fun i wx => i = .int .i64 0 ∧ wx = wr) (fun _ _ => 0)
        case atStart => exact ⟨rfl, rfl⟩
        case round =>
          obtain ⟨rfl, rfl⟩ := hrel
          go_wp2
          go_loopw [14] (fun i wx => i = .int .i64 0 ∧ wx = wr) (fun _ _ => 0)
          case atStart => exact ⟨rfl, rfl⟩
          case round =>
            obtain ⟨rfl, rfl⟩ := hrel
            go_wp2
            go_ret
            exact ⟨rfl, m1⟩
end Go.Proofs.YtkcpmkeckcnobaaGreat

/- The kit's flat.. functions over no list at all (printed by wip/tools/flats.py). -/
namespace Go.Proofs.YtkcpmkeckcnobaaGreat
open Go.RowKit

set_option maxRecDepth 100000 in
set_option maxHeartbeats 1600000 in
theorem flatFreshes_nil (w : World) : Calls Tryz.prog 108 #[.slice none 0 0] w fun e w' => e = .returned (.bool true) ∧ Mod Nn w w' := by
  have hi : (Tryz.prog.info? 221).map (fun i => (i.zero, i.size, i.bytes)) = some (some (.slice none 0 0), 1, 24) := by kernel_rfl
  go_enter Tryz.func108, Tryz.ntmps108
  go_wp2
  go_loopw [3] (fun i wr => i = .int .i64 0 ∧ wr = w) (fun _ _ => 0)
  case atStart => exact ⟨rfl, rfl⟩
  case round =>
    obtain ⟨rfl, rfl⟩ := hrel
    go_wp2_with (first
      | (with_reducible change wpList _ _ _ (⟨some 42, _, _, _, _, _⟩ :: _) _ _
         go_must (refine wpList_make1 103 _ _ rfl rfl 221 (.slice none 0 0) 24 Tryz.underlying103 hi rfl 0 0 0 0 rfl rfl rfl rfl (by omega) (by omega) (by omega) ?_)
         intro w1 b1 m1 z1
         clear b1 z1))
    go_loopw [6] (fun i wr => i = .int .i64 0 ∧ wr = w1) (fun _ _ => 0)
    case atStart => exact ⟨rfl, rfl⟩
    case round =>
      obtain ⟨rfl, rfl⟩ := hrel
      go_wp2
      go_loopw [9] (fun i wx => i = .int .i64 0 ∧ wx = wr) (fun _ _ => 0)
      case atStart => exact ⟨rfl, rfl⟩
      case round =>
        obtain ⟨rfl, rfl⟩ := hrel
        go_wp2
        go_loopw [11] (fun i wx => i = .int .i64 0 ∧ wx = wr) (fun _ _ => 0)
        case atStart => exact ⟨rfl, rfl⟩
        case round =>
          obtain ⟨rfl, rfl⟩ := hrel
          go_wp2
          go_loopw [14] (fun i wx => i = .int .i64 0 ∧ wx = wr) (fun _ _ => 0)
          case atStart => exact ⟨rfl, rfl⟩
          case round =>
            obtain ⟨rfl, rfl⟩ := hrel
            go_wp2
            go_ret
            exact ⟨rfl, m1⟩
set_option maxRecDepth 100000 in
set_option maxHeartbeats 1600000 in
theorem flatPuts_nil (w : World) : Calls Tryz.prog 109 #[.slice none 0 0] w fun e w' => e = .returned (.bool true) ∧ Mod Nn w w' := by
  have hi : (Tryz.prog.info? 225).map (fun i => (i.zero, i.size, i.bytes)) = some (some (.slice none 0 0), 1, 24) := by kernel_rfl
  go_enter Tryz.func109, Tryz.ntmps109
  go_wp2
  go_loopw [3] (fun i wr => i = .int .i64 0 ∧ wr = w) (fun _ _ => 0)
  case atStart => exact ⟨rfl, rfl⟩
  case round =>
    obtain ⟨rfl, rfl⟩ := hrel
    go_wp2_with (first
      | (with_reducible change wpList _ _ _ (⟨some 42, _, _, _, _, _⟩ :: _) _ _
         go_must (refine wpList_make1 104 _ _ rfl rfl 225 (.slice none 0 0) 24 Tryz.underlying104 hi rfl 0 0 0 0 rfl rfl rfl rfl (by omega) (by omega) (by omega) ?_)
         intro w1 b1 m1 z1
         clear b1 z1))
    go_loopw [6] (fun i wr => i = .int .i64 0 ∧ wr = w1) (fun _ _ => 0)
    case atStart => exact ⟨rfl, rfl⟩
    case round =>
      obtain ⟨rfl, rfl⟩ := hrel
      go_wp2
      go_loopw [9] (fun i wx => i = .int .i64 0 ∧ wx = wr) (fun _ _ => 0)
      case atStart => exact ⟨rfl, rfl⟩
      case round =>
        obtain ⟨rfl, rfl⟩ := hrel
        go_wp2
        go_loopw [11] (fun i wx => i = .int .i64 0 ∧ wx = wr) (fun _ _ => 0)
        case atStart => exact ⟨rfl, rfl⟩
        case round =>
          obtain ⟨rfl, rfl⟩ := hrel
          go_wp2
          go_loopw [14] (fun i wx => i = .int .i64 0 ∧ wx = wr) (fun _ _ => 0)
          case atStart => exact ⟨rfl, rfl⟩
          case round =>
            obtain ⟨rfl, rfl⟩ := hrel
            go_wp2
            go_ret
            exact ⟨rfl, m1⟩
set_option maxRecDepth 100000 in
set_option maxHeartbeats 1600000 in
theorem flatOps_nil (w : World) : Calls Tryz.prog 110 #[.slice none 0 0] w fun e w' => e = .returned (.bool true) ∧ Mod Nn w w' := by
  have hi : (Tryz.prog.info? 229).map (fun i => (i.zero, i.size, i.bytes)) = some (some (.slice none 0 0), 1, 24) := by kernel_rfl
  go_enter Tryz.func110, Tryz.ntmps110
  go_wp2
  go_loopw [3] (fun i wr => i = .int .i64 0 ∧ wr = w) (fun _ _ => 0)
  case atStart => exact ⟨rfl, rfl⟩
  case round =>
    obtain ⟨rfl, rfl⟩ := hrel
    go_wp2_with (first
      | (with_reducible change wpList _ _ _ (⟨some 42, _, _, _, _, _⟩ :: _) _ _
         go_must (refine wpList_make1 105 _ _ rfl rfl 229 (.slice none 0 0) 24 Tryz.underlying105 hi rfl 0 0 0 0 rfl rfl rfl rfl (by omega) (by omega) (by omega) ?_)
         intro w1 b1 m1 z1
         clear b1 z1))
    go_loopw [6] (fun i wr => i = .int .i64 0 ∧ wr = w1) (fun _ _ => 0)
    case atStart => exact ⟨rfl, rfl⟩
    case round =>
      obtain ⟨rfl, rfl⟩ := hrel
      go_wp2
      go_loopw [9] (fun i wx => i = .int .i64 0 ∧ wx = wr) (fun _ _ => 0)
      case atStart => exact ⟨rfl, rfl⟩
      case round =>
        obtain ⟨rfl, rfl⟩ := hrel
        go_wp2
        go_loopw [11] (fun i wx => i = .int .i64 0 ∧ wx = wr) (fun _ _ => 0)
        case atStart => exact ⟨rfl, rfl⟩
        case round =>
          obtain ⟨rfl, rfl⟩ := hrel
          go_wp2
          go_loopw [14] (fun i wx => i = .int .i64 0 ∧ wx = wr) (fun _ _ => 0)
          case atStart => exact ⟨rfl, rfl⟩
          case round =>
            obtain ⟨rfl, rfl⟩ := hrel
            go_wp2
            go_ret
            exact ⟨rfl, m1⟩
set_option maxRecDepth 100000 in
set_option maxHeartbeats 1600000 in
theorem flatSteps_nil (w : World) : Calls Tryz.prog 111 #[.slice none 0 0] w fun e w' => e = .returned (.bool true) ∧ Mod Nn w w' := by
  have hi : (Tryz.prog.info? 235).map (fun i => (i.zero, i.size, i.bytes)) = some (some (.slice none 0 0), 1, 24) := by kernel_rfl
  go_enter Tryz.func111, Tryz.ntmps111
  go_wp2
  go_loopw [3] (fun i wr => i = .int .i64 0 ∧ wr = w) (fun _ _ => 0)
  case atStart => exact ⟨rfl, rfl⟩
  case round =>
    obtain ⟨rfl, rfl⟩ := hrel
    go_wp2_with (first
      | (with_reducible change wpList _ _ _ (⟨some 42, _, _, _, _, _⟩ :: _) _ _
         go_must (refine wpList_make1 106 _ _ rfl rfl 235 (.slice none 0 0) 24 Tryz.underlying106 hi rfl 0 0 0 0 rfl rfl rfl rfl (by omega) (by omega) (by omega) ?_)
         intro w1 b1 m1 z1
         clear b1 z1))
    go_loopw [6] (fun i wr => i = .int .i64 0 ∧ wr = w1) (fun _ _ => 0)
    case atStart => exact ⟨rfl, rfl⟩
    case round =>
      obtain ⟨rfl, rfl⟩ := hrel
      go_wp2
      go_loopw [9] (fun i wx => i = .int .i64 0 ∧ wx = wr) (fun _ _ => 0)
      case atStart => exact ⟨rfl, rfl⟩
      case round =>
        obtain ⟨rfl, rfl⟩ := hrel
        go_wp2
        go_loopw [11] (fun i wx => i = .int .i64 0 ∧ wx = wr) (fun _ _ => 0)
        case atStart => exact ⟨rfl, rfl⟩
        case round =>
          obtain ⟨rfl, rfl⟩ := hrel
          go_wp2
          go_loopw [14] (fun i wx => i = .int .i64 0 ∧ wx = wr) (fun _ _ => 0)
          case atStart => exact ⟨rfl, rfl⟩
          case round =>
            obtain ⟨rfl, rfl⟩ := hrel
            go_wp2
            go_ret
            exact ⟨rfl, m1⟩
set_option maxRecDepth 100000 in
set_option maxHeartbeats 1600000 in
theorem flatStats_nil (w : World) : Calls Tryz.prog 112 #[.slice none 0 0] w fun e w' => e = .returned (.bool true) ∧ Mod Nn w w' := by
  have hi : (Tryz.prog.info? 241).map (fun i => (i.zero, i.size, i.bytes)) = some (some (.slice none 0 0), 1, 24) := by kernel_rfl
  go_enter Tryz.func112, Tryz.ntmps112
  go_wp2
  go_loopw [3] (fun i wr => i = .int .i64 0 ∧ wr = w) (fun _ _ => 0)
  case atStart => exact ⟨rfl, rfl⟩
  case round =>
    obtain ⟨rfl, rfl⟩ := hrel
    go_wp2_with (first
      | (with_reducible change wpList _ _ _ (⟨some 42, _, _, _, _, _⟩ :: _) _ _
         go_must (refine wpList_make1 107 _ _ rfl rfl 241 (.slice none 0 0) 24 Tryz.underlying107 hi rfl 0 0 0 0 rfl rfl rfl rfl (by omega) (by omega) (by omega) ?_)
         intro w1 b1 m1 z1
         clear b1 z1))
    go_loopw [6] (fun i wr => i = .int .i64 0 ∧ wr = w1) (fun _ _ => 0)
    case atStart => exact ⟨rfl, rfl⟩
    case round =>
      obtain ⟨rfl, rfl⟩ := hrel
      go_wp2
      go_loopw [9] (fun i wx => i = .int .i64 0 ∧ wx = wr) (fun _ _ => 0)
      case atStart => exact ⟨rfl, rfl⟩
      case round =>
        obtain ⟨rfl, rfl⟩ := hrel
        go_wp2
        go_loopw [11] (fun i wx => i = .int .i64 0 ∧ wx = wr) (fun _ _ => 0)
        case atStart => exact ⟨rfl, rfl⟩
        case round =>
          obtain ⟨rfl, rfl⟩ := hrel
          go_wp2
          go_loopw [14] (fun i wx => i = .int .i64 0 ∧ wx = wr) (fun _ _ => 0)
          case atStart => exact ⟨rfl, rfl⟩
          case round =>
            obtain ⟨rfl, rfl⟩ := hrel
            go_wp2
            go_ret
            exact ⟨rfl, m1⟩
set_option maxRecDepth 100000 in
set_option maxHeartbeats 1600000 in
theorem flatTales_nil (w : World) : Calls Tryz.prog 113 #[.slice none 0 0] w fun e w' => e = .returned (.bool true) ∧ Mod Nn w w' := by
  have hi : (Tryz.prog.info? 248).map (fun i => (i.zero, i.size, i.bytes)) = some (some (.slice none 0 0), 1, 24) := by kernel_rfl
  go_enter Tryz.func113, Tryz.ntmps113
  go_wp2
  go_loopw [3] (fun i wr => i = .int .i64 0 ∧ wr = w) (fun _ _ => 0)
  case atStart => exact ⟨rfl, rfl⟩
  case round =>
    obtain ⟨rfl, rfl⟩ := hrel
    go_wp2_with (first
      | (with_reducible change wpList _ _ _ (⟨some 42, _, _, _, _, _⟩ :: _) _ _
         go_must (refine wpList_make1 108 _ _ rfl rfl 248 (.slice none 0 0) 24 Tryz.underlying108 hi rfl 0 0 0 0 rfl rfl rfl rfl (by omega) (by omega) (by omega) ?_)
         intro w1 b1 m1 z1
         clear b1 z1))
    go_loopw [6] (fun i wr => i = .int .i64 0 ∧ wr = w1) (fun _ _ => 0)
    case atStart => exact ⟨rfl, rfl⟩
    case round =>
      obtain ⟨rfl, rfl⟩ := hrel
      go_wp2
      go_loopw [9] (fun i wx => i = .int .i64 0 ∧ wx = wr) (fun _ _ => 0)
      case atStart => exact ⟨rfl, rfl⟩
      case round =>
        obtain ⟨rfl, rfl⟩ := hrel
        go_wp2
        go_loopw [11] (fun i wx => i = .int .i64 0 ∧ wx = wr) (fun _ _ => 0)
        case atStart => exact ⟨rfl, rfl⟩
        case round =>
          obtain ⟨rfl, rfl⟩ := hrel
          go_wp2
          go_loopw [14] (fun i wx => i = .int .i64 0 ∧ wx = wr) (fun _ _ => 0)
          case atStart => exact ⟨rfl, rfl⟩
          case round =>
            obtain ⟨rfl, rfl⟩ := hrel
            go_wp2
            go_ret
            exact ⟨rfl, m1⟩
end Go.Proofs.YtkcpmkeckcnobaaGreat
