/- The kit's flat.. functions over no list at all (printed by wip/tools/flats.py). -/
import Derived.Test.YtjndcgpfikngaaaKit14
import Derived.Test.YtjndcgpfikngaaaProg
namespace Go.Proofs.Ytjndcgpfikngaaa
open Go.RowKit

set_option maxRecDepth 100000 in
set_option maxHeartbeats 1600000 in
theorem flatLimbs_nil (w : World) : Calls Try.prog 64 #[.slice none 0 0] w fun e w' => e = .returned (.bool true) ∧ Mod Nn w w' := by
  have hi : (Try.prog.info? 134).map (fun i => (i.zero, i.size, i.bytes)) = some (some (.slice none 0 0), 1, 24) := by kernel_rfl
  go_enter Try.func64, Try.ntmps64
  go_wp2
  go_loopw [3] (fun i wr => i = .int .i64 0 ∧ wr = w) (fun _ _ => 0)
  case atStart => exact ⟨rfl, rfl⟩
  case round =>
    obtain ⟨rfl, rfl⟩ := hrel
    go_wp2_with (first
      | (with_reducible change wpList _ _ _ (⟨some 43, _, _, _, _, _⟩ :: _) _ _
         go_must (refine wpList_make1 74 _ _ rfl rfl 134 (.slice none 0 0) 24 Try.underlying74 hi rfl 0 0 0 0 rfl rfl rfl rfl (by omega) (by omega) (by omega) ?_)
         intro w1 b1 m1 z1
         clear b1 z1))
    go_loopw [6] (fun i wr => i = .int .i64 0 ∧ wr = w1) (fun _ _ => 0)
    case atStart => exact ⟨rfl, rfl⟩
    case round =>
      obtain ⟨rfl, rfl⟩ := hrel
      go_wp2
      go_loopw [9] (fun i wx => i = .int .i64 0 ∧ wx = wr) (fun _ _ => 0)
      case atStart => exact ⟨rfl, rfl⟩
      case round =>
        obtain ⟨rfl, rfl⟩ := hrel
        go_wp2
        go_loopw [11] (fun i wx => i = .int .i64 0 ∧ wx = wr) (fun _ _ => 0)
        case atStart => exact ⟨rfl, rfl⟩
        case round =>
          obtain ⟨rfl, rfl⟩ := hrel
          go_wp2
          go_loopw [14] (fun i wx => i = .int .i64 0 ∧ wx = wr) (fun _ _ => 0)
          case atStart => exact ⟨rfl, rfl⟩
          case round =>
            obtain ⟨rfl, rfl⟩ := hrel
            go_wp2
            go_ret
            exact ⟨rfl, m1⟩
set_option maxRecDepth 100000 in
set_option maxHeartbeats 1600000 in
theorem flatWords_nil (w : World) : Calls Try.prog 65 #[.slice none 0 0] w fun e w' => e = .returned (.bool true) ∧ Mod Nn w w' := by
  have hi : (Try.prog.info? 135).map (fun i => (i.zero, i.size, i.bytes)) = some (some (.slice none 0 0), 1, 24) := by kernel_rfl
  go_enter Try.func65, Try.ntmps65
  go_wp2
  go_loopw [3] (fun i wr => i = .int .i64 0 ∧ wr = w) (fun _ _ => 0)
  case atStart => exact ⟨rfl, rfl⟩
  case round =>
    obtain ⟨rfl, rfl⟩ := hrel
    go_wp2_with (first
      | (with_reducible change wpList _ _ _ (⟨some 43, _, _, _, _, _⟩ :: _) _ _
         go_must (refine wpList_make1 75 _ _ rfl rfl 135 (.slice none 0 0) 24 Try.underlying75 hi rfl 0 0 0 0 rfl rfl rfl rfl (by omega) (by omega) (by omega) ?_)
         intro w1 b1 m1 z1
         clear b1 z1))
    go_loopw [6] (fun i wr => i = .int .i64 0 ∧ wr = w1) (fun _ _ => 0)
    case atStart => exact ⟨rfl, rfl⟩
    case round =>
      obtain ⟨rfl, rfl⟩ := hrel
      go_wp2
      go_loopw [9] (fun i wx => i = .int .i64 0 ∧ wx = wr) (fun _ _ => 0)
      case atStart => exact ⟨rfl, rfl⟩
      case round =>
        obtain ⟨rfl, rfl⟩ := hrel
        go_wp2
        go_loopw [11] (fun i wx => i = .int .i64 0 ∧ wx = wr) (fun _ _ => 0)
        case atStart => exact ⟨rfl, rfl⟩
        case round =>
          obtain ⟨rfl, rfl⟩ := hrel
          go_wp2
          go_loopw [14] (fun i wx => i = .int .i64 0 ∧ wx = wr) (fun _ _ => 0)
          case atStart => exact ⟨rfl, rfl⟩
          case round =>
            obtain ⟨rfl, rfl⟩ := hrel
            go_wp2
            go_ret
            exact ⟨rfl, m1⟩
set_option maxRecDepth 100000 in
set_option maxHeartbeats 1600000 in
theorem flatInts_nil (w : World) : Calls Try.prog 66 #[.slice none 0 0] w fun e w' => e = .returned (.bool true) ∧ Mod Nn w w' := by
  have hi : (Try.prog.info? 46).map (fun i => (i.zero, i.size, i.bytes)) = some (some (.slice none 0 0), 1, 24) := by kernel_rfl
  go_enter Try.func66, Try.ntmps66
  go_wp2
  go_loopw [3] (fun i wr => i = .int .i64 0 ∧ wr = w) (fun _ _ => 0)
  case atStart => exact ⟨rfl, rfl⟩
  case round =>
    obtain ⟨rfl, rfl⟩ := hrel
    go_wp2_with (first
      | (with_reducible change wpList _ _ _ (⟨some 42, _, _, _, _, _⟩ :: _) _ _
         go_must (refine wpList_make1 76 _ _ rfl rfl 46 (.slice none 0 0) 24 Try.underlying76 hi rfl 0 0 0 0 rfl rfl rfl rfl (by omega) (by omega) (by omega) ?_)
         intro w1 b1 m1 z1
         clear b1 z1))
    go_loopw [6] (fun i wr => i = .int .i64 0 ∧ wr = w1) (fun _ _ => 0)
    case atStart => exact ⟨rfl, rfl⟩
    case round =>
      obtain ⟨rfl, rfl⟩ := hrel
      go_wp2
      go_loopw [9] (fun i wx => i = .int .i64 0 ∧ wx = wr) (fun _ _ => 0)
      case atStart => exact ⟨rfl, rfl⟩
      case round =>
        obtain ⟨rfl, rfl⟩ := hrel
        go_wp2
        go_loopw [11] (fun i wx => i = .int .i64 0 ∧ wx = wr) (fun _ _ => 0)
        case atStart => exact ⟨rfl, rfl⟩
        case round =>
          obtain ⟨rfl, rfl⟩ := hrel
          go_wp2
          go_loopw [14] (fun i wx => i = .int .i64 0 ∧ wx = wr) (fun _ _ => 0)
          case atStart => exact ⟨rfl, rfl⟩
          case round =>
            obtain ⟨rfl, rfl⟩ := hrel
            go_wp2
            go_ret
            exact ⟨rfl, m1⟩
set_option maxRecDepth 100000 in
set_option maxHeartbeats 1600000 in
theorem flatLongs_nil (w : World) : Calls Try.prog 67 #[.slice none 0 0] w fun e w' => e = .returned (.bool true) ∧ Mod Nn w w' := by
  have hi : (Try.prog.info? 136).map (fun i => (i.zero, i.size, i.bytes)) = some (some (.slice none 0 0), 1, 24) := by kernel_rfl
  go_enter Try.func67, Try.ntmps67
  go_wp2
  go_loopw [3] (fun i wr => i = .int .i64 0 ∧ wr = w) (fun _ _ => 0)
  case atStart => exact ⟨rfl, rfl⟩
  case round =>
    obtain ⟨rfl, rfl⟩ := hrel
    go_wp2_with (first
      | (with_reducible change wpList _ _ _ (⟨some 42, _, _, _, _, _⟩ :: _) _ _
         go_must (refine wpList_make1 77 _ _ rfl rfl 136 (.slice none 0 0) 24 Try.underlying77 hi rfl 0 0 0 0 rfl rfl rfl rfl (by omega) (by omega) (by omega) ?_)
         intro w1 b1 m1 z1
         clear b1 z1))
    go_loopw [6] (fun i wr => i = .int .i64 0 ∧ wr = w1) (fun _ _ => 0)
    case atStart => exact ⟨rfl, rfl⟩
    case round =>
      obtain ⟨rfl, rfl⟩ := hrel
      go_wp2
      go_loopw [9] (fun i wx => i = .int .i64 0 ∧ wx = wr) (fun _ _ => 0)
      case atStart => exact ⟨rfl, rfl⟩
      case round =>
        obtain ⟨rfl, rfl⟩ := hrel
        go_wp2
        go_loopw [11] (fun i wx => i = .int .i64 0 ∧ wx = wr) (fun _ _ => 0)
        case atStart => exact ⟨rfl, rfl⟩
        case round =>
          obtain ⟨rfl, rfl⟩ := hrel
          go_wp2
          go_loopw [14] (fun i wx => i = .int .i64 0 ∧ wx = wr) (fun _ _ => 0)
          case atStart => exact ⟨rfl, rfl⟩
          case round =>
            obtain ⟨rfl, rfl⟩ := hrel
            go_wp2
            go_ret
            exact ⟨rfl, m1⟩
set_option maxRecDepth 100000 in
set_option maxHeartbeats 1600000 in
theorem flatTexts_nil (w : World) : Calls Try.prog 68 #[.slice none 0 0] w fun e w' => e = .returned (.bool true) ∧ Mod Nn w w' := by
  have hi : (Try.prog.info? 137).map (fun i => (i.zero, i.size, i.bytes)) = some (some (.slice none 0 0), 1, 24) := by kernel_rfl
  go_enter Try.func68, Try.ntmps68
  go_wp2
  go_loopw [3] (fun i wr => i = .int .i64 0 ∧ wr = w) (fun _ _ => 0)
  case atStart => exact ⟨rfl, rfl⟩
  case round =>
    obtain ⟨rfl, rfl⟩ := hrel
    go_wp2_with (first
      | (with_reducible change wpList _ _ _ (⟨some 42, _, _, _, _, _⟩ :: _) _ _
         go_must (refine wpList_make1 78 _ _ rfl rfl 137 (.slice none 0 0) 24 Try.underlying78 hi rfl 0 0 0 0 rfl rfl rfl rfl (by omega) (by omega) (by omega) ?_)
         intro w1 b1 m1 z1
         clear b1 z1))
    go_loopw [6] (fun i wr => i = .int .i64 0 ∧ wr = w1) (fun _ _ => 0)
    case atStart => exact ⟨rfl, rfl⟩
    case round =>
      obtain ⟨rfl, rfl⟩ := hrel
      go_wp2
      go_loopw [9] (fun i wx => i = .int .i64 0 ∧ wx = wr) (fun _ _ => 0)
      case atStart => exact ⟨rfl, rfl⟩
      case round =>
        obtain ⟨rfl, rfl⟩ := hrel
        go_wp2
        go_loopw [11] (fun i wx => i = .int .i64 0 ∧ wx = wr) (fun _ _ => 0)
        case atStart => exact ⟨rfl, rfl⟩
        case round =>
          obtain ⟨rfl, rfl⟩ := hrel
          go_wp2
          go_loopw [14] (fun i wx => i = .int .i64 0 ∧ wx = wr) (fun _ _ => 0)
          case atStart => exact ⟨rfl, rfl⟩
          case round =>
            obtain ⟨rfl, rfl⟩ := hrel
            go_wp2
            go_ret
            exact ⟨rfl, m1⟩
set_option maxRecDepth 100000 in
set_option maxHeartbeats 1600000 in
theorem flatTreeKeys_nil (w : World) : Calls Try.prog 70 #[.slice none 0 0] w fun e w' => e = .returned (.bool true) ∧ Mod Nn w w' := by
  have hi : (Try.prog.info? 45).map (fun i => (i.zero, i.size, i.bytes)) = some (some (.slice none 0 0), 1, 24) := by kernel_rfl
  go_enter Try.func70, Try.ntmps70
  go_wp2
  go_loopw [3] (fun i wr => i = .int .i64 0 ∧ wr = w) (fun _ _ => 0)
  case atStart => exact ⟨rfl, rfl⟩
  case round =>
    obtain ⟨rfl, rfl⟩ := hrel
    go_wp2_with (first
      | (with_reducible change wpList _ _ _ (⟨some 42, _, _, _, _, _⟩ :: _) _ _
         go_must (refine wpList_make1 79 _ _ rfl rfl 45 (.slice none 0 0) 24 Try.underlying79 hi rfl 0 0 0 0 rfl rfl rfl rfl (by omega) (by omega) (by omega) ?_)
         intro w1 b1 m1 z1
         clear b1 z1))
    go_loopw [6] (fun i wr => i = .int .i64 0 ∧ wr = w1) (fun _ _ => 0)
    case atStart => exact ⟨rfl, rfl⟩
    case round =>
      obtain ⟨rfl, rfl⟩ := hrel
      go_wp2
      go_loopw [9] (fun i wx => i = .int .i64 0 ∧ wx = wr) (fun _ _ => 0)
      case atStart => exact ⟨rfl, rfl⟩
      case round =>
        obtain ⟨rfl, rfl⟩ := hrel
        go_wp2
        go_loopw [11] (fun i wx => i = .int .i64 0 ∧ wx = wr) (fun _ _ => 0)
        case atStart => exact ⟨rfl, rfl⟩
        case round =>
          obtain ⟨rfl, rfl⟩ := hrel
          go_wp2
          go_loopw [14] (fun i wx => i = .int .i64 0 ∧ wx = wr) (fun _ _ => 0)
          case atStart => exact ⟨rfl, rfl⟩
          case round =>
            obtain ⟨rfl, rfl⟩ := hrel
            go_wp2
            go_ret
            exact ⟨rfl, m1⟩
set_option maxRecDepth 100000 in
set_option maxHeartbeats 1600000 in
theorem flatPieces_nil (w : World) : Calls Try.prog 71 #[.slice none 0 0] w fun e w' => e = .returned (.bool true) ∧ Mod Nn w w' := by
  have hi : (Try.prog.info? 140).map (fun i => (i.zero, i.size, i.bytes)) = some (some (.slice none 0 0), 1, 24) := by kernel_rfl
  go_enter Try.func71, Try.ntmps71
  go_wp2
  go_loopw [3] (fun i wr => i = .int .i64 0 ∧ wr = w) (fun _ _ => 0)
  case atStart => exact ⟨rfl, rfl⟩
  case round =>
    obtain ⟨rfl, rfl⟩ := hrel
    go_wp2_with (first
      | (with_reducible change wpList _ _ _ (⟨some 42, _, _, _, _, _⟩ :: _) _ _
         go_must (refine wpList_make1 80 _ _ rfl rfl 140 (.slice none 0 0) 24 Try.underlying80 hi rfl 0 0 0 0 rfl rfl rfl rfl (by omega) (by omega) (by omega) ?_)
         intro w1 b1 m1 z1
         clear b1 z1))
    go_loopw [6] (fun i wr => i = .int .i64 0 ∧ wr = w1) (fun _ _ => 0)
    case atStart => exact ⟨rfl, rfl⟩
    case round =>
      obtain ⟨rfl, rfl⟩ := hrel
      go_wp2
      go_loopw [9] (fun i wx => i = .int .i64 0 ∧ wx = wr) (fun _ _ => 0)
      case atStart => exact ⟨rfl, rfl⟩
      case round =>
        obtain ⟨rfl, rfl⟩ := hrel
        go_wp2
        go_loopw [11] (fun i wx => i = .int .i64 0 ∧ wx = wr) (fun _ _ => 0)
        case atStart => exact ⟨rfl, rfl⟩
        case round =>
          obtain ⟨rfl, rfl⟩ := hrel
          go_wp2
          go_loopw [14] (fun i wx => i = .int .i64 0 ∧ wx = wr) (fun _ _ => 0)
          case atStart => exact ⟨rfl, rfl⟩
          case round =>
            obtain ⟨rfl, rfl⟩ := hrel
            go_wp2
            go_ret
            exact ⟨rfl, m1⟩
end Go.Proofs.Ytjndcgpfikngaaa
