import Derived.Test.YtpffmolibjimgaaGreatDoorRows
import Derived.Test.YtpffmolibjimgaaGreatDoorS2
import Derived.ProofKit
import Derived.KernelRfl
/- What every row of this seat asks of the program. -/
section
namespace Go.Proofs.YtpffmolibjimgaaGreatDoor
open Go
def ordA : List Char := [.ofNat 104, .ofNat 97, .ofNat 114, .ofNat 110, .ofNat 101, .ofNat 115, .ofNat 115]
def ordB : List Char := [.ofNat 56, .ofNat 51, .ofNat 52, .ofNat 57, .ofNat 55, .ofNat 51, .ofNat 57, .ofNat 52, .ofNat 98, .ofNat 52, .ofNat 49, .ofNat 101, .ofNat 56, .ofNat 98, .ofNat 98, .ofNat 98, .ofNat 98, .ofNat 101, .ofNat 49, .ofNat 56, .ofNat 55, .ofNat 100, .ofNat 97, .ofNat 101, .ofNat 52, .ofNat 99, .ofNat 56, .ofNat 102, .ofNat 101, .ofNat 50, .ofNat 50, .ofNat 54, .ofNat 49, .ofNat 57, .ofNat 99, .ofNat 48, .ofNat 56, .ofNat 98, .ofNat 56, .ofNat 55, .ofNat 99, .ofNat 52, .ofNat 101, .ofNat 51, .ofNat 56, .ofNat 51, .ofNat 54, .ofNat 101, .ofNat 57, .ofNat 99, .ofNat 98, .ofNat 53, .ofNat 57, .ofNat 57, .ofNat 99, .ofNat 55, .ofNat 53, .ofNat 50, .ofNat 55, .ofNat 49, .ofNat 98, .ofNat 101, .ofNat 101, .ofNat 99]
def ordC : List Char := [.ofNat 99, .ofNat 117, .ofNat 116]
def ordR : List Char := [.ofNat 97, .ofNat 116, .ofNat 32, .ofNat 108, .ofNat 111, .ofNat 111, .ofNat 112, .ofNat 46, .ofNat 101, .ofNat 120, .ofNat 97, .ofNat 109, .ofNat 112, .ofNat 108, .ofNat 101, .ofNat 47, .ofNat 103, .ofNat 48, .ofNat 48, .ofNat 56, .ofNat 53, .ofNat 53, .ofNat 47, .ofNat 108, .ofNat 97, .ofNat 119, .ofNat 115, .ofNat 46, .ofNat 70, .ofNat 110, .ofNat 69, .ofNat 120, .ofNat 97, .ofNat 99, .ofNat 116, .ofNat 75, .ofNat 110, .ofNat 111, .ofNat 119, .ofNat 110, .ofNat 80, .ofNat 117, .ofNat 122, .ofNat 122, .ofNat 108, .ofNat 101, .ofNat 32, .ofNat 108, .ofNat 111, .ofNat 111, .ofNat 112, .ofNat 46, .ofNat 101, .ofNat 120, .ofNat 97, .ofNat 109, .ofNat 112, .ofNat 108, .ofNat 101, .ofNat 47, .ofNat 103, .ofNat 48, .ofNat 48, .ofNat 56, .ofNat 53, .ofNat 53, .ofNat 47, .ofNat 108, .ofNat 97, .ofNat 119, .ofNat 115, .ofNat 46, .ofNat 70, .ofNat 110, .ofNat 67, .ofNat 121, .ofNat 99, .ofNat 108, .ofNat 101, .ofNat 84, .ofNat 101, .ofNat 120, .ofNat 116, .ofNat 115, .ofNat 32, .ofNat 108, .ofNat 111, .ofNat 111, .ofNat 112, .ofNat 46, .ofNat 101, .ofNat 120, .ofNat 97, .ofNat 109, .ofNat 112, .ofNat 108, .ofNat 101, .ofNat 47, .ofNat 103, .ofNat 48, .ofNat 48, .ofNat 56, .ofNat 53, .ofNat 53, .ofNat 47, .ofNat 108, .ofNat 97, .ofNat 119, .ofNat 115, .ofNat 46, .ofNat 70, .ofNat 110, .ofNat 75, .ofNat 110, .ofNat 111, .ofNat 119, .ofNat 110, .ofNat 80, .ofNat 117, .ofNat 122, .ofNat 122, .ofNat 108, .ofNat 101, .ofNat 115]
theorem ordC_eq : ordC = "cut".toList := by kernel_rfl
theorem order_eq : Tryz.prog.initOrder = String.ofList (ordA ++ .ofNat 32 :: (ordB ++ .ofNat 32 :: (ordC ++ .ofNat 32 :: ordR))) := by kernel_rfl
theorem order_words : wordsSigns Tryz.prog.initOrder.toList = ordA :: ordB :: "cut".toList :: wordsSigns ordR := by
  rw [order_eq, String.toList_ofList, Go.Av.words_app, Go.Av.words_app, Go.Av.words_app]
  rw [show wordsSigns ordA = [ordA] from by kernel_rfl, show wordsSigns ordB = [ordB] from by kernel_rfl, show wordsSigns ordC = [ordC] from by kernel_rfl]
  rw [ordC_eq]; rfl
theorem seat_enter : Tryz.prog.mayEnter = true := Go.Av.enter_cut order_words (by kernel_rfl) (by kernel_rfl) (by kernel_rfl) (by kernel_rfl) (by kernel_rfl)
theorem seat_final : Tryz.prog.liftsFinal = false := Go.Av.final_cut order_words (by kernel_rfl) (by kernel_rfl)
theorem seat_make : Tryz.prog.make = some .cut := Go.Av.make_cut order_words (by kernel_rfl) (by kernel_rfl)
theorem own : ownKnob Tryz.prog.godebug = none := by kernel_rfl
theorem laidOut : laidOutB Tryz.prog = true := by kernel_rfl
end Go.Proofs.YtpffmolibjimgaaGreatDoor
end
