/- Chapter 06: what the kernel computes for the example of 'sanity'. -/
import Derived.Test.YtaecljahbmcneaaDoorBoxC
namespace Go.Proofs.YtaecljahbmcneaaDoor
open Go.RowKit Go.Shelf

def K7 : List UInt8 := [7, 0, 0, 0, 0, 0, 0, 0, 0, 0, 0, 0, 0, 0, 0, 0]
def K8 : List UInt8 := [8, 0, 0, 0, 0, 0, 0, 0, 0, 0, 0, 0, 0, 0, 0, 0]
def secL : List UInt8 := [115, 101, 99, 114, 101, 116]
def secC : List UInt8 := crypt K7 3 secL
set_option maxRecDepth 100000 in
theorem sane1 : decide (secC = secL) = false := by kernel_rfl
set_option maxRecDepth 100000 in
theorem sane2 : decide (btag K8 3 secC = btag K7 3 secC) = false := by kernel_rfl
set_option maxRecDepth 100000 in
theorem sane3 : decide (btag K7 3 [] = btag K7 3 secC) = false := by kernel_rfl
end Go.Proofs.YtaecljahbmcneaaDoor
