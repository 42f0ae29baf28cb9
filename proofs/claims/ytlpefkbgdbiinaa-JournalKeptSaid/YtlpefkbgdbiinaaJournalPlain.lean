/- Journals: plain facts, no program in sight. -/
import Derived.Test.YtlpefkbgdbiinaaFrameBack
import Derived.Test.YtlpefkbgdbiinaaFindPlain
set_option linter.unusedVariables false
namespace Go.Proofs.Ytlpefkbgdbiinaa
namespace Jr
open Fr
def wholeB (s : Bs) : Bool := decide ((rd 64 s.data.toList).2 = s.size)
def lok (K T : Bs) : Bool := wholeB K && wholeB (K ++ T)
def chkJ (K T : Bs) : Int := if lok K T then 0 else 1
def itemsJ (K T : Bs) : List Bs := (rd 64 (K ++ T).data.toList).1
def itemsF (K T : Bs) : List Bs × Int := if lok K T then (itemsJ K T, 0) else ([], 1)
def framed (s : Bs) : Bs := mk (encL [s])
abbrev Lg := Bs × Bs
def zL : Lg := (emptyS, emptyS)
def addJ (K T s : Bs) : Lg × Int := if lok K T then (if 400 < s.size ∨ (itemsJ K T).length = 64 then (zL, 2) else ((K, T ++ framed s), 0)) else (zL, 1)
def syncJ (K T : Bs) : Lg × Int := if lok K T then ((K ++ T, emptyS), 0) else (zL, 1)
def cutJ (s : Bs) : Bs := s.extract 0 (rd 64 s.data.toList).2
def crashJ (K T : Bs) (k : Int) : Lg × Int := if lok K T then (if k < 0 ∨ (T.size : Int) < k then (zL, 3) else ((cutJ (K ++ T.extract 0 k.toNat), emptyS), 0)) else (zL, 1)
end Jr
end Go.Proofs.Ytlpefkbgdbiinaa
