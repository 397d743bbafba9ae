-- PRINTED BY print.sh 35421559b90ae4d0a3588c463048766b98c2df88dd9212a6774a882060cdf62d: not written by this session
import Derived.Test.YthfhejfidmhklaaDoorProg
import Derived.Below
import Derived.Deep.Draws
import Derived.Deep.AppendLies
import Derived.Maps.AppendAt
import Derived.OwnWalk
import Derived.Laws.BytesArg
import Derived.Laws.MakeOwn
import Derived.Laws.OwnMore
import Derived.Deep.OwnRows
import Derived.Tactics
import Derived.Lib.ConvBytes
import Derived.Laws.Slices
import Derived.WalkKit
import Derived.KernelRfl
import Derived.RowKit3
import Derived.Deep.LoopGhost
import Derived.Deep.QuietTactic
import Derived.BigQuiet
import Derived.WideLaws
import Derived.Deep.DeepCutAuto
import Derived.Deep.CutBlock
import Derived.Deep.RegionHeld3
import Derived.Laws.Rows
import Derived.Lib.AppendStr
import Derived.ArgAppend
import Derived.Laws.IdiomCopy
import Derived.OrdersHeld
import Derived.Laws.BitsLemmas
import Derived.RowKit
import Derived.Test.YthfhejfidmhklaaDoorWWords
import Derived.Test.YthfhejfidmhklaaDoorWLast
import Derived.Test.YthfhejfidmhklaaDoorWTab
import Derived.Test.YthfhejfidmhklaaDoorWFour
import Derived.Test.YthfhejfidmhklaaDoorWQPut
import Derived.Test.YthfhejfidmhklaaDoorWApart
import Derived.Test.YthfhejfidmhklaaDoorWArr
import Derived.Test.YthfhejfidmhklaaDoorWZeros
import Derived.Test.YthfhejfidmhklaaDoorWFoot
import Derived.Test.YthfhejfidmhklaaDoorWKept
import Derived.Test.YthfhejfidmhklaaDoorWShare
import Derived.Test.YthfhejfidmhklaaDoorWN
import Derived.Test.YthfhejfidmhklaaDoorWFootNe
import Derived.Test.YthfhejfidmhklaaDoorWAt
import Derived.Test.YthfhejfidmhklaaDoorWEqStruct
import Derived.Test.YthfhejfidmhklaaDoorWRepsOne
import Derived.Test.YthfhejfidmhklaaDoorWInv
import Derived.Test.YthfhejfidmhklaaDoorWInvWords
import Derived.Test.YthfhejfidmhklaaDoorWGuard
import Derived.Test.YthfhejfidmhklaaDoorWNEv
import Derived.Test.YthfhejfidmhklaaDoorWMore
namespace Go.Proofs.YthfhejfidmhklaaDoor.PFnExactParseInt
open Go.RowKit Go.Proofs.YthfhejfidmhklaaDoorW.PrintWords Go.Proofs.YthfhejfidmhklaaDoorW.PrintLast Go.Proofs.YthfhejfidmhklaaDoorW.PrintMore
attribute [local go_sem] max2_int min2_int max_two min_two max_three min_three max_four min_four   -- for this text's walks alone
set_option linter.unusedVariables false
set_option linter.unusedSimpArgs false



def errW : Option Int → Value
  | none => .nilIface
  | some c => .iface 52 (.int .i64 c)
theorem errW_none : errW none = .nilIface := rfl
theorem errW_some (c : Int) : errW (some c) = .iface 52 (.int .i64 c) := rfl

theorem info5 : (Tryd.prog.info? 5).map (fun i => (i.zero, i.size, i.bytes)) = some (some (.int .u8 0), 1, 1) := by kernel_rfl
-- the values' own types

end Go.Proofs.YthfhejfidmhklaaDoor.PFnExactParseInt
