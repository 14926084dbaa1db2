/- Lemmas and contracts under the claims of this seat. No condition. -/
import Derived.Test.YtchinbgemenenaaGreatDoorZs9
namespace Go.Proofs.YtchinbgemenenaaGreatDoor
open Go.Proofs.Tryz
set_option linter.unusedVariables false
set_option linter.unusedSimpArgs false
set_option maxRecDepth 100000
set_option maxHeartbeats 12800000
section
open Go.RowKit
theorem ad2(s:Int)(w:World):Calls prog 134 #[s] w λe f=>e= .returned (.bool (eA s))/\w=f:=by
 by_cases a:0<=s
 ·have c:decide (0<=s)=true:=bc2 a;by_cases b:s<257
  ·rw[dD a b];have d:decide (s<257)=true:=bc2 b;go_in;go_wp2;go_ret;exact Er
  ·rw[eS E];have d:decide (s<257)=false:=bc0 b;go_in;go_wp2;go_ret;exact Er
 ·have c:decide (0<=s)=false:=bc0 a;rw[eS E];go_in;go_wp2;go_ret;exact Er
theorem Bl(a b:List Int):strOfNums a++strOfNums b=strOfNums (a++b):=by
 unfold strOfNums;rw[ByteArray.mk_append_mk,aQ2]
end
end Go.Proofs.YtchinbgemenenaaGreatDoor
