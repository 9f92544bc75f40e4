import Derived.Test.YtcaahphghaddgaaGreatDoorEXL
import Derived.Test.YtcaahphghaddgaaGreatDoorEXP
import Derived.Test.YtcaahphghaddgaaGreatDoorEXY
/- Text XH. -/
namespace Go.Proofs.YtcaahphghaddgaaGreatDoor
open Go.RowKit Lim
def sigL:List (Nat × Sig):=[
 (15,[.c (.int .i64)]),
 (16,[.c (.int .i64)]),
 (39,[.c .bool]),
 (42,[.c .bool]),
 (43,[.c (.int .i64)]),
 (44,[.c (.int .i64)]),
 (55,[.c .str,.c .str,.c .bool]),
 (76,[.c .bool]),
 (77,[.c .bool]),
 (78,[.c (.int .i64)]),
 (79,[.c (.int .i64)]),
 (106,[.agg [.str,.str,.str,.str,.str],.c (.int .i64),.c .bool]),
 (107,[.c .bool]),
 (108,[.c (.int .i64)])]
def sigT:List (Nat × Sig):=[(3,[.c (.int .i64)]),(4,[.c .bool]),(9,[.c .str]),(25,[.c (.int .i64)]),(36,[.c (.sl 3 (.pair (.sl 1 (.int .i64)) (.pair (.int .i64) (.int .i64))))])]
def methL : List MeRow := [⟨131, "examboard/blueprint.broken", 207, some (4, 0, 3)⟩, ⟨131, "examboard/blueprint.check", 212, none⟩, ⟨131, "examboard/blueprint.exceeded", 208, some (4, 0, 3)⟩, ⟨131, "examboard/blueprint.line", 213, none⟩, ⟨131, "examboard/blueprint.rows", 209, some (4, 0, 3)⟩, ⟨133, "examboard/blueprint.broken", 207, some (3, 0, 3)⟩, ⟨133, "examboard/blueprint.check", 206, some (3, 0, 2)⟩, ⟨133, "examboard/blueprint.exceeded", 208, some (3, 0, 3)⟩, ⟨133, "examboard/blueprint.line", 214, none⟩, ⟨133, "examboard/blueprint.rows", 209, some (3, 0, 3)⟩, ⟨134, "examboard/blueprint.broken", 207, some (3, 0, 3)⟩, ⟨134, "examboard/blueprint.check", 206, some (3, 0, 2)⟩, ⟨134, "examboard/blueprint.exceeded", 208, some (3, 0, 3)⟩, ⟨134, "examboard/blueprint.line", 215, none⟩, ⟨134, "examboard/blueprint.rows", 209, some (3, 0, 3)⟩, ⟨135, "examboard/blueprint.broken", 207, some (3, 0, 3)⟩, ⟨135, "examboard/blueprint.check", 206, some (3, 0, 2)⟩, ⟨135, "examboard/blueprint.exceeded", 208, some (3, 0, 3)⟩, ⟨135, "examboard/blueprint.line", 216, none⟩, ⟨135, "examboard/blueprint.rows", 209, some (3, 0, 3)⟩, ⟨137, "examboard/blueprint.broken", 207, some (4, 0, 3)⟩, ⟨137, "examboard/blueprint.check", 217, none⟩, ⟨137, "examboard/blueprint.exceeded", 208, some (4, 0, 3)⟩, ⟨137, "examboard/blueprint.line", 218, none⟩, ⟨137, "examboard/blueprint.rows", 209, some (4, 0, 3)⟩, ⟨139, "examboard/blueprint.broken", 219, none⟩, ⟨139, "examboard/blueprint.check", 220, none⟩, ⟨139, "examboard/blueprint.exceeded", 221, none⟩, ⟨139, "examboard/blueprint.line", 222, none⟩, ⟨139, "examboard/blueprint.rows", 223, none⟩, ⟨141, "examboard/blueprint.broken", 225, none⟩, ⟨141, "examboard/blueprint.check", 226, none⟩, ⟨141, "examboard/blueprint.exceeded", 227, none⟩, ⟨141, "examboard/blueprint.line", 228, none⟩, ⟨141, "examboard/blueprint.rows", 229, none⟩, ⟨142, "examboard/blueprint.broken", 234, none⟩, ⟨142, "examboard/blueprint.check", 235, none⟩, ⟨142, "examboard/blueprint.exceeded", 236, none⟩, ⟨142, "examboard/blueprint.line", 237, none⟩, ⟨142, "examboard/blueprint.rows", 238, none⟩, ⟨144, "examboard/blueprint.broken", 240, none⟩, ⟨144, "examboard/blueprint.check", 241, none⟩, ⟨144, "examboard/blueprint.exceeded", 242, none⟩, ⟨144, "examboard/blueprint.line", 243, none⟩, ⟨144, "examboard/blueprint.rows", 244, none⟩]
theorem methL_ok:∀p∈methL,MeE Tryz.prog p:=List.forall_mem_cons.2 ⟨meP4 (fun _ _ _ _ _=>by kernel_rfl),List.forall_mem_cons.2 ⟨meW (fun _ _ _=>by kernel_rfl),List.forall_mem_cons.2 ⟨meP4 (fun _ _ _ _ _=>by kernel_rfl),List.forall_mem_cons.2 ⟨meW (fun _ _ _=>by kernel_rfl),List.forall_mem_cons.2 ⟨meP4 (fun _ _ _ _ _=>by kernel_rfl),List.forall_mem_cons.2 ⟨meP3 (fun _ _ _ _=>by kernel_rfl),List.forall_mem_cons.2 ⟨meP3 (fun _ _ _ _=>by kernel_rfl),List.forall_mem_cons.2 ⟨meP3 (fun _ _ _ _=>by kernel_rfl),List.forall_mem_cons.2 ⟨meW (fun _ _ _=>by kernel_rfl),List.forall_mem_cons.2 ⟨meP3 (fun _ _ _ _=>by kernel_rfl),List.forall_mem_cons.2 ⟨meP3 (fun _ _ _ _=>by kernel_rfl),List.forall_mem_cons.2 ⟨meP3 (fun _ _ _ _=>by kernel_rfl),List.forall_mem_cons.2 ⟨meP3 (fun _ _ _ _=>by kernel_rfl),List.forall_mem_cons.2 ⟨meW (fun _ _ _=>by kernel_rfl),List.forall_mem_cons.2 ⟨meP3 (fun _ _ _ _=>by kernel_rfl),List.forall_mem_cons.2 ⟨meP3 (fun _ _ _ _=>by kernel_rfl),List.forall_mem_cons.2 ⟨meP3 (fun _ _ _ _=>by kernel_rfl),List.forall_mem_cons.2 ⟨meP3 (fun _ _ _ _=>by kernel_rfl),List.forall_mem_cons.2 ⟨meW (fun _ _ _=>by kernel_rfl),List.forall_mem_cons.2 ⟨meP3 (fun _ _ _ _=>by kernel_rfl),List.forall_mem_cons.2 ⟨meP4 (fun _ _ _ _ _=>by kernel_rfl),List.forall_mem_cons.2 ⟨meW (fun _ _ _=>by kernel_rfl),List.forall_mem_cons.2 ⟨meP4 (fun _ _ _ _ _=>by kernel_rfl),List.forall_mem_cons.2 ⟨meW (fun _ _ _=>by kernel_rfl),List.forall_mem_cons.2 ⟨meP4 (fun _ _ _ _ _=>by kernel_rfl),List.forall_mem_cons.2 ⟨meW (fun _ _ _=>by kernel_rfl),List.forall_mem_cons.2 ⟨meW (fun _ _ _=>by kernel_rfl),List.forall_mem_cons.2 ⟨meW (fun _ _ _=>by kernel_rfl),List.forall_mem_cons.2 ⟨meW (fun _ _ _=>by kernel_rfl),List.forall_mem_cons.2 ⟨meW (fun _ _ _=>by kernel_rfl),List.forall_mem_cons.2 ⟨meW (fun _ _ _=>by kernel_rfl),List.forall_mem_cons.2 ⟨meW (fun _ _ _=>by kernel_rfl),List.forall_mem_cons.2 ⟨meW (fun _ _ _=>by kernel_rfl),List.forall_mem_cons.2 ⟨meW (fun _ _ _=>by kernel_rfl),List.forall_mem_cons.2 ⟨meW (fun _ _ _=>by kernel_rfl),List.forall_mem_cons.2 ⟨meW (fun _ _ _=>by kernel_rfl),List.forall_mem_cons.2 ⟨meW (fun _ _ _=>by kernel_rfl),List.forall_mem_cons.2 ⟨meW (fun _ _ _=>by kernel_rfl),List.forall_mem_cons.2 ⟨meW (fun _ _ _=>by kernel_rfl),List.forall_mem_cons.2 ⟨meW (fun _ _ _=>by kernel_rfl),List.forall_mem_cons.2 ⟨meW (fun _ _ _=>by kernel_rfl),List.forall_mem_cons.2 ⟨meW (fun _ _ _=>by kernel_rfl),List.forall_mem_cons.2 ⟨meW (fun _ _ _=>by kernel_rfl),List.forall_mem_cons.2 ⟨meW (fun _ _ _=>by kernel_rfl),List.forall_mem_cons.2 ⟨meW (fun _ _ _=>by kernel_rfl),fun _ h=>absurd h List.not_mem_nil⟩⟩⟩⟩⟩⟩⟩⟩⟩⟩⟩⟩⟩⟩⟩⟩⟩⟩⟩⟩⟩⟩⟩⟩⟩⟩⟩⟩⟩⟩⟩⟩⟩⟩⟩⟩⟩⟩⟩⟩⟩⟩⟩⟩⟩
def sigM:SigM:=⟨lk sigL,lk sigT,meth methL⟩
def howL:List (Nat × How):=[
 (15,⟨⟨51,[],[]⟩,[],[2,3,7,10,11,17,18,19,20,21,22,23,24,25,26,27,28,29,30,31,32,33,34,35,36,37,39,44,45,46,47,48,49],[],[],false,[],0⟩),
 (16,⟨⟨51,[],[]⟩,[],[2,3,7,10,11,17,18,19,20,21,22,23,24,25,26,27,28,29,30,31,32,33,34,35,36,37,39,44,45,46,47,48,49],[],[],false,[],0⟩),
 (39,⟨⟨7,[],[]⟩,[],[3,4,5],[],[],false,[],0⟩),
 (42,⟨⟨3,[],[]⟩,[],[1],[],[],false,[],0⟩),
 (43,⟨⟨10,[],[]⟩,[],[3,5,6,7],[],[],false,[],0⟩),
 (44,⟨⟨43,[],[]⟩,[],[3,5,6,7,9,10,11,12,13,14,15,16,17,18,19,20,21,22,23,24,25,26,27,28,29,30,31,32,33,34,35,36,37,38,39,40,41],[],[],false,[],0⟩),
 (76,⟨⟨43,[],[]⟩,[],[1,7,8,10,11,12,14,15,16,17,18,19,21,23,24,25,26,27,28,29,30,31,32,33,34,35,36,37,39,40,41],[],[],false,[],0⟩),
 (77,⟨⟨29,[(6,3)],[]⟩,[],[1,6,8,9,11,12,13,14,15,16,17,19,24,25,26,27],[],[],false,[],0⟩),
 (78,⟨⟨64,[],[]⟩,[],[3,6,9,11,12,13,14,15,16,17,18,19,20,21,22,24,25,26,27,28,29,30,31,32,33,35,40,41,42,43,44,50,51,52,53,54,55,56,58,59,60,61,62],[],[],false,[],0⟩),
 (79,⟨⟨46,[],[]⟩,[],[3,8,9,10,11,12,13,14,15,16,17,18,19,21,22,23,24,25,26,27,28,29,30,32,33,35,36,37,38,39,40,41,42,43,44],[],[],false,[],0⟩),
 (106,⟨⟨24,[],[]⟩,[],[1,12,13,14,15,16,17,18,19,20,21,22],[],[],false,[],6⟩),
 (107,⟨⟨32,[],[]⟩,[],[1,4,5,6,8,9,10,11,12,13,14,15,16,17,18,19,20,21,22,23,24,25,26,27,28,29,30],[],[],false,[],0⟩),
 (108,⟨⟨37,[],[]⟩,[],[2,3,7,8,9,11,12,13,15,16,17,18,19,20,21,22,23,24,25,26,27,29,30,31,32,33,34,35],[],[],false,[],0⟩)]
def primL:List (Nat × Prim):=[
 (136,⟨false,pNOf_o,pNOf_r⟩),
 (137,⟨false,pNAdd_o,pNAdd_r⟩),
 (138,⟨false,pNMul_o,pNMul_r⟩),
 (66,⟨true,pItoa_o,pItoa_r⟩),
 (55,⟨true,pCut_o,pCut_r⟩)]
theorem primL_ok:∀p∈primL,Prim.OK p.1 p.2:=List.forall_mem_cons.2 ⟨pNOf_p,List.forall_mem_cons.2 ⟨pNAdd_p,List.forall_mem_cons.2 ⟨pNMul_p,List.forall_mem_cons.2 ⟨pItoa_p,List.forall_mem_cons.2 ⟨pCut_p,fun _ h=>absurd h List.not_mem_nil⟩⟩⟩⟩⟩
theorem how_ok:howL.all (fun p=>fnOK Tryz.prog p.1 p.2.pin)=true:=by kernel_rfl
end Go.Proofs.YtcaahphghaddgaaGreatDoor
