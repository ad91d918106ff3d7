import Derived.Test.YtikacleldnaphaaGreatDoorA2
import Derived.Test.YtikacleldnaphaaGreatDoorProg
import Derived.Test.YtikacleldnaphaaGreatDoorA1
import Derived.Tactics
import Derived.Tactics2
import Derived.Defers
import Derived.Laws.Pointers
import Derived.Laws.LoneSync
import Derived.RegionTactic
import Derived.RegionCalls
set_option linter.all false
set_option maxRecDepth 100000
namespace Go.Proofs.Tryz
open Go Ps
noncomputable section
noncomputable def tgA:TG:=(.node (.node (.node (.node (.node (.node .nil none (.node (.node .nil (some ⟨.strct [(30,0),(3,2),(24,3),(157,35)],36,80,[.str [],.str [],.int .i64 0]++List.replicate 32 (.int .u8 0)++[.ptr none]⟩) .nil) none (.node (.node .nil (some ⟨.arr 16 350,32,32,List.replicate 32 (.int .u8 0)⟩) .nil) none .nil))) none (.node (.node .nil (some ⟨.slice 82,1,24,[.nilS]⟩) .nil) none (.node .nil none (.node (.node .nil (some ⟨.ptr,1,8,[.ptr none]⟩) .nil) none .nil)))) none (.node (.node (.node .nil none (.node .nil (some ⟨.strct [(140,0),(4,1),(3,2)],3,40,[.nilS,.bool false,.int .i64 0]⟩) .nil)) (some ⟨.int .i64,1,8,[.int .i64 0]⟩) (.node .nil none (.node .nil (some ⟨.arr 27 230,27,108,List.replicate 27 (.int .u32 0)⟩) .nil))) none (.node (.node (.node (.node .nil (some ⟨.strct [(277,0)],1,8,[.ptr none]⟩) .nil) none .nil) (some ⟨.strct [(30,0),(56,2),(84,5),(85,6),(3,7),(3,8)],9,136,[.str [],.str [],.nilS,.nilS,.nilS,.ptr none,.ptr none,.int .i64 0,.int .i64 0]⟩) (.node .nil (some ⟨.arr 16 5,16,16,List.replicate 16 (.int .u8 0)⟩) .nil)) none .nil))) (some ⟨.int .i64,1,8,[.int .i64 0]⟩) (.node (.node (.node .nil (some ⟨.strct [(30,0),(3,2),(3,3)],4,48,[.str [],.str [],.int .i64 0,.int .i64 0]⟩) (.node (.node (.node .nil (some ⟨.ptr,1,8,[.ptr none]⟩) .nil) (some ⟨.strct [(30,0),(3,2),(24,3)],35,72,[.str [],.str [],.int .i64 0]++List.replicate 32 (.int .u8 0)⟩) .nil) none .nil)) none (.node (.node .nil none (.node (.node .nil (some ⟨.fn,1,8,[.nilF]⟩) .nil) none .nil)) none (.node .nil (some ⟨.ptr,1,8,[.ptr none]⟩) .nil))) none (.node (.node .nil none (.node (.node .nil (some ⟨.fn,1,8,[.nilF]⟩) .nil) none .nil)) none (.node (.node (.node .nil (some ⟨.ptr,1,8,[.ptr none]⟩) .nil) (some ⟨.slice 3,1,24,[.nilS]⟩) .nil) none (.node (.node .nil (some ⟨.ptr,1,8,[.ptr none]⟩) .nil) none .nil))))) (some ⟨.fn,1,8,[.nilF]⟩) (.node (.node (.node (.node (.node .nil none (.node .nil (some ⟨.strct [(9,0),(9,1),(36,2)],3,56,[.str [],.str [],.nilS]⟩) .nil)) (some ⟨.strct [(30,0),(24,2),(9,34),(3,35),(3,36)],37,96,[.str [],.str []]++List.replicate 32 (.int .u8 0)++[.str [],.int .i64 0,.int .i64 0]⟩) .nil) none .nil) (some ⟨.str,1,16,[.str []]⟩) (.node (.node (.node .nil none (.node (.node .nil (some ⟨.ptr,1,8,[.ptr none]⟩) .nil) none .nil)) (some ⟨.ptr,1,8,[.ptr none]⟩) .nil) (some ⟨.ptr,1,8,[.ptr none]⟩) (.node (.node .nil none (.node .nil (some ⟨.strct [(213,0),(215,1),(120,17),(120,18),(120,19)],20,48,[.ptr none]++List.replicate 16 (.int .u8 0)++[.int .i64 0,.int .i64 0,.int .i64 0]⟩) .nil)) none .nil))) (some ⟨.int .u8,1,1,[.int .u8 0]⟩) (.node (.node (.node .nil none (.node (.node (.node .nil (some ⟨.strct [(36,0),(9,1),(4,2)],3,48,[.nilS,.str [],.bool false]⟩) .nil) none .nil) none .nil)) (some ⟨.int .i32,1,4,[.int .i32 0]⟩) (.node (.node (.node (.node .nil (some ⟨.ptr,1,8,[.ptr none]⟩) .nil) none .nil) (some ⟨.ptr,1,8,[.ptr none]⟩) (.node .nil (some ⟨.ptr,1,8,[.ptr none]⟩) .nil)) (some ⟨.slice 130,1,24,[.nilS]⟩) .nil)) none (.node (.node (.node (.node (.node .nil (some ⟨.slice 230,1,24,[.nilS]⟩) .nil) none .nil) none (.node (.node .nil (some ⟨.fn,1,8,[.nilF]⟩) .nil) none .nil)) none (.node (.node .nil (some ⟨.int .u64,1,8,[.int .u64 0]⟩) .nil) none .nil)) none (.node (.node (.node .nil (some ⟨.ptr,1,8,[.ptr none]⟩) .nil) none (.node .nil (some ⟨.fn,1,8,[.nilF]⟩) .nil)) none .nil))))) none (.node (.node (.node (.node (.node (.node (.node (.node .nil (some ⟨.strct [(21,0),(230,1)],2,8,[.int .i32 0,.int .u32 0]⟩) .nil) none .nil) (some ⟨.strct [(30,0),(30,2),(3,4),(3,5)],6,80,[.str [],.str [],.str [],.str [],.int .i64 0,.int .i64 0]⟩) .nil) none (.node (.node (.node .nil (some ⟨.fn,1,8,[.nilF]⟩) .nil) none .nil) none .nil)) none (.node (.node (.node (.node .nil (some ⟨.ptr,1,8,[.ptr none]⟩) .nil) none .nil) none .nil) none .nil)) none (.node (.node (.node .nil (some ⟨.strct [(66,0),(22,4)],5,88,[.str [],.str [],.int .i64 0,.nilS,.nilS]⟩) .nil) none (.node .nil (some ⟨.strct [(102,0)],1,24,[.nilS]⟩) .nil)) (some ⟨.arr 32 5,32,32,List.replicate 32 (.int .u8 0)⟩) (.node (.node (.node .nil (some ⟨.slice 159,1,24,[.nilS]⟩) .nil) none .nil) (some ⟨.strct [(36,0),(53,1),(54,2)],3,72,[.nilS,.nilS,.nilS]⟩) (.node .nil (some ⟨.strB [(117,0),(118,0),(2,0)],1,8,[.int .i64 0]⟩) .nil)))) (some ⟨.bool,1,1,[.bool false]⟩) (.node (.node (.node (.node (.node (.node .nil (some ⟨.strB [(252,0),(254,0),(258,1)],3,12,[.int .u32 0,.int .i32 0,.int .u32 0]⟩) .nil) (some ⟨.ptr,1,8,[.ptr none]⟩) .nil) (some ⟨.strct [(66,0),(22,4),(30,5),(3,7),(3,8)],9,136,[.str [],.str [],.int .i64 0,.nilS,.nilS,.str [],.str [],.int .i64 0,.int .i64 0]⟩) (.node (.node .nil (some ⟨.strct [(22,0),(4,1)],2,32,[.nilS,.bool false]⟩) .nil) none .nil)) (some ⟨.slice 9,1,24,[.nilS]⟩) (.node .nil (some ⟨.ptr,1,8,[.ptr none]⟩) (.node (.node .nil (some ⟨.strct [(354,0),(22,1)],2,32,[.ptr none,.nilS]⟩) .nil) none .nil))) none (.node (.node .nil (some ⟨.ptr,1,8,[.ptr none]⟩) (.node .nil (some ⟨.fn,1,8,[.nilF]⟩) .nil)) none .nil)) none (.node (.node (.node (.node (.node .nil (some ⟨.arr 4 230,4,16,[.int .u32 0,.int .u32 0,.int .u32 0,.int .u32 0]⟩) .nil) (some ⟨.slice 35,1,24,[.nilS]⟩) .nil) (some ⟨.strct [(3,0),(64,1),(68,7),(70,16),(72,23),(74,28)],30,448,[.int .i64 0,.str [],.str [],.str [],.str [],.int .i64 0,.int .i64 0,.str [],.str [],.int .i64 0,.nilS,.nilS,.str [],.str [],.int .i64 0,.int .i64 0,.str [],.str [],.str [],.str [],.int .i64 0,.nilS,.nilS,.str [],.str [],.int .i64 0,.nilS,.nilS,.int .i64 0,.int .i64 0]⟩) .nil) (some ⟨.strct [(41,0),(42,1)],2,16,[.ptr none,.ptr none]⟩) (.node .nil none (.node (.node .nil (some ⟨.ptr,1,8,[.ptr none]⟩) .nil) (some ⟨.fn,1,8,[.nilF]⟩) .nil))) none (.node (.node .nil (some ⟨.slice 4,1,24,[.nilS]⟩) (.node (.node .nil (some ⟨.arr 256 5,256,256,List.replicate 256 (.int .u8 0)⟩) .nil) none .nil)) none .nil)))) (some ⟨.int .i64,1,8,[.int .i64 0]⟩) (.node (.node (.node (.node (.node (.node (.node .nil (some ⟨.strB [(252,0),(256,0)],2,8,[.int .i32 0,.int .u32 0]⟩) .nil) (some ⟨.arr 2 9,2,32,[.str [],.str []]⟩) .nil) (some ⟨.strct [(30,0),(3,2),(22,3)],4,64,[.str [],.str [],.int .i64 0,.nilS]⟩) .nil) none (.node (.node (.node .nil (some ⟨.fn,1,8,[.nilF]⟩) .nil) none .nil) none (.node (.node .nil (some ⟨.ptr,1,8,[.ptr none]⟩) .nil) none .nil))) none (.node (.node (.node (.node .nil (some ⟨.arr 4 173,4,32,[.int .u64 0,.int .u64 0,.int .u64 0,.int .u64 0]⟩) .nil) none .nil) (some ⟨.strct [(3,0),(3,1),(33,2),(35,39),(3,43),(5,44),(22,45),(3,46)],47,208,[.int .i64 0,.int .i64 0,.str [],.str []]++List.replicate 32 (.int .u8 0)++[.str [],.int .i64 0,.int .i64 0,.str [],.str [],.int .i64 0,.int .i64 0,.int .i64 0,.int .u8 0,.nilS,.int .i64 0]⟩) (.node .nil (some ⟨.slice 22,1,24,[.nilS]⟩) .nil)) none (.node (.node (.node .nil (some ⟨.ptr,1,8,[.ptr none]⟩) .nil) none .nil) none (.node (.node .nil (some ⟨.other,1,8,[.undef]⟩) .nil) none .nil)))) none (.node (.node (.node .nil (some ⟨.strct [(39,0),(3,1)],2,16,[.int .i64 0,.int .i64 0]⟩) (.node (.node .nil (some ⟨.arr 4 173,4,32,[.int .u64 0,.int .u64 0,.int .u64 0,.int .u64 0]⟩) .nil) none .nil)) (some ⟨.ptr,1,8,[.ptr none]⟩) .nil) none (.node (.node (.node .nil (some ⟨.strct [(152,0)],1,24,[.nilS]⟩) .nil) none .nil) (some ⟨.fn,1,8,[.nilF]⟩) (.node .nil (some ⟨.strct [(30,0),(56,2),(100,5),(115,6),(120,7),(120,8)],9,136,[.str [],.str [],.nilS,.nilS,.nilS,.ptr none,.ptr none,.int .i64 0,.int .i64 0]⟩) .nil)))) none (.node (.node (.node (.node (.node (.node .nil (some ⟨.strct [(215,0),(260,16),(231,19),(254,46)],47,140,List.replicate 16 (.int .u8 0)++[.int .u32 0,.int .i32 0]++List.replicate 29 (.int .u32 0)⟩) .nil) (some ⟨.strct [(22,0),(4,1)],2,32,[.nilS,.bool false]⟩) .nil) (some ⟨.strct [(30,0),(66,2),(22,6)],7,120,[.str [],.str [],.str [],.str [],.int .i64 0,.nilS,.nilS]⟩) .nil) (some ⟨.strct [(30,0),(30,2),(24,4),(36,36),(3,37),(3,38)],39,136,[.str [],.str [],.str [],.str []]++List.replicate 32 (.int .u8 0)++[.nilS,.int .i64 0,.int .i64 0]⟩) (.node .nil (some ⟨.slice 163,1,24,[.nilS]⟩) (.node .nil (some ⟨.int .u32,1,4,[.int .u32 0]⟩) .nil))) (some ⟨.slice 5,1,24,[.nilS]⟩) (.node .nil (some ⟨.slice 193,1,24,[.nilS]⟩) .nil)) none (.node (.node (.node (.node .nil (some ⟨.strct [(140,0),(4,1),(3,2)],3,40,[.nilS,.bool false,.int .i64 0]⟩) .nil) none .nil) none (.node (.node (.node .nil (some ⟨.arr 256 4,256,256,List.replicate 256 (.bool false)⟩) .nil) none .nil) none .nil)) (some ⟨.strct [(9,0),(9,1)],2,32,[.str [],.str []]⟩) (.node (.node .nil (some ⟨.int .u64,1,8,[.int .u64 0]⟩) (.node (.node .nil (some ⟨.strct [(5,0),(5,1)],2,2,[.int .u8 0,.int .u8 0]⟩) .nil) none .nil)) none (.node .nil none (.node .nil (some ⟨.strB [(117,0),(230,0)],1,4,[.int .u32 0]⟩) .nil))))))))
noncomputable def fd3:FD:=⟨Tryz.f3,[],[(11,{ cons:=[(11,[58]),(13,[69])],imp:=[1,5,9],win:=[(0,0,2),(2,0,2),(3,0,2),(4,1,2),(5,1,1),(6,0,2),(7,0,2),(8,2,2),(9,2,2),(10,3,3),(11,3,3),(12,3,3),(13,3,3),(14,3,3)],cnt:=3 }),(13,{ imp:=[7,8,14,17],win:=[(6,0,2),(8,1,1),(9,0,2),(10,0,2),(11,0,2),(12,0,2),(13,2,2),(14,2,2),(15,3,3),(16,3,3),(17,3,3),(18,4,4),(19,4,4)],cnt:=4 })]⟩
noncomputable def fd4:FD:=⟨Tryz.f4,[],[]⟩
noncomputable def fd5:FD:=⟨Tryz.f5,[],[]⟩
noncomputable def fd6:FD:=⟨Tryz.f6,[],[]⟩
noncomputable def fd7:FD:=⟨Tryz.f7,[],[]⟩
noncomputable def fd8:FD:=⟨Tryz.f8,[],[]⟩
noncomputable def fd9:FD:=⟨Tryz.f9,[],[(20,{ cons:=[(13,[102])],imp:=[13],cnt:=1 })]⟩
noncomputable def fd10:FD:=⟨Tryz.f10,[],[]⟩
noncomputable def fd11:FD:=⟨Tryz.f11,[3],[(1,{ imp:=[15,20],win:=[(16,1,1),(17,1,1),(18,1,1),(19,1,2),(20,1,1),(21,2,2),(22,2,2)],cnt:=2 })]⟩
noncomputable def fd12:FD:=⟨Tryz.f12,[],[]⟩
noncomputable def fd13:FD:=⟨Tryz.f13,[4,5,6],[]⟩
noncomputable def fd14:FD:=⟨Tryz.f14,[],[]⟩
noncomputable def fd15:FD:=⟨Tryz.f15,[],[]⟩
noncomputable def fd16:FD:=⟨Tryz.f16,[2,3],[(6,{ cnt:=0 })]⟩
noncomputable def fd17:FD:=⟨Tryz.f17,[],[]⟩
noncomputable def fd18:FD:=⟨Tryz.f18,[],[(8,{ imp:=[9],win:=[(7,0,1),(8,0,1),(10,1,1),(11,1,1),(12,1,1),(13,1,1),(14,1,1),(15,1,1),(16,1,1),(17,1,1),(18,1,1),(19,1,1),(20,1,1),(21,1,1),(22,1,1),(23,1,1),(24,1,1),(25,1,1),(26,1,1)],cnt:=1 })]⟩
noncomputable def fd19:FD:=⟨Tryz.f19,[6],[]⟩
noncomputable def fd20:FD:=⟨Tryz.f20,[6,9],[]⟩
noncomputable def fd21:FD:=⟨Tryz.f21,[4],[]⟩
noncomputable def fd22:FD:=⟨Tryz.f22,[],[]⟩
noncomputable def fd23:FD:=⟨Tryz.f23,[],[(3,{ imp:=[3,7],win:=[(4,0,1),(5,0,1),(6,0,1),(7,1,1),(8,2,2),(9,2,2)],cnt:=2 })]⟩
noncomputable def fd24:FD:=⟨Tryz.f24,[],[]⟩
noncomputable def fd25:FD:=⟨Tryz.f25,[],[(5,{ cnt:=0 })]⟩
noncomputable def fd26:FD:=⟨Tryz.f26,[],[]⟩
noncomputable def fd27:FD:=⟨Tryz.f27,[],[]⟩
noncomputable def fd28:FD:=⟨Tryz.f28,[],[]⟩
noncomputable def fd29:FD:=⟨Tryz.f29,[1],[]⟩
noncomputable def fd30:FD:=⟨Tryz.f30,[1,2],[(6,{ cons:=[(15,[29]),(17,[30])],imp:=[2,5,8,11,13,14],win:=[(3,0,1),(4,0,1),(5,1,1),(6,0,2),(7,0,2),(8,2,2),(9,0,3),(10,0,3),(11,3,3),(12,4,4),(13,4,4),(14,5,5),(15,6,6),(16,6,6),(17,6,6),(18,6,6)],cnt:=6 }),(9,{ cons:=[(18,[53]),(20,[54])],imp:=[2,5,8,11,14,16,17],win:=[(3,0,1),(4,0,1),(5,1,1),(6,0,2),(7,0,2),(8,2,2),(9,0,3),(10,0,3),(11,3,3),(12,0,4),(13,0,4),(14,4,4),(15,5,5),(16,5,5),(17,6,6),(18,7,7),(19,7,7),(20,7,7),(21,7,7)],cnt:=7 }),(11,{ cons:=[(15,[72]),(17,[73])],imp:=[3,7,11,13,14],win:=[(4,0,1),(5,0,1),(6,0,1),(7,1,1),(8,0,2),(9,0,2),(10,0,2),(11,2,2),(12,3,3),(13,3,3),(14,4,4),(15,5,5),(16,5,5),(17,5,5),(18,5,5)],cnt:=5 }),(13,{ cons:=[(11,[87]),(13,[88])],imp:=[3,7,9,10],win:=[(4,0,1),(5,0,1),(6,0,1),(7,1,1),(8,2,2),(9,2,2),(10,3,3),(11,4,4),(12,4,4),(13,4,4),(14,4,4)],cnt:=4 }),(14,{ cons:=[(11,[100]),(13,[101])],imp:=[3,7,9,10],win:=[(4,0,1),(5,0,1),(6,0,1),(7,1,1),(8,2,2),(9,2,2),(10,3,3),(11,4,4),(12,4,4),(13,4,4),(14,4,4)],cnt:=4 })]⟩
noncomputable def fd31:FD:=⟨Tryz.f31,[],[]⟩
noncomputable def fd32:FD:=⟨Tryz.f32,[4,5],[(9,{ cons:=[(15,[49])],imp:=[9,12,15],win:=[(0,0,2),(1,0,1),(2,0,1),(3,0,1),(4,0,1),(5,0,1),(6,0,1),(7,0,1),(10,1,1),(11,1,1),(12,1,1),(13,2,2),(14,2,2),(15,2,2)],lf:=[(4,12)],cnt:=3 })]⟩
noncomputable def fd33:FD:=⟨Tryz.f33,[4,5],[(6,{ cons:=[(14,[36])],imp:=[11,14],win:=[(0,0,1),(12,1,1),(13,1,1),(14,1,1)],lf:=[(4,11)],cnt:=2 })]⟩
noncomputable def fd34:FD:=⟨Tryz.f34,[4,5],[(3,{ imp:=[2,5,7],win:=[(0,0,2),(3,0,2),(4,0,1),(5,1,1),(6,2,2),(7,2,2),(8,3,3),(9,3,3)],cnt:=3 })]⟩
noncomputable def fd35:FD:=⟨Tryz.f35,[4,5],[(3,{ imp:=[4,6],win:=[(0,0,1),(1,0,1),(2,0,1),(5,1,1),(6,1,1),(7,2,2),(8,2,2)],cnt:=2 })]⟩
noncomputable def fd36:FD:=⟨Tryz.f36,[1,2],[(3,{ cons:=[(18,[24]),(20,[25])],imp:=[2,5,8,11,14,16,17],win:=[(3,0,1),(4,0,1),(5,1,1),(6,0,2),(7,0,2),(8,2,2),(9,0,3),(10,0,3),(11,3,3),(12,0,4),(13,0,4),(14,4,4),(15,5,5),(16,5,5),(17,6,6),(18,7,7),(19,7,7),(20,7,7),(21,7,7)],cnt:=7 })]⟩
noncomputable def fd37:FD:=⟨Tryz.f37,[1,2],[(3,{ cons:=[(12,[18]),(14,[19])],imp:=[2,5,8,10,11],win:=[(3,0,1),(4,0,1),(5,1,1),(6,0,2),(7,0,2),(8,2,2),(9,3,3),(10,3,3),(11,4,4),(12,5,5),(13,5,5),(14,5,5),(15,5,5)],cnt:=5 })]⟩
noncomputable def fd38:FD:=⟨Tryz.f38,[4,8],[(3,{ cons:=[(9,[32]),(10,[39])],imp:=[2,8],win:=[(3,0,1),(4,0,1),(5,0,1),(6,0,1),(7,0,1),(8,1,1),(9,2,2),(10,2,2)],cnt:=2 })]⟩
noncomputable def fd39:FD:=⟨Tryz.f39,[],[(14,{ imp:=[6],win:=[(7,1,1)],cnt:=1 }),(17,{ cons:=[(14,[90])],imp:=[14],win:=[(15,1,1)],cnt:=1 })]⟩
noncomputable def fd40:FD:=⟨Tryz.f40,[],[]⟩
noncomputable def fd41:FD:=⟨Tryz.f41,[],[]⟩
noncomputable def fd42:FD:=⟨Tryz.f42,[4,5],[]⟩
noncomputable def fd43:FD:=⟨Tryz.f43,[],[]⟩
noncomputable def fd44:FD:=⟨Tryz.f44,[4,5,7],[]⟩
noncomputable def fd45:FD:=⟨Tryz.f45,[4],[]⟩
noncomputable def fd46:FD:=⟨Tryz.f46,[3,6],[]⟩
noncomputable def fd47:FD:=⟨Tryz.f47,[],[]⟩
noncomputable def fd48:FD:=⟨Tryz.f48,[],[]⟩
noncomputable def fd49:FD:=⟨Tryz.f49,[],[]⟩
noncomputable def fd50:FD:=⟨Tryz.f50,[],[]⟩
noncomputable def fd51:FD:=⟨Tryz.f51,[],[(10,{ imp:=[8,11],win:=[(9,1,2),(10,0,1),(11,1,1),(12,2,2),(13,2,2),(14,2,2)],cnt:=2 })]⟩
noncomputable def fd52:FD:=⟨Tryz.f52,[],[]⟩
noncomputable def fd53:FD:=⟨Tryz.f53,[2],[]⟩
noncomputable def fd54:FD:=⟨Tryz.f54,[],[]⟩
noncomputable def fd55:FD:=⟨Tryz.f55,[],[(7,{ cnt:=0 }),(9,{ cons:=[(15,[62])],imp:=[10,15],win:=[(11,1,1),(12,1,1),(13,1,2),(14,0,1),(15,1,1),(16,2,2)],robs:=[24],res:=[(14,0)],cnt:=2 }),(15,{ cons:=[(12,[83]),(14,[95])],imp:=[10],win:=[(11,1,1),(12,1,1),(13,1,1),(14,1,1),(15,1,1)],cnt:=1 }),(18,{ imp:=[8],win:=[(9,1,1)],cnt:=1 }),(20,{ imp:=[13],win:=[(14,1,1)],cnt:=1 }),(22,{ imp:=[6],win:=[(7,1,1)],cnt:=1 }),(25,{ cons:=[(14,[152])],imp:=[14],win:=[(15,1,1)],cnt:=1 })]⟩
noncomputable def fd56:FD:=⟨Tryz.f56,[],[]⟩
noncomputable def fd57:FD:=⟨Tryz.f57,[1],[(2,{ imp:=[7],win:=[(0,0,1),(1,0,1),(2,0,1),(3,0,1),(8,1,1),(9,1,1),(10,1,1),(11,1,1),(12,1,1),(13,1,1),(14,1,1),(15,1,1),(16,1,1),(17,1,1),(18,1,1),(19,1,1),(20,1,1),(21,1,1),(22,1,1),(23,1,1),(24,1,1),(25,1,1),(26,1,1),(27,1,1),(28,1,1),(29,1,1),(30,1,1),(31,1,1),(32,1,1),(33,1,1),(34,1,1),(35,1,1)],cnt:=1 }),(4,{ imp:=[3],win:=[(4,1,1),(5,1,1),(6,1,1),(7,1,1),(8,1,1),(9,1,1),(10,1,1),(11,0,1),(12,0,1),(13,0,1),(14,0,1),(15,1,1),(16,1,1)],cnt:=1 })]⟩
noncomputable def fd58:FD:=⟨Tryz.f58,[2],[]⟩
noncomputable def fd59:FD:=⟨Tryz.f59,[4,5],[]⟩
noncomputable def fd60:FD:=⟨Tryz.f60,[1,2],[(1,{ cons:=[(8,[10])],imp:=[2,5,7],win:=[(3,0,1),(4,0,1),(5,1,1),(6,2,2),(7,2,2),(8,3,3)],cnt:=3 })]⟩
noncomputable def fd61:FD:=⟨Tryz.f61,[2],[]⟩
noncomputable def fd62:FD:=⟨Tryz.f62,[1,2],[(1,{ cons:=[(11,[13])],imp:=[2,5,8,10],win:=[(3,0,1),(4,0,1),(5,1,1),(6,0,2),(7,0,2),(8,2,2),(9,3,3),(10,3,3),(11,4,4)],cnt:=4 })]⟩
noncomputable def fd63:FD:=⟨Tryz.f63,[2],[]⟩
noncomputable def fd64:FD:=⟨Tryz.f64,[1],[]⟩
noncomputable def fd65:FD:=⟨Tryz.f65,[3],[]⟩
noncomputable def fd66:FD:=⟨Tryz.f66,[1],[(1,{ imp:=[3,8],win:=[(4,0,1),(5,0,1),(6,0,1),(7,1,1),(8,1,1),(9,2,2)],cnt:=2 })]⟩
noncomputable def fd67:FD:=⟨Tryz.f67,[3],[(5,{ cnt:=0 })]⟩
noncomputable def fd68:FD:=⟨Tryz.f68,[1,3],[]⟩
noncomputable def fd69:FD:=⟨Tryz.f69,[],[]⟩
noncomputable def fd70:FD:=⟨Tryz.f70,[],[(1,{ cons:=[(10,[7]),(12,[10]),(14,[13])],imp:=[2,5,8,10,12,14],win:=[(3,0,1),(4,0,1),(5,1,1),(6,0,2),(7,0,2),(8,2,2),(9,1,3),(10,3,3),(11,4,4),(12,4,4),(13,5,5),(14,5,5)],cnt:=6 }),(5,{ cons:=[(8,[30])],imp:=[5,8],win:=[(0,0,1),(1,0,1),(2,0,1),(6,1,1),(7,1,1),(8,1,1)],cnt:=2 })]⟩
noncomputable def fd71:FD:=⟨Tryz.f71,[],[]⟩
noncomputable def fd72:FD:=⟨Tryz.f72,[1],[(12,{ cnt:=0 }),(17,{ imp:=[6],win:=[(7,1,1)],cnt:=1 }),(22,{ cnt:=0 })]⟩
noncomputable def fd73:FD:=⟨Tryz.f73,[],[]⟩
noncomputable def fd74:FD:=⟨Tryz.f74,[1],[]⟩
noncomputable def fd75:FD:=⟨Tryz.f75,[2],[]⟩
noncomputable def fd76:FD:=⟨Tryz.f76,[1],[]⟩
noncomputable def fd77:FD:=⟨Tryz.f77,[2,3],[]⟩
noncomputable def fd78:FD:=⟨Tryz.f78,[4,8,12],[(7,{ cons:=[(11,[12]),(12,[46])],ls:=[(0,11,12)],cnt:=0 })]⟩
noncomputable def fd79:FD:=⟨Tryz.f79,[3,6],[(2,{ cons:=[(5,[17]),(8,[21])],imp:=[6,7],win:=[(7,1,1),(8,2,2)],cnt:=2 })]⟩
noncomputable def fd80:FD:=⟨Tryz.f80,[],[]⟩
noncomputable def fd81:FD:=⟨Tryz.f81,[4],[(1,{ cnt:=0 }),(3,{ imp:=[10],win:=[(11,1,1),(12,1,1),(13,1,1),(14,1,1),(15,1,1)],cnt:=1 })]⟩
noncomputable def fd82:FD:=⟨Tryz.f82,[2],[]⟩
noncomputable def fd83:FD:=⟨Tryz.f83,[3,4],[(1,{ cons:=[(12,[8]),(14,[20])],imp:=[10],win:=[(11,1,1),(12,1,1),(13,1,1),(14,1,1),(15,1,1)],cnt:=1 }),(4,{ imp:=[8],win:=[(9,1,1),(10,1,1)],cnt:=1 }),(6,{ imp:=[13],win:=[(14,1,1),(15,1,1)],cnt:=1 })]⟩
noncomputable def fd84:FD:=⟨Tryz.f84,[4,5],[(3,{ cnt:=0 }),(6,{ imp:=[5],win:=[(6,1,1)],cnt:=1 }),(10,{ cons:=[(10,[69])],imp:=[7,10],win:=[(0,0,1),(8,1,1),(9,1,1),(10,1,1)],lf:=[(4,7)],cnt:=2 })]⟩
noncomputable def fd86:FD:=⟨Tryz.f86,[],[]⟩
noncomputable def fd87:FD:=⟨Tryz.f87,[],[]⟩
noncomputable def fd88:FD:=⟨Tryz.f88,[],[]⟩
noncomputable def fd89:FD:=⟨Tryz.f89,[3],[]⟩
noncomputable def fd91:FD:=⟨Tryz.f91,[4],[(9,{ cnt:=0 })]⟩
noncomputable def fd92:FD:=⟨Tryz.f92,[],[]⟩
noncomputable def fd93:FD:=⟨Tryz.f93,[],[]⟩
noncomputable def fd94:FD:=⟨Tryz.f94,[4],[]⟩
noncomputable def fd95:FD:=⟨Tryz.f95,[4],[(4,{ cnt:=0 })]⟩
noncomputable def fd96:FD:=⟨Tryz.f96,[5],[(16,{ cons:=[(2,[76]),(3,[77])],imp:=[2,3],win:=[(1,0,1),(3,1,1),(4,2,2)],cnt:=2 }),(18,{ cons:=[(2,[84]),(3,[85])],imp:=[2,3],win:=[(1,0,1),(3,1,1),(4,2,2)],cnt:=2 }),(19,{ cons:=[(2,[86]),(3,[87])],imp:=[2,3],win:=[(1,0,1),(3,1,1),(4,2,2)],cnt:=2 })]⟩
noncomputable def fd97:FD:=⟨Tryz.f97,[4,7],[(1,{ cnt:=0 }),(13,{ cnt:=0 }),(17,{ cons:=[(10,[94])],imp:=[7,10],win:=[(0,0,1),(8,1,1),(9,1,1),(10,1,1)],lf:=[(4,7)],cnt:=2 })]⟩
noncomputable def fd98:FD:=⟨Tryz.f98,[1],[]⟩
noncomputable def fd99:FD:=⟨Tryz.f99,[1],[]⟩
noncomputable def fd100:FD:=⟨Tryz.f100,[1],[]⟩
noncomputable def fd101:FD:=⟨Tryz.f101,[1],[]⟩
noncomputable def fd102:FD:=⟨Tryz.f102,[],[]⟩
noncomputable def fd103:FD:=⟨Tryz.f103,[],[]⟩
noncomputable def fd104:FD:=⟨Tryz.f104,[],[]⟩
noncomputable def fd105:FD:=⟨Tryz.f105,[],[]⟩
noncomputable def fd106:FD:=⟨Tryz.f106,[],[]⟩
noncomputable def fd107:FD:=⟨Tryz.f107,[],[]⟩
noncomputable def fd108:FD:=⟨Tryz.f108,[2],[]⟩
noncomputable def fd109:FD:=⟨Tryz.f109,[1],[]⟩
noncomputable def fd110:FD:=⟨Tryz.f110,[],[]⟩
noncomputable def fd111:FD:=⟨Tryz.f111,[],[(4,{ imp:=[4],cnt:=1 })]⟩
noncomputable def fd112:FD:=⟨Tryz.f112,[2,3],[]⟩
noncomputable def fd113:FD:=⟨Tryz.f113,[2],[]⟩
noncomputable def fd114:FD:=⟨Tryz.f114,[],[]⟩
noncomputable def fd115:FD:=⟨Tryz.f115,[],[]⟩
noncomputable def fd116:FD:=⟨Tryz.f116,[],[]⟩
noncomputable def fd117:FD:=⟨Tryz.f117,[],[]⟩
noncomputable def fd118:FD:=⟨Tryz.f118,[2],[]⟩
noncomputable def fd119:FD:=⟨Tryz.f119,[2],[]⟩
noncomputable def fd120:FD:=⟨Tryz.f120,[2],[]⟩
noncomputable def fd121:FD:=⟨Tryz.f121,[],[(4,{ imp:=[4,14],win:=[(5,1,1),(6,1,1),(7,1,1),(8,1,1),(9,1,1),(10,1,1),(11,1,1),(12,1,1),(13,1,1),(14,1,1),(15,2,2),(16,2,2)],cnt:=2 })]⟩
noncomputable def fd122:FD:=⟨Tryz.f122,[2,3],[(6,{ imp:=[7,19],win:=[(8,1,1),(9,1,1),(10,1,1),(11,1,1),(12,1,1),(13,1,1),(14,1,1),(15,1,1),(16,1,1),(17,1,1),(18,1,1),(19,1,1),(20,2,2),(21,2,2),(22,2,2),(23,2,2),(24,2,2),(25,2,2),(26,2,2),(27,2,2),(28,2,2),(29,2,2),(30,2,2),(31,2,2),(32,2,2),(33,2,2),(34,2,2),(35,2,2),(36,2,2),(37,2,2),(38,2,2),(39,2,2),(40,2,2),(41,2,2)],cnt:=2 })]⟩
noncomputable def fd123:FD:=⟨Tryz.f123,[1],[(5,{ cons:=[(10,[15]),(12,[19])],imp:=[10,12],win:=[(1,0,1),(5,0,1),(6,0,1),(7,0,1),(8,0,1),(11,1,1),(12,1,1)],cnt:=2 }),(6,{ cons:=[(2,[22]),(3,[23])],imp:=[2,3],win:=[(1,0,1),(3,1,1)],cnt:=2 })]⟩
noncomputable def fd124:FD:=⟨Tryz.f124,[3,6,7],[]⟩
noncomputable def fd125:FD:=⟨Tryz.f125,[1],[(5,{ cons:=[(17,[27])],imp:=[17],cnt:=1 }),(12,{ cons:=[(14,[6]),(15,[57])],imp:=[8],win:=[(0,0,1),(1,0,1),(2,0,1),(3,0,1),(9,1,1),(10,0,1),(11,0,1),(12,1,1),(13,1,1),(14,1,1),(15,1,1)],ls:=[(0,14,6)],cnt:=1 }),(13,{ cons:=[(13,[69])],imp:=[5,13],win:=[(0,0,1),(1,0,1),(6,0,1),(7,0,1),(8,0,1),(9,0,1),(10,0,1),(11,1,1),(12,1,1),(13,1,1)],cnt:=2 })]⟩
noncomputable def fd126:FD:=⟨Tryz.f126,[2],[(1,{ imp:=[1,3],win:=[(2,0,1),(3,1,1),(4,2,2),(5,2,2)],cnt:=2 }),(8,{ cons:=[(8,[56])],imp:=[8],cnt:=1 }),(13,{ cnt:=0 })]⟩
noncomputable def fd127:FD:=⟨Tryz.f127,[4],[]⟩
noncomputable def fd128:FD:=⟨Tryz.f128,[],[]⟩
noncomputable def fd129:FD:=⟨Tryz.f129,[1,2],[]⟩
noncomputable def fd130:FD:=⟨Tryz.f130,[4,5],[]⟩
noncomputable def fd131:FD:=⟨Tryz.f131,[6],[(4,{ cons:=[(8,[29])],imp:=[7],win:=[(0,0,1),(1,0,1),(2,0,1),(3,0,1),(4,0,1),(8,1,1),(9,1,1)],cnt:=1 }),(5,{ imp:=[6,12],win:=[(7,0,1),(8,0,1),(9,0,1),(10,0,1),(11,0,1),(12,1,1),(13,2,2)],cnt:=2 })]⟩
noncomputable def fd132:FD:=⟨Tryz.f132,[],[]⟩
noncomputable def fd133:FD:=⟨Tryz.f133,[],[]⟩
noncomputable def fd134:FD:=⟨Tryz.f134,[6],[]⟩
noncomputable def fd135:FD:=⟨Tryz.f135,[4],[]⟩
noncomputable def fd136:FD:=⟨Tryz.f136,[4],[]⟩
noncomputable def fd137:FD:=⟨Tryz.f137,[2],[]⟩
noncomputable def fd138:FD:=⟨Tryz.f138,[3],[]⟩
noncomputable def fd139:FD:=⟨Tryz.f139,[],[]⟩
noncomputable def fd140:FD:=⟨Tryz.f140,[2],[]⟩
noncomputable def fd141:FD:=⟨Tryz.f141,[3,6],[(7,{ imp:=[8],win:=[(9,1,1),(10,0,1),(11,0,1),(12,0,1),(13,0,1),(14,1,1),(15,1,1)],cnt:=1 }),(9,{ cons:=[(7,[51])],imp:=[6],win:=[(7,1,1),(8,1,1)],cnt:=1 })]⟩
noncomputable def fd142:FD:=⟨Tryz.f142,[],[]⟩
noncomputable def fd143:FD:=⟨Tryz.f143,[],[]⟩
noncomputable def fd144:FD:=⟨Tryz.f144,[],[]⟩
noncomputable def fd145:FD:=⟨Tryz.f145,[],[]⟩
noncomputable def fd146:FD:=⟨Tryz.f146,[],[(4,{ imp:=[3,6],win:=[(4,0,1),(5,0,1),(6,1,1),(7,2,2)],cnt:=2 })]⟩
noncomputable def fd147:FD:=⟨Tryz.f147,[3],[]⟩
noncomputable def fd148:FD:=⟨Tryz.f148,[],[]⟩
noncomputable def fd149:FD:=⟨Tryz.f149,[],[]⟩
noncomputable def fd150:FD:=⟨Tryz.f150,[],[]⟩
noncomputable def fd151:FD:=⟨Tryz.f151,[3],[(4,{ imp:=[1],win:=[(2,0,1),(3,1,1),(4,0,1),(5,0,1),(6,0,1),(7,1,1),(8,1,1)],cnt:=1 })]⟩
noncomputable def fd152:FD:=⟨Tryz.f152,[],[]⟩
noncomputable def fd153:FD:=⟨Tryz.f153,[],[]⟩
noncomputable def fd154:FD:=⟨Tryz.f154,[],[]⟩
noncomputable def fd155:FD:=⟨Tryz.f155,[],[(0,{ cons:=[(9,[10])],imp:=[9],cnt:=1 }),(3,{ cons:=[(9,[23])],imp:=[9],cnt:=1 })]⟩
noncomputable def fd156:FD:=⟨Tryz.f156,[],[(0,{ cons:=[(12,[11])],imp:=[12],cnt:=1 }),(1,{ cons:=[(13,[24])],imp:=[5,13],win:=[(0,0,1),(6,0,1),(7,0,1),(8,0,1),(9,0,1),(10,1,1),(11,0,1),(12,1,1),(13,1,1)],cnt:=2 }),(2,{ cons:=[(8,[32])],imp:=[5,8],win:=[(0,0,1),(6,0,1),(7,1,1),(8,1,1)],cnt:=2 }),(3,{ cons:=[(12,[44])],imp:=[12],cnt:=1 }),(4,{ cons:=[(13,[57])],imp:=[5,13],win:=[(0,0,1),(6,0,1),(7,0,1),(8,0,1),(9,0,1),(10,1,1),(11,0,1),(12,1,1),(13,1,1)],cnt:=2 }),(5,{ cons:=[(12,[69])],imp:=[12],cnt:=1 }),(6,{ cons:=[(13,[82])],imp:=[5,13],win:=[(0,0,1),(6,0,1),(7,0,1),(8,0,1),(9,0,1),(10,1,1),(11,0,1),(12,1,1),(13,1,1)],cnt:=2 }),(7,{ cons:=[(12,[94])],imp:=[12],cnt:=1 }),(8,{ cons:=[(13,[107])],imp:=[5,13],win:=[(0,0,1),(6,0,1),(7,0,1),(8,0,1),(9,0,1),(10,1,1),(11,0,1),(12,1,1),(13,1,1)],cnt:=2 }),(9,{ cons:=[(8,[115])],imp:=[5,8],win:=[(0,0,1),(6,0,1),(7,1,1),(8,1,1)],cnt:=2 })]⟩
noncomputable def fd157:FD:=⟨Tryz.f157,[],[]⟩
noncomputable def fd158:FD:=⟨Tryz.f158,[],[]⟩
noncomputable def fd159:FD:=⟨Tryz.f159,[1],[]⟩
noncomputable def fd160:FD:=⟨Tryz.f160,[],[]⟩
noncomputable def fd161:FD:=⟨Tryz.f161,[1],[]⟩
noncomputable def fd162:FD:=⟨Tryz.f162,[2],[]⟩
noncomputable def fd163:FD:=⟨Tryz.f163,[1],[]⟩
noncomputable def fd164:FD:=⟨Tryz.f164,[4],[]⟩
noncomputable def fd165:FD:=⟨Tryz.f165,[1,2],[(4,{ cons:=[(14,[24])],imp:=[2,5,8,11,13],win:=[(3,0,1),(4,0,1),(5,1,1),(6,0,2),(7,0,2),(8,2,2),(9,0,3),(10,0,3),(11,3,3),(12,4,4),(13,4,4),(14,5,5)],cnt:=5 }),(7,{ cons:=[(17,[45])],imp:=[2,5,8,11,14,16],win:=[(3,0,1),(4,0,1),(5,1,1),(6,0,2),(7,0,2),(8,2,2),(9,0,3),(10,0,3),(11,3,3),(12,0,4),(13,0,4),(14,4,4),(15,5,5),(16,5,5),(17,6,6)],cnt:=6 }),(9,{ cons:=[(14,[61])],imp:=[3,7,11,13],win:=[(4,0,1),(5,0,1),(6,0,1),(7,1,1),(8,0,2),(9,0,2),(10,0,2),(11,2,2),(12,3,3),(13,3,3),(14,4,4)],cnt:=4 }),(11,{ cons:=[(10,[73])],imp:=[3,7,9],win:=[(4,0,1),(5,0,1),(6,0,1),(7,1,1),(8,2,2),(9,2,2),(10,3,3)],cnt:=3 }),(12,{ cons:=[(10,[83])],imp:=[3,7,9],win:=[(4,0,1),(5,0,1),(6,0,1),(7,1,1),(8,2,2),(9,2,2),(10,3,3)],cnt:=3 })]⟩
noncomputable def fd166:FD:=⟨Tryz.f166,[3],[]⟩
noncomputable def fd167:FD:=⟨Tryz.f167,[],[]⟩
noncomputable def fd168:FD:=⟨Tryz.f168,[],[]⟩
noncomputable def fd169:FD:=⟨Tryz.f169,[],[(6,{ cnt:=0 })]⟩
noncomputable def fd170:FD:=⟨Tryz.f170,[6],[]⟩
noncomputable def fd171:FD:=⟨Tryz.f171,[8,3000013],[]⟩
noncomputable def fd172:FD:=⟨Tryz.f172,[1],[(2,{ imp:=[3,4],win:=[(0,0,1),(4,1,1)],cnt:=2 })]⟩
noncomputable def fd173:FD:=⟨Tryz.f173,[],[]⟩
noncomputable def fd174:FD:=⟨Tryz.f174,[4],[]⟩
noncomputable def fd175:FD:=⟨Tryz.f175,[1,2],[(1,{ cons:=[(34,[37]),(36,[38])],imp:=[2,6,14,18,21,24,27,30,32,33],win:=[(3,1,1),(4,1,1),(5,1,1),(6,1,1),(7,2,2),(8,2,2),(9,2,2),(10,2,2),(11,2,2),(12,2,2),(13,2,2),(14,2,2),(15,3,9),(16,0,3),(17,0,3),(18,3,3),(19,0,4),(20,0,4),(21,4,4),(22,0,5),(23,0,5),(24,5,5),(25,0,6),(26,0,6),(27,6,6),(28,0,7),(29,0,7),(30,7,7),(31,8,8),(32,8,8),(33,9,9),(34,10,10),(35,10,10),(36,10,10),(37,10,10)],cnt:=10 })]⟩
noncomputable def fd176:FD:=⟨Tryz.f176,[4],[]⟩
noncomputable def fd177:FD:=⟨Tryz.f177,[1,2],[(1,{ cons:=[(26,[29]),(28,[30])],imp:=[2,7,12,16,19,22,24,25],win:=[(3,1,1),(4,1,1),(5,1,1),(6,1,1),(7,1,1),(8,2,2),(9,2,2),(10,2,2),(11,2,2),(12,2,2),(13,3,7),(14,0,3),(15,0,3),(16,3,3),(17,0,4),(18,0,4),(19,4,4),(20,0,5),(21,0,5),(22,5,5),(23,6,6),(24,6,6),(25,7,7),(26,8,8),(27,8,8),(28,8,8),(29,8,8)],cnt:=8 })]⟩
noncomputable def fd178:FD:=⟨Tryz.f178,[4],[]⟩
noncomputable def fd179:FD:=⟨Tryz.f179,[],[]⟩
noncomputable def fd180:FD:=⟨Tryz.f180,[],[]⟩
noncomputable def fd181:FD:=⟨Tryz.f181,[],[]⟩
noncomputable def fd182:FD:=⟨Tryz.f182,[3,6],[]⟩
noncomputable def fd183:FD:=⟨Tryz.f183,[],[]⟩
noncomputable def fd184:FD:=⟨Tryz.f184,[],[]⟩
noncomputable def fd185:FD:=⟨Tryz.f185,[3],[(4,{ cnt:=0 })]⟩
noncomputable def fd186:FD:=⟨Tryz.f186,[],[]⟩
noncomputable def fd187:FD:=⟨Tryz.f187,[],[]⟩
noncomputable def fd188:FD:=⟨Tryz.f188,[],[]⟩
noncomputable def fd189:FD:=⟨Tryz.f189,[2],[]⟩
noncomputable def fd190:FD:=⟨Tryz.f190,[],[]⟩
noncomputable def fd191:FD:=⟨Tryz.f191,[],[]⟩
noncomputable def fd192:FD:=⟨Tryz.f192,[],[]⟩
noncomputable def fd193:FD:=⟨Tryz.f193,[],[]⟩
noncomputable def fd194:FD:=⟨Tryz.f194,[],[]⟩
noncomputable def fd195:FD:=⟨Tryz.f195,[],[]⟩
noncomputable def fd196:FD:=⟨Tryz.f196,[],[]⟩
noncomputable def fd197:FD:=⟨Tryz.f197,[3],[(4,{ cnt:=0 })]⟩
noncomputable def fd198:FD:=⟨Tryz.f198,[],[]⟩
noncomputable def fd199:FD:=⟨Tryz.f199,[],[]⟩
noncomputable def fd200:FD:=⟨Tryz.f200,[],[]⟩
noncomputable def fd201:FD:=⟨Tryz.f201,[4],[]⟩
noncomputable def fd202:FD:=⟨Tryz.f202,[],[]⟩
noncomputable def fd203:FD:=⟨Tryz.f203,[2],[]⟩
noncomputable def fd204:FD:=⟨Tryz.f204,[],[]⟩
noncomputable def fd205:FD:=⟨Tryz.f205,[],[]⟩
noncomputable def fd206:FD:=⟨Tryz.f206,[1],[]⟩
noncomputable def fd207:FD:=⟨Tryz.f207,[],[]⟩
noncomputable def fd208:FD:=⟨Tryz.f208,[],[]⟩
noncomputable def fd209:FD:=⟨Tryz.f209,[1],[(1,{ cons:=[(9,[7]),(10,[9]),(11,[11])],imp:=[9,10,11],win:=[(2,0,1),(3,0,1),(4,0,2),(5,0,2),(10,1,1),(11,2,2)],robs:=[68,70,72],res:=[(6,0),(7,1),(8,2)],cnt:=3 })]⟩
noncomputable def fd210:FD:=⟨Tryz.f210,[4],[]⟩
noncomputable def fd211:FD:=⟨Tryz.f211,[1,2],[(1,{ cons:=[(8,[10])],imp:=[2,5,7],win:=[(3,0,1),(4,0,1),(5,1,1),(6,2,2),(7,2,2),(8,3,3)],cnt:=3 })]⟩
noncomputable def fd212:FD:=⟨Tryz.f212,[2,3],[]⟩
noncomputable def fd213:FD:=⟨Tryz.f213,[1,2],[(1,{ cons:=[(11,[13])],imp:=[2,5,8,10],win:=[(3,0,1),(4,0,1),(5,1,1),(6,0,2),(7,0,2),(8,2,2),(9,3,3),(10,3,3),(11,4,4)],cnt:=4 })]⟩
noncomputable def fd214:FD:=⟨Tryz.f214,[2],[]⟩
noncomputable def fd215:FD:=⟨Tryz.f215,[2,5],[]⟩
noncomputable def fd216:FD:=⟨Tryz.f216,[2],[(1,{ imp:=[1,3],win:=[(2,0,1),(3,1,1),(4,2,2),(5,2,2)],cnt:=2 }),(9,{ cons:=[(7,[51])],imp:=[7],cnt:=1 }),(11,{ cnt:=0 })]⟩
noncomputable def fd217:FD:=⟨Tryz.f217,[2],[]⟩
noncomputable def fd218:FD:=⟨Tryz.f218,[6],[]⟩
noncomputable def fd219:FD:=⟨Tryz.f219,[],[]⟩
noncomputable def fd220:FD:=⟨Tryz.f220,[2],[]⟩
noncomputable def fd221:FD:=⟨Tryz.f221,[8,31],[]⟩
noncomputable def fd222:FD:=⟨Tryz.f222,[],[]⟩
noncomputable def fd223:FD:=⟨Tryz.f223,[],[]⟩
noncomputable def fd224:FD:=⟨Tryz.f224,[2,3,4,10],[(6,{ cnt:=0 })]⟩
noncomputable def fd225:FD:=⟨Tryz.f225,[3,4,5,6],[]⟩
noncomputable def fd226:FD:=⟨Tryz.f226,[],[]⟩
noncomputable def fd227:FD:=⟨Tryz.f227,[],[(3,{ cons:=[(13,[21]),(15,[25])],imp:=[13,15],win:=[(2,0,1),(3,0,1),(14,1,1),(15,1,1)],cnt:=2 })]⟩
noncomputable def fd228:FD:=⟨Tryz.f228,[],[]⟩
noncomputable def fd229:FD:=⟨Tryz.f229,[],[]⟩
noncomputable def fd230:FD:=⟨Tryz.f230,[],[]⟩
noncomputable def fd231:FD:=⟨Tryz.f231,[],[]⟩
noncomputable def fd232:FD:=⟨Tryz.f232,[],[]⟩
noncomputable def fd233:FD:=⟨Tryz.f233,[],[]⟩
noncomputable def fd234:FD:=⟨Tryz.f234,[],[(2,{ cnt:=0 }),(4,{ cnt:=0 }),(6,{ cnt:=0 })]⟩
noncomputable def fd235:FD:=⟨Tryz.f235,[1],[]⟩
noncomputable def fd236:FD:=⟨Tryz.f236,[2],[]⟩
noncomputable def fd237:FD:=⟨Tryz.f237,[2],[]⟩
noncomputable def fd238:FD:=⟨Tryz.f238,[],[(3,{ cons:=[(13,[21]),(15,[25])],imp:=[13,15],win:=[(2,0,1),(3,0,1),(14,1,1),(15,1,1)],cnt:=2 })]⟩
noncomputable def fd239:FD:=⟨Tryz.f239,[],[]⟩
noncomputable def fd240:FD:=⟨Tryz.f240,[],[(0,{ cons:=[(8,[9])],imp:=[8],cnt:=1 }),(2,{ cons:=[(8,[19])],imp:=[8],cnt:=1 })]⟩
noncomputable def fd241:FD:=⟨Tryz.f241,[],[(2,{ cons:=[(11,[15])],imp:=[11],cnt:=1 }),(3,{ cons:=[(13,[28])],imp:=[5,13],win:=[(0,0,1),(6,0,1),(7,0,1),(8,0,1),(9,0,1),(10,1,1),(11,0,1),(12,1,1),(13,1,1)],cnt:=2 }),(4,{ cons:=[(8,[36])],imp:=[5,8],win:=[(0,0,1),(6,0,1),(7,1,1),(8,1,1)],cnt:=2 }),(5,{ cons:=[(11,[47])],imp:=[11],cnt:=1 }),(6,{ cons:=[(13,[60])],imp:=[5,13],win:=[(0,0,1),(6,0,1),(7,0,1),(8,0,1),(9,0,1),(10,1,1),(11,0,1),(12,1,1),(13,1,1)],cnt:=2 }),(7,{ cons:=[(11,[71])],imp:=[11],cnt:=1 }),(8,{ cons:=[(13,[84])],imp:=[5,13],win:=[(0,0,1),(6,0,1),(7,0,1),(8,0,1),(9,0,1),(10,1,1),(11,0,1),(12,1,1),(13,1,1)],cnt:=2 }),(9,{ cons:=[(11,[95])],imp:=[11],cnt:=1 }),(10,{ cons:=[(13,[108])],imp:=[5,13],win:=[(0,0,1),(6,0,1),(7,0,1),(8,0,1),(9,0,1),(10,1,1),(11,0,1),(12,1,1),(13,1,1)],cnt:=2 }),(11,{ cons:=[(8,[116])],imp:=[5,8],win:=[(0,0,1),(6,0,1),(7,1,1),(8,1,1)],cnt:=2 })]⟩
noncomputable def fd242:FD:=⟨Tryz.f242,[],[]⟩
noncomputable def fd243:FD:=⟨Tryz.f243,[],[]⟩
noncomputable def fd244:FD:=⟨Tryz.f244,[],[]⟩
noncomputable def fd245:FD:=⟨Tryz.f245,[4,21],[]⟩
noncomputable def fd246:FD:=⟨Tryz.f246,[],[]⟩
noncomputable def fd247:FD:=⟨Tryz.f247,[],[]⟩
noncomputable def fd248:FD:=⟨Tryz.f248,[],[]⟩
noncomputable def fd249:FD:=⟨Tryz.f249,[3000006],[]⟩
noncomputable def fd250:FD:=⟨Tryz.f250,[4],[]⟩
noncomputable def fd251:FD:=⟨Tryz.f251,[],[]⟩
noncomputable def fd252:FD:=⟨Tryz.f252,[],[]⟩
noncomputable def fd253:FD:=⟨Tryz.f253,[3],[]⟩
noncomputable def fd254:FD:=⟨Tryz.f254,[],[]⟩
noncomputable def fd255:FD:=⟨Tryz.f255,[],[(6,{ cnt:=0 }),(7,{ imp:=[7],win:=[(8,1,1)],cnt:=1 }),(14,{ cnt:=0 }),(31,{ cnt:=0 })]⟩
noncomputable def fd256:FD:=⟨Tryz.f256,[],[]⟩
noncomputable def fd257:FD:=⟨Tryz.f257,[4],[]⟩
noncomputable def fd258:FD:=⟨Tryz.f258,[],[]⟩
noncomputable def fd259:FD:=⟨Tryz.f259,[2],[]⟩
noncomputable def fd260:FD:=⟨Tryz.f260,[],[]⟩
noncomputable def fd261:FD:=⟨Tryz.f261,[],[]⟩
noncomputable def fd262:FD:=⟨Tryz.f262,[],[]⟩
noncomputable def fd264:FD:=⟨Tryz.f264,[],[]⟩
noncomputable def fd265:FD:=⟨Tryz.f265,[],[]⟩
noncomputable def fd266:FD:=⟨Tryz.f266,[],[]⟩
noncomputable def fd267:FD:=⟨Tryz.f267,[],[]⟩
noncomputable def fd268:FD:=⟨Tryz.f268,[],[]⟩
noncomputable def fd271:FD:=⟨Tryz.f271,[],[(4,{ cons:=[(12,[27])],imp:=[12],cnt:=1 }),(6,{ cons:=[(4,[32])],cnt:=0 })]⟩
noncomputable def fd272:FD:=⟨Tryz.f272,[],[]⟩
noncomputable def fd273:FD:=⟨Tryz.f273,[],[]⟩
noncomputable def fd274:FD:=⟨Tryz.f274,[],[(3,{ cnt:=0 })]⟩
noncomputable def fd275:FD:=⟨Tryz.f275,[],[]⟩
noncomputable def fd276:FD:=⟨Tryz.f276,[],[(1,{ cnt:=0 })]⟩
noncomputable def fd277:FD:=⟨Tryz.f277,[],[]⟩
noncomputable def fd279:FD:=⟨Tryz.f279,[],[(0,{ imp:=[4,5],win:=[(0,0,1),(1,0,1),(2,0,1),(5,1,1)],cnt:=2 })]⟩
noncomputable def fd281:FD:=⟨Tryz.f281,[],[]⟩
noncomputable def fd282:FD:=⟨Tryz.f282,[],[]⟩
noncomputable def fd283:FD:=⟨Tryz.f283,[],[(0,{ cons:=[(15,[19])],imp:=[8],win:=[(9,0,1),(10,0,1),(11,0,1),(12,0,1),(13,0,1),(14,1,1),(15,1,1)],cnt:=1 })]⟩
noncomputable def fd288:FD:=⟨Tryz.f288,[],[]⟩
noncomputable def fd333:FD:=⟨Tryz.f333,[],[]⟩
noncomputable def ftA:Tr FD:=(.node (.node (.node (.node (.node (.node (.node (.node (.node .nil (some fd255) .nil) (some fd127) .nil) (some fd63) (.node .nil (some fd191) .nil)) (some fd31) (.node (.node .nil (some fd159) .nil) (some fd95) (.node .nil (some fd223) .nil))) (some fd15) (.node (.node (.node (.node .nil (some fd271) .nil) (some fd143) .nil) (some fd79) (.node .nil (some fd207) .nil)) (some fd47) (.node (.node .nil (some fd175) .nil) (some fd111) (.node .nil (some fd239) .nil)))) (some fd7) (.node (.node (.node (.node .nil (some fd135) .nil) (some fd71) (.node .nil (some fd199) .nil)) (some fd39) (.node (.node .nil (some fd167) .nil) (some fd103) (.node .nil (some fd231) .nil))) (some fd23) (.node (.node (.node (.node .nil (some fd279) .nil) (some fd151) .nil) (some fd87) (.node .nil (some fd215) .nil)) (some fd55) (.node (.node .nil (some fd183) .nil) (some fd119) (.node .nil (some fd247) .nil))))) (some fd3) (.node (.node (.node (.node (.node (.node .nil (some fd259) .nil) (some fd131) .nil) (some fd67) (.node .nil (some fd195) .nil)) (some fd35) (.node (.node .nil (some fd163) .nil) (some fd99) (.node .nil (some fd227) .nil))) (some fd19) (.node (.node (.node (.node .nil (some fd275) .nil) (some fd147) .nil) (some fd83) (.node .nil (some fd211) .nil)) (some fd51) (.node (.node .nil (some fd179) .nil) (some fd115) (.node .nil (some fd243) .nil)))) (some fd11) (.node (.node (.node (.node (.node .nil (some fd267) .nil) (some fd139) .nil) (some fd75) (.node .nil (some fd203) .nil)) (some fd43) (.node (.node .nil (some fd171) .nil) (some fd107) (.node .nil (some fd235) .nil))) (some fd27) (.node (.node (.node (.node .nil (some fd283) .nil) (some fd155) .nil) (some fd91) (.node .nil (some fd219) .nil)) (some fd59) (.node (.node .nil (some fd187) .nil) (some fd123) (.node .nil (some fd251) .nil)))))) none (.node (.node (.node (.node (.node (.node (.node .nil (some fd257) .nil) (some fd129) .nil) (some fd65) (.node .nil (some fd193) .nil)) (some fd33) (.node (.node .nil (some fd161) .nil) (some fd97) (.node .nil (some fd225) .nil))) (some fd17) (.node (.node (.node (.node .nil (some fd273) .nil) (some fd145) .nil) (some fd81) (.node .nil (some fd209) .nil)) (some fd49) (.node (.node .nil (some fd177) .nil) (some fd113) (.node .nil (some fd241) .nil)))) (some fd9) (.node (.node (.node (.node (.node .nil (some fd265) .nil) (some fd137) .nil) (some fd73) (.node .nil (some fd201) .nil)) (some fd41) (.node (.node .nil (some fd169) .nil) (some fd105) (.node .nil (some fd233) .nil))) (some fd25) (.node (.node (.node (.node .nil (some fd281) .nil) (some fd153) .nil) (some fd89) (.node .nil (some fd217) .nil)) (some fd57) (.node (.node .nil (some fd185) .nil) (some fd121) (.node .nil (some fd249) .nil))))) (some fd5) (.node (.node (.node (.node (.node (.node .nil (some fd261) .nil) (some fd133) .nil) (some fd69) (.node .nil (some fd197) .nil)) (some fd37) (.node (.node .nil (some fd165) .nil) (some fd101) (.node .nil (some fd229) .nil))) (some fd21) (.node (.node (.node (.node .nil (some fd277) .nil) (some fd149) .nil) none (.node .nil (some fd213) .nil)) (some fd53) (.node (.node .nil (some fd181) .nil) (some fd117) (.node .nil (some fd245) .nil)))) (some fd13) (.node (.node (.node (.node .nil (some fd141) .nil) (some fd77) (.node (.node .nil (some fd333) .nil) (some fd205) .nil)) (some fd45) (.node (.node .nil (some fd173) .nil) (some fd109) (.node .nil (some fd237) .nil))) (some fd29) (.node (.node (.node .nil (some fd157) .nil) (some fd93) (.node .nil (some fd221) .nil)) (some fd61) (.node (.node .nil (some fd189) .nil) (some fd125) (.node .nil (some fd253) .nil))))))) none (.node (.node (.node (.node (.node (.node (.node (.node .nil (some fd256) .nil) (some fd128) .nil) (some fd64) (.node .nil (some fd192) .nil)) (some fd32) (.node (.node (.node .nil (some fd288) .nil) (some fd160) .nil) (some fd96) (.node .nil (some fd224) .nil))) (some fd16) (.node (.node (.node (.node .nil (some fd272) .nil) (some fd144) .nil) (some fd80) (.node .nil (some fd208) .nil)) (some fd48) (.node (.node .nil (some fd176) .nil) (some fd112) (.node .nil (some fd240) .nil)))) (some fd8) (.node (.node (.node (.node (.node .nil (some fd264) .nil) (some fd136) .nil) (some fd72) (.node .nil (some fd200) .nil)) (some fd40) (.node (.node .nil (some fd168) .nil) (some fd104) (.node .nil (some fd232) .nil))) (some fd24) (.node (.node (.node .nil (some fd152) .nil) (some fd88) (.node .nil (some fd216) .nil)) (some fd56) (.node (.node .nil (some fd184) .nil) (some fd120) (.node .nil (some fd248) .nil))))) (some fd4) (.node (.node (.node (.node (.node (.node .nil (some fd260) .nil) (some fd132) .nil) (some fd68) (.node .nil (some fd196) .nil)) (some fd36) (.node (.node .nil (some fd164) .nil) (some fd100) (.node .nil (some fd228) .nil))) (some fd20) (.node (.node (.node (.node .nil (some fd276) .nil) (some fd148) .nil) (some fd84) (.node .nil (some fd212) .nil)) (some fd52) (.node (.node .nil (some fd180) .nil) (some fd116) (.node .nil (some fd244) .nil)))) (some fd12) (.node (.node (.node (.node (.node .nil (some fd268) .nil) (some fd140) .nil) (some fd76) (.node .nil (some fd204) .nil)) (some fd44) (.node (.node .nil (some fd172) .nil) (some fd108) (.node .nil (some fd236) .nil))) (some fd28) (.node (.node (.node .nil (some fd156) .nil) (some fd92) (.node .nil (some fd220) .nil)) (some fd60) (.node (.node .nil (some fd188) .nil) (some fd124) (.node .nil (some fd252) .nil)))))) none (.node (.node (.node (.node (.node (.node (.node .nil (some fd258) .nil) (some fd130) .nil) (some fd66) (.node .nil (some fd194) .nil)) (some fd34) (.node (.node .nil (some fd162) .nil) (some fd98) (.node .nil (some fd226) .nil))) (some fd18) (.node (.node (.node (.node .nil (some fd274) .nil) (some fd146) .nil) (some fd82) (.node .nil (some fd210) .nil)) (some fd50) (.node (.node .nil (some fd178) .nil) (some fd114) (.node .nil (some fd242) .nil)))) (some fd10) (.node (.node (.node (.node (.node .nil (some fd266) .nil) (some fd138) .nil) (some fd74) (.node .nil (some fd202) .nil)) (some fd42) (.node (.node .nil (some fd170) .nil) (some fd106) (.node .nil (some fd234) .nil))) (some fd26) (.node (.node (.node (.node .nil (some fd282) .nil) (some fd154) .nil) none (.node .nil (some fd218) .nil)) (some fd58) (.node (.node .nil (some fd186) .nil) (some fd122) (.node .nil (some fd250) .nil))))) (some fd6) (.node (.node (.node (.node (.node (.node .nil (some fd262) .nil) (some fd134) .nil) (some fd70) (.node .nil (some fd198) .nil)) (some fd38) (.node (.node .nil (some fd166) .nil) (some fd102) (.node .nil (some fd230) .nil))) (some fd22) (.node (.node (.node .nil (some fd150) .nil) (some fd86) (.node .nil (some fd214) .nil)) (some fd54) (.node (.node .nil (some fd182) .nil) (some fd118) (.node .nil (some fd246) .nil)))) (some fd14) (.node (.node (.node (.node .nil (some fd142) .nil) (some fd78) (.node .nil (some fd206) .nil)) (some fd46) (.node (.node .nil (some fd174) .nil) (some fd110) (.node .nil (some fd238) .nil))) (some fd30) (.node (.node (.node .nil (some fd158) .nil) (some fd94) (.node .nil (some fd222) .nil)) (some fd62) (.node (.node .nil (some fd190) .nil) (some fd126) (.node .nil (some fd254) .nil))))))))
end
end Go.Proofs.Tryz
/- order: 3 7 15 31 63 127 255 191 95 159 223 47 79 143 271 207 111 175 239 23 39 71 135 199 103 167 231 55 87 151 279 215 119 183 247 11 19 35 67 131 259 195 99 163 227 51 83 147 275 211 115 179 243 27 43 75 139 267 203 107 171 235 59 91 155 283 219 123 187 251 5 9 17 33 65 129 257 193 97 161 225 49 81 145 273 209 113 177 241 25 41 73 137 265 201 105 169 233 57 89 153 281 217 121 185 249 13 21 37 69 133 261 197 101 165 229 53 149 277 213 117 181 245 29 45 77 141 205 333 109 173 237 61 93 157 221 125 189 253 4 8 16 32 64 128 256 192 96 160 288 224 48 80 144 272 208 112 176 240 24 40 72 136 264 200 104 168 232 56 88 152 216 120 184 248 12 20 36 68 132 260 196 100 164 228 52 84 148 276 212 116 180 244 28 44 76 140 268 204 108 172 236 60 92 156 220 124 188 252 6 10 18 34 66 130 258 194 98 162 226 50 82 146 274 210 114 178 242 26 42 74 138 266 202 106 170 234 58 154 282 218 122 186 250 14 22 38 70 134 262 198 102 166 230 54 86 150 214 118 182 246 30 46 78 142 206 110 174 238 62 94 158 222 126 190 254 -/
/- The words that the walks use at home; export.py writes them out. -/
namespace Ps
open Go
end Ps
namespace Go.Proofs.Tryz
open Go Ps
theorem follows:prog.follows .mixedOrders=true:=by kernel_rfl
theorem depth6:6≤prog.depth:=by
 have h:Nat.ble 6 prog.depth=true:=by kernel_rfl
 exact Nat.le_of_ble_eq_true h
theorem fnS {tt : TT} {imm : List Nat} {f : Nat} {fn : Func} {args : List PV} {H : PH} {Q : PV → PH → Prop} (hT : ttOk prog tt = true) (hf : prog.funcs[f]? = some fn) (h : pFun2 prog tt imm fn args H Q) (hn : (fn.name == "runtime.NumGoroutine") = false := by kernel_rfl) : CK prog f args H Q :=
  callOk_of_pFun2 follows hT depth6 hf hn h
theorem c263 (s:List UInt8) (c:UInt8):Pure prog 263 [.str s,bC c] (.int .i64 (Lib.countByte s c)) :=
 pure_extern2 (e:=Extern.BytealgCount.count) func263 (by kernel_rfl) (by kernel_rfl) (by kernel_rfl) (by kernel_rfl) (run_count s c)
theorem c280 (s:List UInt8) (c:UInt8):Pure prog 280 [.str s,bC c] (.int .i64 (Lib.indexByte s c)) :=
 pure_extern2 (e:=Extern.BytealgIndexByte.indexByte) func280 (by kernel_rfl) (by kernel_rfl) (by kernel_rfl) (by kernel_rfl) (run_index s c)
end Go.Proofs.Tryz
namespace Ps
open Go
theorem CK.nil {P:Program} {f:Nat} {args:List PV} {H:PH} (h:CK P f args H fun r H'=>r=.nilS∧H'=H):CK P f args H fun r H'=>r=.slice 0 [] none∧H'=H:=by
 intro g w vs hs hr
 refine (h g w vs hs hr).mono ?_
 rintro e w' ⟨v,r,H',g',rfl,⟨rfl,rfl⟩,hr',st,ho,hc⟩
 have h0:VC P g' w' v .nilS:=hr'.e 0
 have h0:v=.slice none 0 0:=by
  rcases h0 with h0 | ⟨_,_,_,_,h0,_⟩
  ·exact h0.inv_nilS
  ·cases h0
 subst h0
 have hv:V g' w' (.slice none 0 0) (.slice 0 [] none):=.snil none
 have hno:∀t i b,¬ownAt (one (.slice none 0 0) t) (Env.get [(0,.slice 0 [] none)] t) i b:=fun t i b h=>by
  rw [Env.get_cons] at h
  unfold one at h
  by_cases e:t=0
  ·rw [if_pos e,if_pos e.symm] at h;exact no_own hv i b h
  ·rw [if_neg (Ne.symm e)] at h;cases h.2.1
 refine ⟨_,.slice 0 [] none,H',g',rfl,⟨rfl,rfl⟩,⟨hr'.h,fun t=>?_,fun t i t' i' b h _=>absurd h (hno t i b),fun t i b h=>absurd h (hno t i b),hr'.cc⟩,st,fun i b h=>absurd h (no_own hv i b),hc⟩
 rw [Env.get_cons]
 unfold one
 by_cases e:t=0
 ·rw [if_pos e,if_pos e.symm];exact hv.vc
 ·rw [if_neg e,if_neg (Ne.symm e)];exact (V.undef _).vc
end Ps
namespace Go.Proofs.Tryz
open Go Ps
def ttB:TT:=[(3,⟨.int .i64,1,8,[.int .i64 0]⟩),(5,⟨.int .u8,1,1,[.int .u8 0]⟩),(9,⟨.str,1,16,[.str []]⟩),(22,⟨.slice 5,1,24,[.slice 0 [] (some 5)]⟩),(210,⟨.slice 22,1,24,[.slice 0 [] (some 22)]⟩)]
theorem ttB_ok:ttOk prog ttB=true:=by kernel_rfl
def imm257:List Nat:=[22]
def imm236:List Nat:=[33]
def imm210:List Nat:=[]
def imm237:List Nat:=[]
def imm212:List Nat:=[3,15,30]
def imm238:List Nat:=[]
def Ext (H H':PH):Prop:=∃ext,H'=H++ext
theorem Ext.refl (H:PH):Ext H H:=⟨[],by simp⟩
theorem Ext.push {H H':PH} (h:Ext H H') (o:PObj):Ext H (H'++[o]):=by
 obtain ⟨e,rfl⟩:=h
 exact ⟨e++[o],by simp⟩
theorem Ext.set {H H':PH} (h:Ext H H') {id:Nat} (hid:H.length≤id) (o:PObj):Ext H (H'.set id o):=by
 obtain ⟨e,rfl⟩:=h
 exact ⟨e.set (id - H.length) o,by rw [List.set_append_right _ _ hid]⟩
theorem Ext.len {H H':PH} (h:Ext H H'):H.length≤H'.length:=by
 obtain ⟨e,rfl⟩:=h
 simp
theorem c257 (n:Nat) (hn:n≤1099511627776) (H:PH):CK prog 257 [.nilS,.int .i64 n] H fun r H'=>(n=0∧r=.nilS∧H'=H)∨(0<n∧∃cap o,n≤cap∧r=.sref H.length 0 0 cap∧H'=H++[o]∧o.cs.length=cap):=by
 (refine fnS (imm:=imm257) ttB_ok func257 ?_;(conv=>whnf))
 refine ⟨fun h=>absurd (show (n:Int)<0 from h) (by omega),fun _=>?_⟩
 conv=>whnf
 have hw:IntKind.i64.wrap ((n:Int) - IntKind.i64.wrap (0 - 0))=n:=by
  rw [show IntKind.i64.wrap ((0:Int) - 0)=0 from rfl,w64 (by omega) (by omega)];omega
 refine ⟨fun h=>?_,fun h=>?_⟩
 ·conv=>whnf
  have h:IntKind.i64.wrap ((n:Int) - IntKind.i64.wrap (0 - 0)) > 0:=h
  rw [hw] at h
  refine ⟨⟨by omega,by omega,by omega⟩,?_⟩
  conv=>whnf
  rw [hw]
  refine ⟨⟨h,by show (n:Int)*(1:Nat)≤_;omega⟩,fun cap hc=>?_⟩
  conv=>whnf
  have hc:n≤cap:=hc
  refine ⟨⟨by omega,by omega,by show (0:Int)≤n;omega⟩,fun h2=>?_,fun h2=>absurd (show (0:Int)<((n:Int).toNat:Int) by omega) h2⟩
  conv=>whnf
  refine .inr ⟨by omega,cap,_,hc,rfl,rfl,?_⟩
  show (zerosOf [PV.int .u8 0] n++zerosOf [PV.int .u8 0] (cap - n)).length=cap
  rw [List.length_append,(zerosOf_get (z:=[PV.int .u8 0]) (sz:=1) rfl (by omega) n).1,(zerosOf_get (z:=[PV.int .u8 0]) (sz:=1) rfl (by omega) (cap - n)).1]
  omega
 ·conv=>whnf
  have h:¬IntKind.i64.wrap ((n:Int) - IntKind.i64.wrap (0 - 0)) > 0:=h
  rw [hw] at h
  exact .inl ⟨by omega,rfl,rfl⟩
def sl (b:List UInt8):PV:=.slice b.length (b.map bC) none
def Rep (H:PH) (c:PV) (b:List UInt8):Prop:=c=sl b∨∃id off cap o,c=.sref id off b.length cap∧H[id]? = some o∧(((o.cs.drop off).take (b.length*1)).map dem)=b.map bC
def Reps (H:PH) (cs:List PV) (ls:List (List UInt8)):Prop:=cs.length=ls.length∧∀(i:Nat) (c:PV) (b:List UInt8),cs[i]? = some c→ls[i]? = some b→Rep H c b
theorem Reps.sl (H:PH) (ls:List (List UInt8)):Reps H (ls.map sl) ls:=⟨by simp,fun i c b hc hb=>by
 rw [List.getElem?_map,hb] at hc
 exact .inl (Option.some.inj hc).symm⟩
theorem Ext.get {H H':PH} (h:Ext H H') {j:Nat} {o:PObj} (hj:H[j]? = some o):H'[j]? = some o:=by
 obtain ⟨e,rfl⟩:=h
 rw [List.getElem?_append_left (List.getElem?_eq_some_iff.1 hj).1];exact hj
structure CoS where
 k:Nat
structure CoT where
 k:Nat
 H:PH
 v:PV
theorem take_pre {a b:List PV} {n:Nat} (h:a.length=n):(a++b).take n=a:=by subst h;simp
theorem flat_take {ls:List (List UInt8)} {k:Nat} (hk:k<ls.length):(ls.take (k+1)).flatten=(ls.take k).flatten++ls[k]:=by
 rw [List.take_succ_eq_append_getElem hk,List.flatten_append,List.flatten_cons,List.flatten_nil,List.append_nil]
theorem flat_le (ls:List (List UInt8)) (k:Nat):((ls.take k).flatten).length≤ls.flatten.length:=by
 conv=>rhs;rw [←List.take_append_drop k ls]
 rw [List.flatten_append,List.length_append];omega
theorem allOne (b:List UInt8):(b.map bC).all oneP=true:=List.all_eq_true.2 fun x hx=>by
 obtain ⟨b,_,rfl⟩:=List.mem_map.1 hx
 rfl
def coOk (H0:PH) (ls:List (List UInt8)) (k:Nat) (H:PH) (v:PV):Prop :=
 (ls.flatten.length=0∧v=.nilS∧H=H0)∨(0<ls.flatten.length∧∃id cap o,v=.sref id 0 ((ls.take k).flatten).length cap∧H0.length≤id∧H[id]? = some o∧(o.cs.length=cap∧ls.flatten.length≤cap)∧o.cs.take ((ls.take k).flatten).length=((ls.take k).flatten).map bC)
theorem c236x (ls:List (List UInt8)) (hn:ls.length≤1099511627776) (ht:ls.flatten.length≤1099511627776) (H0:PH) (cs:List PV) (hr:Reps H0 cs ls):CK prog 236 [.slice ls.length cs none] H0 fun r H'=>Ext H0 H'∧coOk H0 ls ls.length H' r:=by
  (refine fnS (imm:=imm236) ttB_ok func236 ?_;(conv=>whnf))
  refine lO CoS (fun x=>[(0,.slice ls.length cs none),(9,.slice ls.length cs none),(10,.int .i64 ls.length),(11,.int .i64 x.k),(3,.int .i64 ((ls.take x.k).flatten).length)]) (fun _=>H0)
    (fun x=>x.k≤ls.length) (fun x=>ls.length - x.k) ⟨⟨0⟩,Nat.zero_le _,⟨rfl,rfl,rfl,rfl,rfl,trivial⟩,rfl⟩ ?_
  rintro ⟨k⟩ hk
  have hk:k≤ls.length:=hk
  conv=>whnf
  refine ⟨fun h=>?_,fun h=>?_⟩
  · conv=>whnf
    have h:(k:Int)<ls.length:=h
    have hi:k<ls.length:=by omega
    have hic:k<cs.length:=by rw [hr.1];exact hi
    have hrep:=hr.2 k _ _ (List.getElem?_eq_getElem hic) (List.getElem?_eq_getElem hi)
    refine ⟨⟨by show (0:Int)≤(k:Int);omega,h⟩,[cs[k]],fun j c hj=>?_,?_⟩
    · match j with
      | 0 =>
        have hj:some cs[k]=some c:=hj
        show cs[(k:Int).toNat*1+0]? = _
        rw [←hj]
        simp [hic]
      | j+1=>simp at hj
    have hf:=flat_take hi
    have hl:=flat_le ls (k+1)
    rw [hf,List.length_append] at hl
    have hw:IntKind.i64.wrap ((((ls.take k).flatten).length:Int)+(ls[k].length:Int))=((((ls.take (k+1)).flatten).length:Nat):Int):=by
      rw [w64 (by omega) (by omega),hf,List.length_append];rfl
    generalize cs[k]=c at hrep ⊢
    rcases hrep with rfl | ⟨id,off,cap,o,rfl,_,_⟩
    all_goals
     conv=>whnf
     refine ⟨fun h=>absurd (show IntKind.i64.wrap ((((ls.take k).flatten).length:Int)+(ls[k].length:Int))<0 from h) (by rw [hw];omega),fun _=>?_⟩
     conv=>whnf
     refine ⟨⟨k+1⟩,by show k+1≤ls.length;omega,⟨rfl,rfl,rfl,?_,?_,trivial⟩,rfl,by show ls.length - (k+1)<ls.length - k;omega⟩
     · show PV.int _ (IntKind.i64.wrap ((k:Int)+1))=PV.int _ ((k+1:Nat):Int)
       rw [w64 (by omega) (by omega)];rfl
     · exact congrArg (PV.int .i64) hw
  · conv=>whnf
    have h:¬(k:Int)<ls.length:=h
    have hkl:k=ls.length:=by omega
    subst hkl
    have htake:ls.take ls.length=ls:=List.take_of_length_le (Nat.le_refl _)
    refine cA (args':=[.nilS,.int .i64 ls.flatten.length]) (by show [PV.nilS,.int .i64 ((ls.take ls.length).flatten).length]=_;rw [htake]) ?_
    refine cO (c257 ls.flatten.length ht H0) ?_
    rintro r H1 hr1
    have hstart:Ext H0 H1∧coOk H0 ls 0 H1 r:=by
      rcases hr1 with ⟨h1,rfl,rfl⟩ | ⟨h1,cap,o,h2,rfl,rfl,h3⟩
      · exact ⟨Ext.refl _,.inl ⟨h1,rfl,rfl⟩⟩
      · exact ⟨⟨_,rfl⟩,.inr ⟨h1,H0.length,cap,o,rfl,Nat.le_refl _,by simp,⟨h3,h2⟩,by simp⟩⟩
    obtain ⟨e1,e2⟩:=hstart
    have hcase:(∃(v:PV),r=v∧(v=.nilS∨∃id n cap,v=.sref id 0 n cap)):=by
      rcases e2 with ⟨_,rfl,_⟩ | ⟨_,id,cap,_,rfl,_⟩
      · exact ⟨_,rfl,.inl rfl⟩
      · exact ⟨_,rfl,.inr ⟨id,_,cap,rfl⟩⟩
    have hgo:∀(E:Env),subE [(0,.slice ls.length cs none),(25,.slice ls.length cs none),(26,.int .i64 ls.length),(27,.int .i64 0),(6,r)] E→True:=fun _ _=>trivial
    obtain ⟨v,rfl,hv⟩:=hcase
    rcases hv with rfl | ⟨id,n,cap,rfl⟩
    all_goals
      conv=>whnf
      refine lO CoT (fun x=>[(25,.slice ls.length cs none),(26,.int .i64 ls.length),(27,.int .i64 x.k),(6,x.v)]) (fun x=>x.H)
        (fun x=>x.k≤ls.length∧Ext H0 x.H∧coOk H0 ls x.k x.H x.v) (fun x=>ls.length - x.k) ⟨⟨0,H1,_⟩,⟨Nat.zero_le _,e1,e2⟩,⟨rfl,rfl,rfl,rfl,trivial⟩,rfl⟩ ?_
      clear hgo e1 e2 hr1
      rintro ⟨k,H,v⟩ ⟨g1,g2,g3⟩
      have g1:k≤ls.length:=g1
      have g2:Ext H0 H:=g2
      have g3:coOk H0 ls k H v:=g3
      conv=>whnf
      refine ⟨fun h=>?_,fun h=>?_⟩
      · conv=>whnf
        have h:(k:Int)<ls.length:=h
        have hi:k<ls.length:=by omega
        have hic:k<cs.length:=by rw [hr.1];exact hi
        have hrep:=hr.2 k _ _ (List.getElem?_eq_getElem hic) (List.getElem?_eq_getElem hi)
        refine ⟨⟨by show (0:Int)≤(k:Int);omega,h⟩,[cs[k]],fun j c hj=>?_,?_⟩
        · match j with
          | 0 =>
            have hj:some cs[k]=some c:=hj
            show cs[(k:Int).toNat*1+0]? = _
            rw [←hj]
            simp [hic]
          | j+1=>simp at hj
        generalize cs[k]=c at hrep ⊢
        have hf:=flat_take hi
        have hl:=flat_le ls (k+1)
        rw [hf,List.length_append] at hl
        have hlast:∀(E:Env) (H':PH) (v':PV),subE [(25,.slice ls.length cs none),(26,.int .i64 ls.length),(27,.int .i64 (IntKind.i64.wrap ((k:Int)+1))),(6,v')] E→Ext H0 H'→coOk H0 ls (k+1) H' v' →
          ∃s':CoT,(s'.k≤ls.length∧Ext H0 s'.H∧coOk H0 ls s'.k s'.H s'.v)∧subE [(25,.slice ls.length cs none),(26,.int .i64 ls.length),(27,.int .i64 s'.k),(6,s'.v)] E∧H'=s'.H∧ls.length - s'.k<ls.length - k:=by
          intro E H' v' hE hx hy
          rw [w64 (by omega) (by omega)] at hE
          exact ⟨⟨k+1,H',v'⟩,⟨by show k+1≤ls.length;omega,hx,hy⟩,hE,rfl,by show ls.length - (k+1)<ls.length - k;omega⟩
        rcases g3 with ⟨y1,rfl,y3⟩ | ⟨y1,id,cap,o,rfl,hid,hob,⟨hcap,htc⟩,htk⟩
        · have hz:ls[k].length=0:=by omega
          rcases hrep with rfl | ⟨id,off,cap,o,rfl,ho,hbytes⟩
          · conv=>whnf
            refine ⟨⟨by show ls[k].length*1≤_;omega,by rw [List.length_map,Nat.mul_one],allOne _⟩,fun _=>?_,fun h=>absurd (show 0<ls[k].length from h) (by omega)⟩
            conv=>whnf
            exact hlast _ _ _ ⟨rfl,rfl,rfl,rfl,trivial⟩ g2 (.inl ⟨y1,rfl,y3⟩)
          · have ho':=g2.get ho
            conv=>whnf
            ((conv in (_[_]?)=>tactic=>exact ho');(conv=>whnf))
            refine ⟨⟨by show ls[k].length*1≤_;omega,(congrArg List.length hbytes).trans (by rw [List.length_map];exact (Nat.mul_one _).symm),(congrArg (List.all · oneP) hbytes).trans (allOne _)⟩,fun _=>?_,fun h=>absurd (show 0<ls[k].length from h) (by omega)⟩
            conv=>whnf
            exact hlast _ _ _ ⟨rfl,rfl,rfl,rfl,trivial⟩ g2 (.inl ⟨y1,rfl,y3⟩)
        · have hfin:∀(ds:List PV),ds=ls[k].map bC→(setCells (((ls.take k).flatten).length*1) ds o.cs).length=cap∧(setCells (((ls.take k).flatten).length*1) ds o.cs).take ((ls.take (k+1)).flatten).length=((ls.take (k+1)).flatten).map bC:=by
            rintro ds rfl
            have hse:setCells (((ls.take k).flatten).length*1) (ls[k].map bC) o.cs=o.cs.take (((ls.take k).flatten).length*1)++ls[k].map bC++o.cs.drop (((ls.take k).flatten).length*1+(ls[k].map bC).length):=setCells_eq _ _ _ (by rw [List.length_map];omega)
            refine ⟨by rw [setCells_length _ _ _ (by rw [List.length_map];omega)];exact hcap,?_⟩
            rw [hse,hf,Nat.mul_one,htk,take_pre (by rw [List.length_append,List.length_append,List.length_map,List.length_map]),List.map_append]
          rcases hrep with rfl | ⟨id2,off2,cap2,o2,rfl,ho,hbytes⟩
          · obtain ⟨f1,f2⟩:=hfin _ rfl
            conv=>whnf
            ((conv in (_[_]?)=>tactic=>exact hob);(conv=>whnf))
            refine ⟨⟨rfl,by show (((ls.take k).flatten).length+ls[k].length)*1≤_;omega,by rw [List.length_map,Nat.mul_one],allOne _,by show ((ls.take k).flatten).length*1≤_;omega⟩,fun _=>⟨by show (((ls.take k).flatten).length+ls[k].length)*1≤_;omega,?_⟩,fun h=>absurd h (by omega)⟩
            conv=>whnf
            exact hlast _ _ _ ⟨rfl,rfl,rfl,rfl,trivial⟩ (g2.set hid _) (.inr ⟨y1,id,cap,⟨o.T,setCells (((ls.take k).flatten).length*1) (ls[k].map bC) o.cs,o.ver+1⟩,by rw [hf,List.length_append];rfl,hid,gS hob,⟨f1,htc⟩,f2⟩)
          · obtain ⟨f1,f2⟩:=hfin _ hbytes
            have ho':=g2.get ho
            conv=>whnf
            ((conv in (_[_]?)=>tactic=>exact ho');(conv=>whnf))
            ((conv in (_[_]?)=>tactic=>exact hob);(conv=>whnf))
            refine ⟨⟨rfl,by show (((ls.take k).flatten).length+ls[k].length)*1≤_;omega,(congrArg List.length hbytes).trans (by rw [List.length_map];exact (Nat.mul_one _).symm),(congrArg (List.all · oneP) hbytes).trans (allOne _),by show ((ls.take k).flatten).length*1≤_;omega⟩,fun _=>⟨by show (((ls.take k).flatten).length+ls[k].length)*1≤_;omega,?_⟩,fun h=>absurd h (by omega)⟩
            conv=>whnf
            exact hlast _ _ _ ⟨rfl,rfl,rfl,rfl,trivial⟩ (g2.set hid _) (.inr ⟨y1,id,cap,⟨o.T,setCells (((ls.take k).flatten).length*1) (((o2.cs.drop off2).take (ls[k].length*1)).map dem) o.cs,o.ver+1⟩,by rw [hf,List.length_append];rfl,hid,gS hob,⟨f1,htc⟩,f2⟩)
      · conv=>whnf
        have h:¬(k:Int)<ls.length:=h
        have hkl:k=ls.length:=by omega
        subst hkl
        rcases g3 with ⟨y1,rfl,y3⟩ | ⟨y1,id,cap,o,rfl,y2⟩
        · conv=>whnf
          exact ⟨g2,.inl ⟨y1,rfl,y3⟩⟩
        · conv=>whnf
          exact ⟨g2,.inr ⟨y1,id,cap,o,rfl,y2⟩⟩
theorem c236 (ls:List (List UInt8)) (hn:ls.length≤1099511627776) (ht:ls.flatten.length≤1099511627776) {H0:PH} {cs:List PV} (hr:Reps H0 cs ls):CK prog 236 [.slice ls.length cs none] H0 fun r H'=>r=sl ls.flatten∧H'=H0:=by
 have htake:ls.take ls.length=ls:=List.take_of_length_le (Nat.le_refl _)
 rcases Nat.eq_zero_or_pos ls.flatten.length with h0 | h0
 ·have hnil:ls.flatten=[]:=List.length_eq_zero_iff.1 h0
  rw [hnil]
  refine CK.nil ((c236x ls hn ht H0 cs hr).mono fun r H' ⟨_,h⟩=>?_)
  rcases h with ⟨_,h1,h2⟩ | ⟨h1,_⟩
  ·exact ⟨h1,h2⟩
  ·omega
 ·refine CK.frz (c236x ls hn ht H0 cs hr) fun r H' ⟨⟨ext,he⟩,h⟩=>?_
  rcases h with ⟨h1,_⟩ | ⟨_,id,cap,o,h1,h2,h3,⟨h4,h5⟩,h6⟩
  ·omega
  rw [htake] at h1 h6
  refine ⟨ext,id,cap,o,he,h1,h2,h3,by rw [List.length_map];omega,by rw [List.length_map];exact h6,?_⟩
  exact List.all_eq_true.2 fun x hx=>by
   obtain ⟨b,_,rfl⟩:=List.mem_map.1 hx
   rfl
set_option maxHeartbeats 1000000
def ttW:TT:=[(3,⟨.int .i64,1,8,[.int .i64 0]⟩),(5,⟨.int .u8,1,1,[.int .u8 0]⟩),(22,⟨.slice 5,1,24,[.slice 0 [] (some 5)]⟩),(215,⟨.arr 16 5,16,16,List.replicate 16 (.int .u8 0)⟩),(173,⟨.int .u64,1,8,[.int .u64 0]⟩),(94,⟨.int .u64,1,8,[.int .u64 0]⟩),(210,⟨.slice 22,1,24,[.slice 0 [] (some 22)]⟩),(329,⟨.ptr,1,8,[.ptr none]⟩),(330,⟨.arr 4 173,4,32,[.int .u64 0,.int .u64 0,.int .u64 0,.int .u64 0]⟩)]
theorem ttW_ok:ttOk prog ttW=true:=by kernel_rfl
def imm258:List Nat:=[]
def imm241:List Nat:=[]
def imm240:List Nat:=[]
def imm239:List Nat:=[]
def imm216:List Nat:=[2]
def rotS (k:Int):Int:=ibits .and .u64 (IntKind.u64.wrap k) 63
def rotC (x k:Int):Int:=ibits .or .u64 (ishl .u64 x (rotS k)) (ishr .u64 x (IntKind.u64.wrap (64 - rotS k)))
theorem u64_nonneg (x:Int):0≤IntKind.u64.wrap x:=by
 show 0≤x % _
 exact Int.emod_nonneg _ (by decide)
theorem c258 (x k:Int):Pure prog 258 [.int .u64 x,.int .i64 k] (.int .u64 (rotC x k)):=by
 intro H
 (refine fnS (imm:=imm258) ttW_ok func258 ?_;(conv=>whnf))
 refine ⟨u64_nonneg _,?_⟩
 conv=>whnf
 refine ⟨u64_nonneg _,?_⟩
 conv=>whnf
 exact ⟨rfl,rfl⟩
structure S4 where
 a:Int
 b:Int
 c:Int
 d:Int
def S4.O (s:S4) (v:Nat):PObj:=⟨330,[.int .u64 s.a,.int .u64 s.b,.int .u64 s.c,.int .u64 s.d],v⟩
def addW (x y:Int):Int:=IntKind.u64.wrap (x+y)
def xorW (x y:Int):Int:=ibits .xor .u64 x y
def S4.s0 (s:S4):S4:=⟨addW s.a s.b,s.b,s.c,s.d⟩
def S4.s1 (s:S4):S4:=⟨s.a,xorW (rotC s.b 13) s.a,s.c,s.d⟩
def S4.s2 (s:S4):S4:=⟨rotC s.a 32,s.b,s.c,s.d⟩
def S4.s3 (s:S4):S4:=⟨s.a,s.b,addW s.c s.d,s.d⟩
def S4.s4 (s:S4):S4:=⟨s.a,s.b,s.c,xorW (rotC s.d 16) s.c⟩
def S4.s5 (s:S4):S4:=⟨addW s.a s.d,s.b,s.c,s.d⟩
def S4.s6 (s:S4):S4:=⟨s.a,s.b,s.c,xorW (rotC s.d 21) s.a⟩
def S4.s7 (s:S4):S4:=⟨s.a,s.b,addW s.c s.b,s.d⟩
def S4.s8 (s:S4):S4:=⟨s.a,xorW (rotC s.b 17) s.c,s.c,s.d⟩
def S4.s9 (s:S4):S4:=⟨s.a,s.b,rotC s.c 32,s.d⟩
def S4.rnd (s:S4):S4:=s.s0.s1.s2.s3.s4.s5.s6.s7.s8.s9
def S4.rnds:Nat→S4→S4
 | 0,s=>s
 | n+1,s=>(S4.rnds n s).rnd
theorem S4.look (s:S4) (v:Nat) {id:Nat} {H:PH} {o:PObj} (h:H[id]? = some o):(H.set id (s.O v))[id]? = some ⟨330,[.int .u64 s.a,.int .u64 s.b,.int .u64 s.c,.int .u64 s.d],v⟩:=gS h
def D241_2:Draw:={ imp:=[11],win:=[] }
def D241_3:Draw:={ imp:=[13],win:=[] }
def D241_4:Draw:={ imp:=[8],win:=[] }
def D241_5:Draw:={ imp:=[11],win:=[] }
def D241_6:Draw:={ imp:=[13],win:=[] }
def D241_7:Draw:={ imp:=[11],win:=[] }
def D241_8:Draw:={ imp:=[13],win:=[] }
def D241_9:Draw:={ imp:=[11],win:=[] }
def D241_10:Draw:={ imp:=[13],win:=[] }
def D241_11:Draw:={ imp:=[8],win:=[] }
theorem c241 (n:Nat) (hn:n≤1000) (s:S4) (id v:Nat) (H:PH) (hid:H[id]? = some (s.O v)) :
  CK prog 241 [.ptr (some (id,0)),.int .i64 n] H fun r H'=>r=.tup []∧∃v',H'=H.set id ((S4.rnds n s).O v'):=by
 (refine fnS (imm:=imm241) ttW_ok func241 ?_;(conv=>whnf))
 refine lO (Nat×Nat) (fun x=>[(0,.ptr (some (id,0))),(4,.int .i64 n),(5,.int .i64 x.1)]) (fun x=>H.set id ((S4.rnds x.1 s).O x.2)) (fun x=>x.1≤n) (fun x=>n - x.1) ⟨(0,v),Nat.zero_le _,⟨rfl,rfl,rfl,trivial⟩,(set_self hid).symm⟩ ?_
 rintro ⟨i,w⟩ hi
 replace hi:i≤n:=hi
 conv=>whnf
 refine ⟨fun h=>?_,fun h=>?_⟩
 ·have h:(i:Int)<n:=h
  conv=>whnf
  generalize hs:S4.rnds i s=z0
  refine dO2 D241_2 [H.set id (z0.O (w+0)),H.set id (z0.s0.O (w+1))] (by kernel_rfl) rfl trivial ?_
  conv=>whnf
  iterate 3 (refine dS ?_;(conv=>whnf))
  apply Exists.intro
  apply And.intro
  ·conv=>whnf
   ((conv in (_[_]?)=>tactic=>exact (z0.look (w+0) hid));(conv=>whnf))
   exact ⟨rfl,rfl,trivial⟩
  conv=>whnf
  iterate 3 (refine dS ?_;(conv=>whnf))
  apply Exists.intro
  apply And.intro
  ·conv=>whnf
   ((conv in (_[_]?)=>tactic=>exact (z0.look (w+0) hid));(conv=>whnf))
   exact ⟨rfl,rfl,trivial⟩
  conv=>whnf
  iterate 3 (refine dS ?_;(conv=>whnf))
  apply Exists.intro
  apply And.intro
  ·conv=>whnf
   ((conv in (_[_]?)=>tactic=>exact (z0.look (w+0) hid));(conv=>whnf))
   exact ⟨rfl,List.set_set ..,trivial⟩
  conv=>whnf
  generalize hs1:S4.s0 z0=z1
  refine dO2 D241_3 [H.set id (z1.O (w+1)),H.set id (z1.s1.O (w+2))] (by kernel_rfl) rfl trivial ?_
  conv=>whnf
  iterate 4 (refine dS ?_;(conv=>whnf))
  apply Exists.intro
  apply And.intro
  ·conv=>whnf
   ((conv in (_[_]?)=>tactic=>exact (z1.look (w+1) hid));(conv=>whnf))
   exact ⟨rfl,rfl,trivial⟩
  conv=>whnf
  refine ⟨_,cP (c258 _ _) ⟨rfl,rfl,trivial⟩,?_⟩
  conv=>whnf
  iterate 3 (refine dS ?_;(conv=>whnf))
  apply Exists.intro
  apply And.intro
  ·conv=>whnf
   ((conv in (_[_]?)=>tactic=>exact (z1.look (w+1) hid));(conv=>whnf))
   exact ⟨rfl,rfl,trivial⟩
  conv=>whnf
  iterate 3 (refine dS ?_;(conv=>whnf))
  apply Exists.intro
  apply And.intro
  ·conv=>whnf
   ((conv in (_[_]?)=>tactic=>exact (z1.look (w+1) hid));(conv=>whnf))
   exact ⟨rfl,List.set_set ..,trivial⟩
  conv=>whnf
  generalize hs2:S4.s1 z1=z2
  refine dO2 D241_4 [H.set id (z2.O (w+2)),H.set id (z2.s2.O (w+3))] (by kernel_rfl) rfl trivial ?_
  conv=>whnf
  iterate 4 (refine dS ?_;(conv=>whnf))
  apply Exists.intro
  apply And.intro
  ·conv=>whnf
   ((conv in (_[_]?)=>tactic=>exact (z2.look (w+2) hid));(conv=>whnf))
   exact ⟨rfl,rfl,trivial⟩
  conv=>whnf
  refine ⟨_,cP (c258 _ _) ⟨rfl,rfl,trivial⟩,?_⟩
  conv=>whnf
  iterate 2 (refine dS ?_;(conv=>whnf))
  apply Exists.intro
  apply And.intro
  ·conv=>whnf
   ((conv in (_[_]?)=>tactic=>exact (z2.look (w+2) hid));(conv=>whnf))
   exact ⟨rfl,List.set_set ..,trivial⟩
  conv=>whnf
  generalize hs3:S4.s2 z2=z3
  refine dO2 D241_5 [H.set id (z3.O (w+3)),H.set id (z3.s3.O (w+4))] (by kernel_rfl) rfl trivial ?_
  conv=>whnf
  iterate 3 (refine dS ?_;(conv=>whnf))
  apply Exists.intro
  apply And.intro
  ·conv=>whnf
   ((conv in (_[_]?)=>tactic=>exact (z3.look (w+3) hid));(conv=>whnf))
   exact ⟨rfl,rfl,trivial⟩
  conv=>whnf
  iterate 3 (refine dS ?_;(conv=>whnf))
  apply Exists.intro
  apply And.intro
  ·conv=>whnf
   ((conv in (_[_]?)=>tactic=>exact (z3.look (w+3) hid));(conv=>whnf))
   exact ⟨rfl,rfl,trivial⟩
  conv=>whnf
  iterate 3 (refine dS ?_;(conv=>whnf))
  apply Exists.intro
  apply And.intro
  ·conv=>whnf
   ((conv in (_[_]?)=>tactic=>exact (z3.look (w+3) hid));(conv=>whnf))
   exact ⟨rfl,List.set_set ..,trivial⟩
  conv=>whnf
  generalize hs4:S4.s3 z3=z4
  refine dO2 D241_6 [H.set id (z4.O (w+4)),H.set id (z4.s4.O (w+5))] (by kernel_rfl) rfl trivial ?_
  conv=>whnf
  iterate 4 (refine dS ?_;(conv=>whnf))
  apply Exists.intro
  apply And.intro
  ·conv=>whnf
   ((conv in (_[_]?)=>tactic=>exact (z4.look (w+4) hid));(conv=>whnf))
   exact ⟨rfl,rfl,trivial⟩
  conv=>whnf
  refine ⟨_,cP (c258 _ _) ⟨rfl,rfl,trivial⟩,?_⟩
  conv=>whnf
  iterate 3 (refine dS ?_;(conv=>whnf))
  apply Exists.intro
  apply And.intro
  ·conv=>whnf
   ((conv in (_[_]?)=>tactic=>exact (z4.look (w+4) hid));(conv=>whnf))
   exact ⟨rfl,rfl,trivial⟩
  conv=>whnf
  iterate 3 (refine dS ?_;(conv=>whnf))
  apply Exists.intro
  apply And.intro
  ·conv=>whnf
   ((conv in (_[_]?)=>tactic=>exact (z4.look (w+4) hid));(conv=>whnf))
   exact ⟨rfl,List.set_set ..,trivial⟩
  conv=>whnf
  generalize hs5:S4.s4 z4=z5
  refine dO2 D241_7 [H.set id (z5.O (w+5)),H.set id (z5.s5.O (w+6))] (by kernel_rfl) rfl trivial ?_
  conv=>whnf
  iterate 3 (refine dS ?_;(conv=>whnf))
  apply Exists.intro
  apply And.intro
  ·conv=>whnf
   ((conv in (_[_]?)=>tactic=>exact (z5.look (w+5) hid));(conv=>whnf))
   exact ⟨rfl,rfl,trivial⟩
  conv=>whnf
  iterate 3 (refine dS ?_;(conv=>whnf))
  apply Exists.intro
  apply And.intro
  ·conv=>whnf
   ((conv in (_[_]?)=>tactic=>exact (z5.look (w+5) hid));(conv=>whnf))
   exact ⟨rfl,rfl,trivial⟩
  conv=>whnf
  iterate 3 (refine dS ?_;(conv=>whnf))
  apply Exists.intro
  apply And.intro
  ·conv=>whnf
   ((conv in (_[_]?)=>tactic=>exact (z5.look (w+5) hid));(conv=>whnf))
   exact ⟨rfl,List.set_set ..,trivial⟩
  conv=>whnf
  generalize hs6:S4.s5 z5=z6
  refine dO2 D241_8 [H.set id (z6.O (w+6)),H.set id (z6.s6.O (w+7))] (by kernel_rfl) rfl trivial ?_
  conv=>whnf
  iterate 4 (refine dS ?_;(conv=>whnf))
  apply Exists.intro
  apply And.intro
  ·conv=>whnf
   ((conv in (_[_]?)=>tactic=>exact (z6.look (w+6) hid));(conv=>whnf))
   exact ⟨rfl,rfl,trivial⟩
  conv=>whnf
  refine ⟨_,cP (c258 _ _) ⟨rfl,rfl,trivial⟩,?_⟩
  conv=>whnf
  iterate 3 (refine dS ?_;(conv=>whnf))
  apply Exists.intro
  apply And.intro
  ·conv=>whnf
   ((conv in (_[_]?)=>tactic=>exact (z6.look (w+6) hid));(conv=>whnf))
   exact ⟨rfl,rfl,trivial⟩
  conv=>whnf
  iterate 3 (refine dS ?_;(conv=>whnf))
  apply Exists.intro
  apply And.intro
  ·conv=>whnf
   ((conv in (_[_]?)=>tactic=>exact (z6.look (w+6) hid));(conv=>whnf))
   exact ⟨rfl,List.set_set ..,trivial⟩
  conv=>whnf
  generalize hs7:S4.s6 z6=z7
  refine dO2 D241_9 [H.set id (z7.O (w+7)),H.set id (z7.s7.O (w+8))] (by kernel_rfl) rfl trivial ?_
  conv=>whnf
  iterate 3 (refine dS ?_;(conv=>whnf))
  apply Exists.intro
  apply And.intro
  ·conv=>whnf
   ((conv in (_[_]?)=>tactic=>exact (z7.look (w+7) hid));(conv=>whnf))
   exact ⟨rfl,rfl,trivial⟩
  conv=>whnf
  iterate 3 (refine dS ?_;(conv=>whnf))
  apply Exists.intro
  apply And.intro
  ·conv=>whnf
   ((conv in (_[_]?)=>tactic=>exact (z7.look (w+7) hid));(conv=>whnf))
   exact ⟨rfl,rfl,trivial⟩
  conv=>whnf
  iterate 3 (refine dS ?_;(conv=>whnf))
  apply Exists.intro
  apply And.intro
  ·conv=>whnf
   ((conv in (_[_]?)=>tactic=>exact (z7.look (w+7) hid));(conv=>whnf))
   exact ⟨rfl,List.set_set ..,trivial⟩
  conv=>whnf
  generalize hs8:S4.s7 z7=z8
  refine dO2 D241_10 [H.set id (z8.O (w+8)),H.set id (z8.s8.O (w+9))] (by kernel_rfl) rfl trivial ?_
  conv=>whnf
  iterate 4 (refine dS ?_;(conv=>whnf))
  apply Exists.intro
  apply And.intro
  ·conv=>whnf
   ((conv in (_[_]?)=>tactic=>exact (z8.look (w+8) hid));(conv=>whnf))
   exact ⟨rfl,rfl,trivial⟩
  conv=>whnf
  refine ⟨_,cP (c258 _ _) ⟨rfl,rfl,trivial⟩,?_⟩
  conv=>whnf
  iterate 3 (refine dS ?_;(conv=>whnf))
  apply Exists.intro
  apply And.intro
  ·conv=>whnf
   ((conv in (_[_]?)=>tactic=>exact (z8.look (w+8) hid));(conv=>whnf))
   exact ⟨rfl,rfl,trivial⟩
  conv=>whnf
  iterate 3 (refine dS ?_;(conv=>whnf))
  apply Exists.intro
  apply And.intro
  ·conv=>whnf
   ((conv in (_[_]?)=>tactic=>exact (z8.look (w+8) hid));(conv=>whnf))
   exact ⟨rfl,List.set_set ..,trivial⟩
  conv=>whnf
  generalize hs9:S4.s8 z8=z9
  refine dO2 D241_11 [H.set id (z9.O (w+9)),H.set id (z9.s9.O (w+10))] (by kernel_rfl) rfl trivial ?_
  conv=>whnf
  iterate 4 (refine dS ?_;(conv=>whnf))
  apply Exists.intro
  apply And.intro
  ·conv=>whnf
   ((conv in (_[_]?)=>tactic=>exact (z9.look (w+9) hid));(conv=>whnf))
   exact ⟨rfl,rfl,trivial⟩
  conv=>whnf
  refine ⟨_,cP (c258 _ _) ⟨rfl,rfl,trivial⟩,?_⟩
  conv=>whnf
  iterate 2 (refine dS ?_;(conv=>whnf))
  apply Exists.intro
  apply And.intro
  ·conv=>whnf
   ((conv in (_[_]?)=>tactic=>exact (z9.look (w+9) hid));(conv=>whnf))
   exact ⟨rfl,List.set_set ..,trivial⟩
  conv=>whnf
  refine ⟨(i+1,w+10),by show i+1≤n;omega,⟨rfl,rfl,?_,trivial⟩,?_,by show n - (i+1)<n - i;omega⟩
  ·show PV.int _ (IntKind.i64.wrap ((i:Int)+1))=PV.int _ _
   rw [w64 (by omega) (by omega)];simp
  ·subst hs hs1 hs2 hs3 hs4 hs5 hs6 hs7 hs8 hs9
   rfl
 ·have h:¬(i:Int)<n:=h
  have e:i=n:=by omega
  subst e
  conv=>whnf
  exact ⟨rfl,w,rfl⟩
def leN:List UInt8→Nat
 | []=>0
 | c::l=>c.toNat+256*leN l
theorem leN_lt:∀l:List UInt8,leN l<256 ^ l.length
 | []=>by decide
 | c::l=>by
  have:=leN_lt l
  have:=c.toNat_lt
  rw [List.length_cons,Nat.pow_succ]
  show c.toNat+256*leN l<_
  omega
theorem leN_snoc:∀(l:List UInt8) (c:UInt8),leN (l++[c])=leN l+256 ^ l.length*c.toNat
 | [],c=>by simp [leN]
 | x::l,c=>by
  show x.toNat+256*leN (l++[c])=x.toNat+256*leN l+_
  rw [leN_snoc l c,List.length_cons,Nat.pow_succ,Nat.mul_add,Nat.add_assoc]
  congr 2
  rw [←Nat.mul_assoc,Nat.mul_comm 256]
theorem wrapU64 {n:Nat} (h:n<18446744073709551616):IntKind.u64.wrap (n:Int)=(n:Int):=by
 show (n:Int) % _=_
 have:(2 ^ IntKind.u64.bits:Int)=18446744073709551616:=by decide
 rw [this];omega
theorem or_u64 {x y:Nat} (hx:x<18446744073709551616) (hy:y<18446744073709551616):ibits .or .u64 x y=((x ||| y:Nat):Int):=by
 show IntKind.u64.wrap ((BitVec.ofInt 64 x ||| BitVec.ofInt 64 y).toNat:Int)=_
 have hb:∀{n:Nat},n<18446744073709551616→(BitVec.ofInt 64 (n:Int)).toNat=n:=fun h=>by
  rw [BitVec.toNat_ofInt];omega
 rw [BitVec.toNat_or,hb hx,hb hy]
 have:x ||| y<2 ^ 64:=Nat.or_lt_two_pow hx hy
 exact wrapU64 this
theorem or_shl (x c i:Nat) (hx:x<2 ^ i) (hc:c*2 ^ i<18446744073709551616) (h2:2 ^ i≤18446744073709551616) (hi:i≤64) :
  ibits .or .u64 x (ishl .u64 c i)=((x+c*2 ^ i:Nat):Int):=by
 have e:ishl .u64 c i=((c*2 ^ i:Nat):Int):=by
  show IntKind.u64.wrap ((c:Int)*2 ^ (min (i:Int).toNat 64))=_
  rw [Int.toNat_natCast,Nat.min_eq_left hi]
  have:((c:Int)*2 ^ i)=((c*2 ^ i:Nat):Int):=by push_cast;rfl
  rw [this]
  exact wrapU64 hc
 rw [e,or_u64 (by omega) hc,Nat.or_comm,Nat.mul_comm,←Nat.two_pow_add_eq_or_of_lt hx,Nat.add_comm]
theorem pow8 (i:Nat):256 ^ i=2 ^ (8*i):=by rw [Nat.pow_mul]
theorem pow_le8 {i:Nat} (h:i≤8):2 ^ (8*i)≤18446744073709551616:=by
 have:2 ^ (8*i)≤2 ^ 64:=Nat.pow_le_pow_right (by omega) (by omega)
 exact this
theorem le_step (l:List UInt8) (c:UInt8) (h:l.length<8) :
  ibits .or .u64 (leN l:Nat) (ishl .u64 (IntKind.u64.wrap c.toNat) (8*(l.length:Int)))=((leN (l++[c]):Nat):Int):=by
 have hc:=c.toNat_lt
 have h1:=leN_lt l
 rw [pow8] at h1
 have h3:2 ^ (8*(l.length+1))≤18446744073709551616:=pow_le8 (by omega)
 have h4:2 ^ (8*(l.length+1))=256*2 ^ (8*l.length):=by rw [Nat.mul_add,Nat.pow_add];omega
 have h2:c.toNat*2 ^ (8*l.length)<18446744073709551616:=by
  have:c.toNat*2 ^ (8*l.length)<256*2 ^ (8*l.length):=Nat.mul_lt_mul_of_pos_right hc (Nat.pow_pos (by omega))
  omega
 rw [wrapU64 (by omega)]
 have:=or_shl (leN l) c.toNat (8*l.length) h1 h2 (by omega) (by omega)
 rw [leN_snoc,pow8,Nat.mul_comm (2 ^ _)]
 have e:(8*(l.length:Int))=((8*l.length:Nat):Int):=by push_cast;rfl
 rw [e]
 exact this
theorem at1' {cs:List PV} {k:Nat} {x:PV} (h:cs[k]? = some x):∀(j:Nat) (c:PV),[x][j]? = some c→cs[k+j]? = some c:=by
 intro j c hj
 match j with
 | 0=>simpa using h.trans hj
 | j+1=>simp at hj
theorem c239 (b:List UInt8) (hb:b.length≤8):Pure prog 239 [sl b] (.int .u64 (leN b)):=by
 intro H
 (refine fnS (imm:=imm239) ttW_ok func239 ?_;(conv=>whnf))
 refine lO Nat (fun i=>[(6,sl b),(7,.int .i64 b.length),(8,.int .i64 i),(3,.int .u64 (leN (b.take i)))]) (fun _=>H) (fun i=>i≤b.length) (fun i=>b.length - i) ⟨0,Nat.zero_le _,⟨rfl,rfl,rfl,rfl,trivial⟩,rfl⟩ ?_
 intro i hi
 conv=>whnf
 refine ⟨fun h=>?_,fun h=>?_⟩
 ·have h:(i:Int)<b.length:=h
  have hi':i<b.length:=by omega
  conv=>whnf
  refine ⟨⟨by omega,h⟩,[bC b[i]],at1' (k:=(i:Int).toNat*1) (by rw [Int.toNat_natCast,Nat.mul_one,List.getElem?_map,List.getElem?_eq_getElem hi'];rfl),?_⟩
  conv=>whnf
  refine ⟨by rw [w64 (by omega) (by omega)];omega,?_⟩
  conv=>whnf
  refine ⟨i+1,by omega,⟨rfl,rfl,?_,?_,trivial⟩,rfl,by omega⟩
  ·show PV.int _ (IntKind.i64.wrap ((i:Int)+1))=PV.int _ _
   rw [w64 (by omega) (by omega)];simp
  ·show PV.int _ (ibits .or .u64 (leN (b.take i):Nat) (ishl .u64 (IntKind.u64.wrap (b[i].toNat:Int)) (IntKind.i64.wrap (8*(i:Int)))))=PV.int _ _
   rw [w64 (by omega) (by omega),List.take_succ_eq_append_getElem hi']
   have hl:(b.take i).length=i:=by rw [List.length_take];omega
   have:=le_step (b.take i) b[i] (by omega)
   rw [hl] at this
   rw [this]
 ·have h:¬(i:Int)<b.length:=h
  have e:b.take i=b:=List.take_of_length_le (by omega)
  rw [e]
  conv=>whnf
  exact ⟨rfl,rfl⟩
def S4.takes (s:S4) (m:Int):S4:={ S4.rnds 2 { s with d:=xorW s.d m } with a:=xorW (S4.rnds 2 { s with d:=xorW s.d m }).a m }
def D240:Draw:={ imp:=[8],win:=[] }
theorem c240 (s:S4) (m:Int) (id v:Nat) (H:PH) (hid:H[id]? = some (s.O v)) :
  CK prog 240 [.ptr (some (id,0)),.int .u64 m] H fun r H'=>r=.tup []∧∃v',H'=H.set id ((s.takes m).O v'):=by
 (refine fnS (imm:=imm240) ttW_ok func240 ?_;(conv=>whnf))
 refine dO2 D240 [H,H.set id (S4.O { s with d:=xorW s.d m } (v+1))] (by kernel_rfl) rfl trivial ?_
 have g0:H[id]? = some ⟨330,[.int .u64 s.a,.int .u64 s.b,.int .u64 s.c,.int .u64 s.d],v⟩:=hid
 conv=>whnf
 iterate 3 (refine dS ?_;(conv=>whnf))
 apply Exists.intro
 apply And.intro
 ·conv=>whnf
  ((conv in (_[_]?)=>tactic=>exact g0);(conv=>whnf))
  exact ⟨rfl,rfl,trivial⟩
 conv=>whnf
 iterate 4 (refine dS ?_;(conv=>whnf))
 apply Exists.intro
 apply And.intro
 ·conv=>whnf
  ((conv in (_[_]?)=>tactic=>exact g0);(conv=>whnf))
  exact ⟨rfl,rfl,trivial⟩
 conv=>whnf
 refine cO (Q:=fun r H'=>r=.tup []∧∃v',H'=H.set id ((S4.rnds 2 { s with d:=xorW s.d m }).O v')) ((c241 2 (by omega) { s with d:=xorW s.d m } id (v+1) (H.set id _) (gS hid)).mono fun r H' hh=>?_) ?_
 ·obtain ⟨h1,v',h2⟩:=hh
  exact ⟨h1,v',by rw [h2,List.set_set]⟩
 rintro _ _ ⟨rfl,v',rfl⟩
 conv=>whnf
 generalize hs:S4.rnds 2 { s with d:=xorW s.d m }=z
 refine dO2 D240 [H.set id (z.O v'),H.set id (S4.O { z with a:=xorW z.a m } (v'+1))] (by kernel_rfl) rfl trivial ?_
 conv=>whnf
 iterate 3 (refine dS ?_;(conv=>whnf))
 apply Exists.intro
 apply And.intro
 ·conv=>whnf
  ((conv in (_[_]?)=>tactic=>exact (z.look v' hid));(conv=>whnf))
  exact ⟨rfl,rfl,trivial⟩
 conv=>whnf
 iterate 4 (refine dS ?_;(conv=>whnf))
 apply Exists.intro
 apply And.intro
 ·conv=>whnf
  ((conv in (_[_]?)=>tactic=>exact (z.look v' hid));(conv=>whnf))
  exact ⟨rfl,List.set_set ..,trivial⟩
 conv=>whnf
 refine ⟨rfl,v'+1,?_⟩
 subst hs
 rfl
def sipN (s:S4) (p:List UInt8):Nat→S4
 | 0=>s
 | n+1=>(sipN s p n).takes (leN ((p.drop (8*n)).take 8):Nat)
def sipI (k:List UInt8):S4:=⟨xorW 8317987319222330741 (leN (k.take 8):Nat),xorW 7237128888997146477 (leN (k.drop 8):Nat),xorW 7816392313619706465 (leN (k.take 8):Nat),xorW 8387220255154660723 (leN (k.drop 8):Nat)⟩
def lastW (n:Int):Int:=ishl .u64 (IntKind.u64.wrap (IntKind.u8.wrap n)) 56
def S4.fin (s:S4):S4:=S4.rnds 4 { s with c:=xorW s.c 255 }
def S4.out (s:S4):Int:=xorW (xorW (xorW s.a s.b) s.c) s.d
def sipV (k p:List UInt8):Int:=(((sipN (sipI k) p (p.length / 8)).takes (ibits .or .u64 (lastW p.length) (leN (p.drop (8*(p.length / 8))):Nat))).fin).out
theorem Rep.ext {H H':PH} (e:Ext H H') {c:PV} {b:List UInt8} (h:Rep H c b):Rep H' c b:=by
 rcases h with h | ⟨id,off,cap,o,h1,h2,h3⟩
 ·exact .inl h
 ·exact .inr ⟨id,off,cap,o,h1,e.get h2,h3⟩
theorem Reps.ext {H H':PH} (e:Ext H H') {cs:List PV} {ls:List (List UInt8)} (h:Reps H cs ls):Reps H' cs ls:=⟨h.1,fun i c b hc hb=>(h.2 i c b hc hb).ext e⟩
theorem len16 {k:List UInt8} (h:k.length=16):∃k0 k1 k2 k3 k4 k5 k6 k7 k8 k9 ka kb kc kd ke kf,k=[k0,k1,k2,k3,k4,k5,k6,k7,k8,k9,ka,kb,kc,kd,ke,kf]:=by
 match k,h with
 | [k0,k1,k2,k3,k4,k5,k6,k7,k8,k9,ka,kb,kc,kd,ke,kf],_=>exact ⟨_,_,_,_,_,_,_,_,_,_,_,_,_,_,_,_,rfl⟩
theorem sl_cut2 (b:List UInt8) (l h:Int) (h0:0≤l∧l≤h∧h≤b.length) :
  PV.slice (h.toNat - l.toNat) (((b.map bC).take (h.toNat*1)).drop (l.toNat*1)) none=sl ((b.take h.toNat).drop l.toNat):=by
 unfold sl
 have:((b.take h.toNat).drop l.toNat).length=h.toNat - l.toNat:=by rw [List.length_drop,List.length_take];omega
 rw [this,List.map_drop,List.map_take,Nat.mul_one,Nat.mul_one]
structure SipS where
 i:Nat
 v:Nat
def D216_9:Draw:={ imp:=[7],win:=[] }
theorem c216x (k:List UInt8) (hk:k.length=16) (ls:List (List UInt8)) (hn:ls.length≤1099511627776) (ht:ls.flatten.length≤1099511627776) (H:PH) (cs:List PV) (hr:Reps H cs ls) :
  CK prog 216 [.agg (k.map bC),.slice ls.length cs none] H fun r H'=>r=.int .u64 (sipV k ls.flatten)∧∃ext,H'=H++ext:=by
 obtain ⟨k0,k1,k2,k3,k4,k5,k6,k7,k8,k9,ka,kb,kc,kd,ke,kf,rfl⟩:=len16 hk
 have hk2:sipI [k0,k1,k2,k3,k4,k5,k6,k7,k8,k9,ka,kb,kc,kd,ke,kf]=⟨xorW 8317987319222330741 (leN [k0,k1,k2,k3,k4,k5,k6,k7]:Nat),xorW 7237128888997146477 (leN [k8,k9,ka,kb,kc,kd,ke,kf]:Nat),xorW 7816392313619706465 (leN [k0,k1,k2,k3,k4,k5,k6,k7]:Nat),xorW 8387220255154660723 (leN [k8,k9,ka,kb,kc,kd,ke,kf]:Nat)⟩:=rfl
 unfold sipV
 generalize hs0:sipI [k0,k1,k2,k3,k4,k5,k6,k7,k8,k9,ka,kb,kc,kd,ke,kf]=s0
 rw [hk2] at hs0
 (refine fnS (imm:=imm216) ttW_ok func216 ?_;(conv=>whnf))
 refine dP2 (by kernel_rfl) ?_
 conv=>whnf
 (refine dS ?_;(conv=>whnf))
 refine ⟨_,cA rfl (cP (c239 [k0,k1,k2,k3,k4,k5,k6,k7] (by simp)) ⟨rfl,rfl,trivial⟩),?_⟩
 conv=>whnf
 (refine dS ?_;(conv=>whnf))
 refine ⟨_,cA rfl (cP (c239 [k8,k9,ka,kb,kc,kd,ke,kf] (by simp)) ⟨rfl,rfl,trivial⟩),?_⟩
 conv=>whnf
 iterate 2 (refine dS ?_;(conv=>whnf))
 refine cO (c236 ls hn ht (hr.ext ((Ext.refl H).push _))) ?_
 rintro _ _ ⟨rfl,rfl⟩
 conv=>whnf
 generalize hp:ls.flatten=p at ht ⊢
 have hO:(PObj.mk 330 [.int .u64 (ibits .xor .u64 8317987319222330741 (leN [k0,k1,k2,k3,k4,k5,k6,k7]:Nat)),.int .u64 (ibits .xor .u64 7237128888997146477 (leN [k8,k9,ka,kb,kc,kd,ke,kf]:Nat)),.int .u64 (ibits .xor .u64 7816392313619706465 (leN [k0,k1,k2,k3,k4,k5,k6,k7]:Nat)),.int .u64 (ibits .xor .u64 8387220255154660723 (leN [k8,k9,ka,kb,kc,kd,ke,kf]:Nat))] 0)=s0.O 0:=by subst hs0;rfl
 refine ⟨by decide,?_⟩
 conv=>whnf
 refine lO SipS (fun x=>[(7,.ptr (some (H.length,0))),(8,sl (p.drop (8*x.i))),(9,.int .u64 (lastW p.length))]) (fun x=>H++[(sipN s0 p x.i).O x.v]) (fun x=>x.i≤p.length / 8) (fun x=>p.length / 8 - x.i) ⟨⟨0,0⟩,Nat.zero_le _,⟨rfl,rfl,rfl,trivial⟩,congrArg (fun o=>H++[o]) hO⟩ ?_
 rintro ⟨i,v⟩ hi
 replace hi:i≤p.length / 8:=hi
 have hl:(p.drop (8*i)).length=p.length - 8*i:=List.length_drop
 conv=>whnf
 refine ⟨fun h=>?_,fun h=>?_⟩
 ·have h:(8:Int)≤(p.drop (8*i)).length:=h
  conv=>whnf
  refine ⟨⟨by omega,by omega,h⟩,?_⟩
  conv=>whnf
  refine cA (congrArg (fun x=>[x]) (sl_cut2 (p.drop (8*i)) 0 8 ⟨by omega,by omega,h⟩)) (cP (c239 (((p.drop (8*i)).take 8).drop 0) (by rw [List.length_drop,List.length_take];omega)) ?_)
  conv=>whnf
  refine cO (Q:=fun r H'=>r=.tup []∧∃v',H'=H++[(sipN s0 p (i+1)).O v']) ((c240 (sipN s0 p i) (leN (((p.drop (8*i)).take 8).drop 0):Nat) H.length v _ (gL H _)).mono fun r H' hh=>?_) ?_
  ·obtain ⟨h1,v',h2⟩:=hh
   exact ⟨h1,v',by rw [h2,sL];rfl⟩
  rintro _ _ ⟨rfl,v',rfl⟩
  conv=>whnf
  refine ⟨⟨by omega,h,by omega⟩,?_⟩
  conv=>whnf
  refine ⟨⟨i+1,v'⟩,by show i+1≤p.length / 8;omega,⟨rfl,?_,rfl,trivial⟩,rfl,by show p.length / 8 - (i+1)<p.length / 8 - i;omega⟩
  have e:=sl_cut2 (p.drop (8*i)) 8 (p.drop (8*i)).length ⟨by omega,h,by omega⟩
  rw [Int.toNat_natCast,List.take_length,List.drop_drop] at e
  exact e
 ·have h:¬(8:Int)≤(p.drop (8*i)).length:=h
  have hi2:i=p.length / 8:=by omega
  rw [←hi2]
  conv=>whnf
  refine cP (c239 (p.drop (8*i)) (by omega)) ?_
  conv=>whnf
  generalize hm:ibits .or .u64 (lastW p.length) (leN (p.drop (8*i)):Nat)=m
  generalize hs1:sipN s0 p i=s1
  refine cO (Q:=fun r H'=>r=.tup []∧∃v',H'=H++[(s1.takes m).O v']) ?_ ?_
  ·refine (c240 s1 m H.length v _ (gL H _)).mono fun r H' hh=>?_
   obtain ⟨h1,v',h2⟩:=hh
   exact ⟨h1,v',by rw [h2,sL]⟩
  rintro _ _ ⟨rfl,v1,rfl⟩
  conv=>whnf
  generalize hs2:s1.takes m=s2
  refine dO2 D216_9 [H++[s2.O v1],H++[S4.O { s2 with c:=xorW s2.c 255 } (v1+1)]] (by kernel_rfl) rfl trivial ?_
  have g0:(H++[s2.O v1])[H.length]? = some ⟨330,[.int .u64 s2.a,.int .u64 s2.b,.int .u64 s2.c,.int .u64 s2.d],v1⟩:=gL H _
  conv=>whnf
  iterate 3 (refine dS ?_;(conv=>whnf))
  apply Exists.intro
  apply And.intro
  ·conv=>whnf
   ((conv in (_[_]?)=>tactic=>exact g0);(conv=>whnf))
   exact ⟨rfl,rfl,trivial⟩
  conv=>whnf
  iterate 3 (refine dS ?_;(conv=>whnf))
  apply Exists.intro
  apply And.intro
  ·conv=>whnf
   ((conv in (_[_]?)=>tactic=>exact g0);(conv=>whnf))
   exact ⟨rfl,sL H _ _,trivial⟩
  conv=>whnf
  refine cO (Q:=fun r H'=>r=.tup []∧∃v',H'=H++[s2.fin.O v']) ((c241 4 (by omega) { s2 with c:=xorW s2.c 255 } H.length (v1+1) (H++[_]) (gL H _)).mono fun r H' hh=>?_) ?_
  ·obtain ⟨h1,v',h2⟩:=hh
   exact ⟨h1,v',by rw [h2,sL];rfl⟩
  rintro _ _ ⟨rfl,v2,rfl⟩
  conv=>whnf
  generalize hs3:s2.fin=s3
  have g1:(H++[s3.O v2])[H.length]? = some ⟨330,[.int .u64 s3.a,.int .u64 s3.b,.int .u64 s3.c,.int .u64 s3.d],v2⟩:=gL H _
  refine dP2 (by kernel_rfl) ?_
  conv=>whnf
  iterate 3 (refine dS ?_;(conv=>whnf))
  apply Exists.intro
  apply And.intro
  ·conv=>whnf
   ((conv in (_[_]?)=>tactic=>exact g1);(conv=>whnf))
   exact ⟨rfl,rfl,trivial⟩
  conv=>whnf
  iterate 3 (refine dS ?_;(conv=>whnf))
  apply Exists.intro
  apply And.intro
  ·conv=>whnf
   ((conv in (_[_]?)=>tactic=>exact g1);(conv=>whnf))
   exact ⟨rfl,rfl,trivial⟩
  conv=>whnf
  iterate 4 (refine dS ?_;(conv=>whnf))
  apply Exists.intro
  apply And.intro
  ·conv=>whnf
   ((conv in (_[_]?)=>tactic=>exact g1);(conv=>whnf))
   exact ⟨rfl,rfl,trivial⟩
  conv=>whnf
  iterate 4 (refine dS ?_;(conv=>whnf))
  apply Exists.intro
  apply And.intro
  ·conv=>whnf
   ((conv in (_[_]?)=>tactic=>exact g1);(conv=>whnf))
   exact ⟨rfl,rfl,trivial⟩
  conv=>whnf
  iterate 2 (refine dS ?_;(conv=>whnf))
  exact ⟨rfl,_,rfl⟩
theorem c216 (k:List UInt8) (hk:k.length=16) (ls:List (List UInt8)) (hn:ls.length≤1099511627776) (ht:ls.flatten.length≤1099511627776) {H:PH} {cs:List PV} (hr:Reps H cs ls) :
  CK prog 216 [.agg (k.map bC),.slice ls.length cs none] H fun r H'=>r=.int .u64 (sipV k ls.flatten)∧H'=H:=by
 exact ((c216x k hk ls hn ht H cs hr).gc fun r H' ⟨h1,h2⟩=>by subst h1;exact ⟨rfl,h2⟩).mono fun r H' ⟨h1,_,h2,_⟩=>⟨h2,h1⟩
def ttS:TT:=[(2,⟨.int .i64,1,8,[.int .i64 0]⟩),(3,⟨.int .i64,1,8,[.int .i64 0]⟩),(4,⟨.bool,1,1,[.bool false]⟩),(5,⟨.int .u8,1,1,[.int .u8 0]⟩),(22,⟨.slice 5,1,24,[.slice 0 [] (some 5)]⟩),(157,⟨.ptr,1,8,[.ptr none]⟩),(213,⟨.ptr,1,8,[.ptr none]⟩),(215,⟨.arr 16 5,16,16,List.replicate 16 (.int .u8 0)⟩),(120,⟨.strB [(117,0),(118,0),(2,0)],1,8,[.int .i64 0]⟩),(217,⟨.strct [(213,0),(215,1),(120,17),(120,18),(120,19)],20,48,[.ptr none]++List.replicate 16 (.int .u8 0)++[.int .i64 0,.int .i64 0,.int .i64 0]⟩),(173,⟨.int .u64,1,8,[.int .u64 0]⟩),(210,⟨.slice 22,1,24,[.slice 0 [] (some 22)]⟩),(187,⟨.ptr,1,8,[.ptr none]⟩),(230,⟨.int .u32,1,4,[.int .u32 0]⟩),(269,⟨.slice 230,1,24,[.slice 0 [] (some 230)]⟩)]
theorem ttS_ok:ttOk prog ttS=true:=by kernel_rfl
def imm171:List Nat:=[]
def imm218:List Nat:=[]
def imm217y:List Nat:=[]
def isUseB (u:Int):Bool:=decide (0≤u)&&decide (u≤255)
def byteI (x:Int):UInt8:=UInt8.ofNat (x % 256).toNat
theorem byteC_I (x:Int):PV.int .u8 (IntKind.u8.wrap x)=bC (byteI x):=by
 show PV.int .u8 (x % (2 ^ IntKind.u8.bits:Int))=PV.int .u8 (((byteI x).toNat:Nat):Int)
 have:(2 ^ IntKind.u8.bits:Int)=256:=by decide
 rw [this]
 unfold byteI
 rw [UInt8.toNat_ofNat']
 congr 1
 omega
def bigV (n:Int):List UInt8:=[byteI (ishr .u64 n 56),byteI (ishr .u64 n 48),byteI (ishr .u64 n 40),byteI (ishr .u64 n 32),byteI (ishr .u64 n 24),byteI (ishr .u64 n 16),byteI (ishr .u64 n 8),byteI (ishr .u64 n 0)]
def beN (l:List UInt8):Nat:=l.foldl (fun n c=>n*256+c.toNat) 0
theorem beN_snoc (l:List UInt8) (c:UInt8):beN (l++[c])=beN l*256+c.toNat:=by simp [beN]
theorem beN_lt (l:List UInt8):∀{n:Nat},l.length=n→beN l<256 ^ n:=by
 intro n
 induction n generalizing l with
 | zero=>intro h;rw [List.length_eq_zero_iff.1 h];decide
 | succ n ih =>
  intro h
  have hne:l≠[]:=by rintro rfl;simp at h
  have hd:=List.dropLast_concat_getLast hne
  rw [←hd,beN_snoc,Nat.pow_succ]
  have:=ih l.dropLast (by simp [h])
  have:=(l.getLast hne).toNat_lt
  omega
theorem dropN_app (cs:List UInt8) (rest:List PV) {i:Nat} {x:UInt8} (h:cs[i]? = some x):dropN (0+(i:Int).toNat*1) (cs.map bC++rest)=bC x::((cs.drop (i+1)).map bC++rest):=by
 have hl:=(List.getElem?_eq_some_iff.1 h).1
 rw [dropN_eq]
 simp only [Nat.zero_add,Int.toNat_natCast,Nat.mul_one]
 rw [List.drop_append_of_le_length (by rw [List.length_map];omega),←List.map_drop,List.drop_eq_getElem_cons hl,List.map_cons,List.cons_append]
 congr 2
 exact (List.getElem?_eq_some_iff.1 h).2
theorem setCells_app (cs:List UInt8) (rest:List PV) (i:Nat) (x:UInt8) (h:i<cs.length):setCells i [bC x] (cs.map bC++rest)=(cs.set i x).map bC++rest:=by
 induction cs generalizing i with
 | nil=>simp at h
 | cons y cs ih =>
  cases i with
  | zero=>simp [setCells]
  | succ i =>
   have:=ih i (by simpa using h)
   simp [setCells,this]
def D238:Draw:={ imp:=[13,15],win:=[(2,0,1),(3,0,1),(14,1,1),(15,1,1)] }
structure RevB where
 i:Nat
 cur:List UInt8
 v:Nat
theorem c238 (id n cap:Nat) (l:List UInt8) (rest:List PV) (T v:Nat) (H:PH) (hid:H[id]? = some ⟨T,l.map bC++rest,v⟩) (hn:n=l.length) (hs:l.length≤1099511627776) :
  CK prog 238 [.sref id 0 n cap] H fun r H'=>r=.tup []∧∃v',H'=H.set id ⟨T,l.reverse.map bC++rest,v'⟩:=by
 subst hn
 (refine fnS (imm:=imm238) ttB_ok func238 ?_;(conv=>whnf))
 refine lO RevB (fun x=>[(0,.sref id 0 l.length cap),(2,.int .i64 x.i),(3,.int .i64 ((l.length:Int) - 1 - x.i))]) (fun x=>H.set id ⟨T,x.cur.map bC++rest,x.v⟩)
  (fun x=>x.i≤l.length∧x.cur.length=l.length∧∀k,k<l.length→x.cur[k]? = if k<x.i∨l.length - x.i≤k then l[l.length - 1 - k]? else l[k]?) (fun x=>l.length - x.i)
  ⟨⟨0,l,v⟩,⟨Nat.zero_le _,rfl,fun k hk=>by rw [if_neg (by show ¬(k<0∨l.length - 0≤k);omega)]⟩,⟨rfl,rfl,?_,trivial⟩,(set_self hid).symm⟩ ?_
 ·show PV.int _ (IntKind.i64.wrap ((l.length:Int) - 1))=PV.int _ ((l.length:Int) - 1 - 0)
  rw [w64 (by omega) (by omega)];simp
 rintro ⟨i,cur,v⟩ ⟨h1,h2,h3⟩
 conv=>whnf
 refine ⟨fun h4=>?_,fun h4=>?_⟩
 ·conv=>whnf
  have h4:(i:Int)<(l.length:Int) - 1 - i:=h4
  have h2:cur.length=l.length:=h2
  have hi:i<cur.length:=by omega
  have hj:cur.length - 1 - i<cur.length:=by omega
  refine dO2 D238 [H.set id ⟨T,cur.map bC++rest,v⟩,H.set id ⟨T,(cur.set i cur[cur.length - 1 - i]).map bC++rest,v+1⟩,H.set id ⟨T,((cur.set i cur[cur.length - 1 - i]).set (cur.length - 1 - i) cur[i]).map bC++rest,v+1+1⟩] (by kernel_rfl) rfl trivial ?_
  have g0:=gS (o':=⟨T,cur.map bC++rest,v⟩) hid
  have hlen:H.length=H.length:=rfl
  conv=>whnf
  iterate 2 (refine dS ?_;(conv=>whnf))
  iterate 2 (refine dS2 ?_;(conv=>whnf))
  iterate 2 (refine dS ?_;(conv=>whnf))
  apply Exists.intro
  apply And.intro
  ·conv=>whnf
   refine ⟨⟨by omega,by omega⟩,rfl,rfl,trivial⟩
  conv=>whnf
  apply Exists.intro
  apply And.intro
  ·conv=>whnf
   ((conv in (_[_]?)=>tactic=>exact g0);(conv=>whnf))
   have e:((l.length:Int) - 1 - i).toNat=cur.length - 1 - i:=by omega
   have hL:dropN (0+((l.length:Int) - 1 - i).toNat*1) (cur.map bC++rest)=bC cur[cur.length - 1 - i]::((cur.drop (cur.length - 1 - i+1)).map bC++rest):=by rw [e];exact dropN_app cur rest (List.getElem?_eq_getElem hj)
   generalize hd:dropN _ _=L
   rw [show L=_ from hd.symm.trans hL]
   conv=>whnf
   exact ⟨rfl,rfl,trivial⟩
  conv=>whnf
  iterate 2 (refine dS ?_;(conv=>whnf))
  apply Exists.intro
  apply And.intro
  ·conv=>whnf
   refine ⟨⟨by show (0:Int)≤(i:Int);omega,by show (i:Int)<l.length;omega⟩,rfl,rfl,trivial⟩
  conv=>whnf
  apply Exists.intro
  apply And.intro
  ·conv=>whnf
   ((conv in (_[_]?)=>tactic=>exact g0);(conv=>whnf))
   ((conv in (dropN _ _)=>tactic=>exact (dropN_app cur rest (List.getElem?_eq_getElem hi)));(conv=>whnf))
   exact ⟨rfl,rfl,trivial⟩
  conv=>whnf
  apply Exists.intro
  apply And.intro
  ·conv=>whnf
   refine ⟨⟨by show (0:Int)≤(i:Int);omega,by show (i:Int)<l.length;omega⟩,rfl,rfl,trivial⟩
  conv=>whnf
  apply Exists.intro
  apply And.intro
  ·conv=>whnf
   ((conv in (_[_]?)=>tactic=>exact g0);(conv=>whnf))
   ((conv in (Nat.ble _ _)=>tactic=>exact (show Nat.ble (0+(i:Int).toNat*1+1) (cur.map bC++rest).length=true by rw [Nat.ble_eq];simp;omega));(conv=>whnf))
   refine ⟨rfl,?_,trivial⟩
   show (H.set id ⟨T,cur.map bC++rest,v⟩).set id ⟨T,setCells (0+(i:Int).toNat*1) [bC cur[cur.length - 1 - i]] (cur.map bC++rest),v+1⟩=H.set id ⟨T,(cur.set i cur[cur.length - 1 - i]).map bC++rest,v+1⟩
   rw [List.set_set,←setCells_app _ _ _ _ hi]
   simp
  conv=>whnf
  apply Exists.intro
  apply And.intro
  ·conv=>whnf
   refine ⟨⟨by omega,by omega⟩,rfl,rfl,trivial⟩
  conv=>whnf
  apply Exists.intro
  apply And.intro
  ·conv=>whnf
   ((conv in (_[_]?)=>tactic=>exact (gS (o':=⟨T,(cur.set i cur[cur.length - 1 - i]).map bC++rest,v+1⟩) hid));(conv=>whnf))
   ((conv in (Nat.ble _ _)=>tactic=>exact (show Nat.ble (0+((l.length:Int) - 1 - i).toNat*1+1) ((cur.set i cur[cur.length - 1 - i]).map bC++rest).length=true by rw [Nat.ble_eq];simp;omega));(conv=>whnf))
   refine ⟨rfl,?_,trivial⟩
   show (H.set id ⟨T,(cur.set i cur[cur.length - 1 - i]).map bC++rest,v+1⟩).set id ⟨T,setCells (0+((l.length:Int) - 1 - i).toNat*1) [bC cur[i]] ((cur.set i cur[cur.length - 1 - i]).map bC++rest),v+1+1⟩=H.set id _
   have e:0+((l.length:Int) - 1 - i).toNat*1=cur.length - 1 - i:=by omega
   rw [List.set_set,e,setCells_app (cur.set i cur[cur.length - 1 - i]) rest (cur.length - 1 - i) cur[i] (by simpa using hj)]
  conv=>whnf
  refine ⟨⟨i+1,(cur.set i cur[cur.length - 1 - i]).set (cur.length - 1 - i) cur[i],v+1+1⟩,⟨?_,?_,?_⟩,⟨rfl,?_,?_,trivial⟩,rfl,?_⟩
  ·show i+1≤l.length;omega
  ·show List.length _=_;simp;exact h2
  ·intro k hk
   show ((cur.set i _).set _ _)[k]? = if k<i+1∨l.length - (i+1)≤k then _ else _
   have h3k:=h3 k hk
   have h3k:cur[k]? = if k<i∨l.length - i≤k then l[l.length - 1 - k]? else l[k]?:=h3k
   have h3i:cur[i]? = if i<i∨l.length - i≤i then l[l.length - 1 - i]? else l[i]?:=h3 i (by omega)
   have h3j:cur[cur.length - 1 - i]? = if cur.length - 1 - i<i∨l.length - i≤cur.length - 1 - i then l[l.length - 1 - (cur.length - 1 - i)]? else l[cur.length - 1 - i]?:=h3 _ (by omega)
   rw [if_neg (by omega),List.getElem?_eq_getElem hi] at h3i
   rw [if_neg (by omega),List.getElem?_eq_getElem hj] at h3j
   simp only [List.getElem?_set]
   by_cases e1:cur.length - 1 - i=k
   ·subst e1
    rw [if_pos rfl,if_pos (by simpa using hj),if_pos (by omega),h3i]
    congr 1;omega
   ·rw [if_neg e1]
    by_cases e2:i=k
    ·subst e2
     rw [if_pos rfl,if_pos hi,if_pos (by omega),h3j]
     congr 1;omega
    ·rw [if_neg e2,h3k]
     by_cases e3:k<i∨l.length - i≤k
     ·rw [if_pos e3,if_pos (by omega)]
     ·rw [if_neg e3,if_neg (by omega)]
  ·show PV.int _ (IntKind.i64.wrap ((i:Int)+1))=PV.int _ _
   rw [w64 (by omega) (by omega)];simp
  ·show PV.int _ (IntKind.i64.wrap ((l.length:Int) - 1 - i - 1))=PV.int _ ((l.length:Int) - 1 - ((i+1:Nat):Int))
   rw [w64 (by omega) (by omega)];congr 1;omega
  ·show l.length - (i+1)<l.length - i
   omega
 ·conv=>whnf
  have h2:cur.length=l.length:=h2
  have h4:¬(i:Int)<(l.length:Int) - 1 - i:=h4
  have h1:i≤l.length:=h1
  refine ⟨rfl,v,?_⟩
  have hc:cur=l.reverse:=by
   apply List.ext_getElem?
   intro k
   rcases Nat.lt_or_ge k l.length with hk | hk
   ·have h3k:cur[k]? = if k<i∨l.length - i≤k then l[l.length - 1 - k]? else l[k]?:=h3 k hk
    rw [h3k,List.getElem?_reverse hk]
    by_cases e3:k<i∨l.length - i≤k
    ·rw [if_pos e3]
    ·rw [if_neg e3];congr 1;omega
   ·rw [List.getElem?_eq_none (by omega),List.getElem?_eq_none (by simpa using hk)]
  show H.set id ⟨T,cur.map bC++rest,v⟩=_
  rw [hc]
def ow (b:List UInt8):PV:=.slice b.length (b.map bC) (some 5)
theorem psize5:psize prog 5=1:=by kernel_rfl
theorem allFlat (b:List UInt8):(b.map bC).all flatP=true:=List.all_eq_true.2 fun x hx=>by
 obtain ⟨b,_,rfl⟩:=List.mem_map.1 hx
 rfl
theorem clone140 (b:List UInt8) (hb:b.length≤140737488355328):Pure prog 217 [sl b] (ow b):=by
 intro H
 (refine fnS (imm:=imm217y) ttS_ok func217 ?_;(conv=>whnf))
 have happ:(0+b.length)*1≤140737488355328∧(b.map bC).length=b.length*1∧(b.map bC).all oneP=true:=⟨by omega,by simp,allOne b⟩
 refine ⟨fun h=>?_,fun h=>⟨?_,?_⟩⟩
 ·conv=>whnf
  refine ⟨happ,?_⟩
  conv=>whnf
  exact ⟨by rw [Nat.zero_add];rfl,rfl⟩
 ·conv=>whnf
  have e:b=[]:=List.length_eq_zero_iff.1 h
  subst e
  exact ⟨rfl,rfl⟩
 ·conv=>whnf
  refine ⟨happ,?_⟩
  conv=>whnf
  exact ⟨by rw [Nat.zero_add];rfl,rfl⟩
theorem c217o (b:List UInt8) (hb:b.length≤140737488355328) (h0:0<b.length) (H:PH) :
  CK prog 217 [sl b] H fun r H'=>∃cap k,r=.sref H.length 0 b.length cap∧b.length+k=cap∧H'=H++[⟨5,b.map bC++List.replicate k PV.undef,0⟩]:=by
 refine (CK.obj (n:=b.length) (cs:=b.map bC) (clone140 b hb H) h0 psize5 (allFlat b)).mono fun r H' hh=>?_
 obtain ⟨cap,k,h1,h2,h3,h4⟩:=hh
 rw [List.length_map] at h2
 exact ⟨cap,k,h3,by omega,h4⟩
def boxS (sid:Nat) (sp:List UInt8) (s o r:Int) (v:Nat):PObj:=⟨217,[.ptr (some (sid,0))]++sp.map bC++[.int .i64 s,.int .i64 o,.int .i64 r],v⟩
def tagV (sp:List UInt8) (u:Int) (ahead:List UInt8):List UInt8:=bigV (sipV sp (byteI u::ahead))
theorem bigV_len (n:Int):(bigV n).length=8:=rfl
def xorL (p st:List UInt8):List UInt8:=List.zipWith (· ^^^ ·) p st
theorem xorL_len (p st:List UInt8) (h:st.length=p.length):(xorL p st).length=p.length:=by
 unfold xorL;rw [List.length_zipWith];omega
theorem xor8 (c d:UInt8):PV.int .u8 (ibits .xor .u8 (c.toNat:Int) (d.toNat:Int))=bC (c ^^^ d):=by
 show PV.int .u8 (IntKind.u8.wrap ((BitVec.ofInt 8 (c.toNat:Int) ^^^ BitVec.ofInt 8 (d.toNat:Int)).toNat:Int))=PV.int .u8 (((c ^^^ d).toNat:Nat):Int)
 have hb:∀{x:UInt8},BitVec.ofInt 8 (x.toNat:Int)=x.toBitVec:=fun {x}=>by
  apply BitVec.eq_of_toNat_eq
  rw [BitVec.toNat_ofInt]
  have:=x.toNat_lt
  show _=x.toNat
  omega
 rw [hb,hb]
 have:((c.toBitVec ^^^ d.toBitVec).toNat)=(c ^^^ d).toNat:=rfl
 rw [this]
 congr 1
 have:=(c ^^^ d).toNat_lt
 show (((c ^^^ d).toNat:Nat):Int) % (2 ^ IntKind.u8.bits:Int)=_
 have e:(2 ^ IntKind.u8.bits:Int)=256:=by decide
 rw [e];omega
def curX (p st:List UInt8) (i:Nat):List UInt8:=(xorL p st).take i++p.drop i
theorem curX_len (p st:List UInt8) (i:Nat) (h:st.length=p.length) (hi:i≤p.length):(curX p st i).length=p.length:=by
 unfold curX
 rw [List.length_append,List.length_take,List.length_drop,xorL_len p st h];omega
theorem curX_get (p st:List UInt8) (i:Nat) (h:st.length=p.length) (hi:i<p.length):(curX p st i)[i]? = some p[i]:=by
 unfold curX
 rw [List.getElem?_append_right (by rw [List.length_take,xorL_len p st h];omega),List.length_take,xorL_len p st h,List.getElem?_drop]
 have:i+(i - min i p.length)=i:=by omega
 rw [this];exact List.getElem?_eq_getElem hi
theorem curX_set (p st:List UInt8) (i:Nat) (h:st.length=p.length) (hi:i<p.length):(curX p st i).set i (p[i] ^^^ st[i])=curX p st (i+1):=by
 unfold curX
 have hx:i<(xorL p st).length:=by rw [xorL_len p st h];exact hi
 rw [List.set_append_right _ _ (by rw [List.length_take];omega),List.length_take,Nat.min_eq_left (by omega),Nat.sub_self,List.drop_eq_getElem_cons hi,List.set_cons_zero,List.take_succ_eq_append_getElem hx,List.append_assoc,List.singleton_append]
 congr 2
 have:∀(a b:List UInt8) (h:i<(List.zipWith (· ^^^ ·) a b).length) (ha:i<a.length) (hb:i<b.length),a[i] ^^^ b[i]=(List.zipWith (· ^^^ ·) a b)[i]:=fun a b h ha hb=>by simp
 exact this p st hx hi (by omega)
def mixN (nn u:Int):Int:=IntKind.u64.wrap (ishl .u64 nn 8+IntKind.u64.wrap u)
structure MixS where
 i:Nat
theorem c171x (OkS:PObj→Prop) (so:PObj) (sid:Nat) (nn u:Int) (p st:List UInt8) (hl:st.length=p.length) (hp:0<p.length) (hp2:p.length≤1000000)
  (hst:∀H:PH,H[sid]? = some so→CK prog 218 [.ptr (some (sid,0)),.int .u64 (mixN nn u),.int .i64 p.length] H fun r H'=>r=sl st∧∃o',OkS o'∧H'=H.set sid o')
  (sp:List UInt8) (hsp:sp.length=16) (s o r:Int) (v:Nat) (bid:Nat) (H:PH) (hb:H[bid]? = some (boxS sid sp s o r v)) (hs:H[sid]? = some so) :
  CK prog 171 [.ptr (some (bid,0)),.int .i64 u,.int .u64 nn,sl p] H fun x H'=>∃cap k o' vv,x=.sref H.length 0 p.length cap∧p.length+k=cap∧OkS o'∧H'=H.set sid o'++[⟨5,(xorL p st).map bC++List.replicate k PV.undef,vv⟩]:=by
 obtain ⟨k0,k1,k2,k3,k4,k5,k6,k7,k8,k9,ka,kb,kc,kd,ke,kf,rfl⟩:=len16 hsp
 have hsl:sid<H.length:=(List.getElem?_eq_some_iff.1 hs).1
 (refine fnS (imm:=imm171) ttS_ok func171 ?_;(conv=>whnf))
 refine cO (c217o p (by omega) hp H) ?_
 rintro _ _ ⟨cap,k,rfl,hk,rfl⟩
 conv=>whnf
 have hb':(H++[(⟨5,p.map bC++List.replicate k PV.undef,0⟩:PObj)])[bid]? = some (boxS sid [k0,k1,k2,k3,k4,k5,k6,k7,k8,k9,ka,kb,kc,kd,ke,kf] s o r v):=by
  rw [List.getElem?_append_left (List.getElem?_eq_some_iff.1 hb).1];exact hb
 ((conv in (_[_]?)=>tactic=>exact hb');(conv=>whnf))
 refine ⟨by decide,?_⟩
 conv=>whnf
 refine cO (Q:=fun r H'=>r=sl st∧∃o',OkS o'∧H'=H.set sid o'++[⟨5,(curX p st 0).map bC++List.replicate k PV.undef,0⟩]) ((hst (H++[_]) (by rw [List.getElem?_append_left hsl];exact hs)).mono fun r H' hh=>?_) ?_
 ·obtain ⟨h1,o',h2,h3⟩:=hh
  exact ⟨h1,o',h2,by rw [h3,List.set_append_left _ _ hsl];rfl⟩
 rintro _ _ ⟨rfl,o',ho',rfl⟩
 conv=>whnf
 have hKl:(H.set sid o').length=H.length:=List.length_set
 generalize hK:H.set sid o'=K at hKl
 refine lO MixS (fun x=>[(9,.sref H.length 0 p.length cap),(25,sl st),(26,.int .i64 st.length),(27,.int .i64 x.i)]) (fun x=>K++[⟨5,(curX p st x.i).map bC++List.replicate k PV.undef,x.i⟩]) (fun x=>x.i≤p.length) (fun x=>p.length - x.i) ⟨⟨0⟩,Nat.zero_le _,⟨rfl,rfl,rfl,rfl,trivial⟩,rfl⟩ ?_
 rintro ⟨i⟩ hi
 replace hi:i≤p.length:=hi
 have gx:∀x:PObj,(K++[x])[H.length]? = some x:=fun x=>by rw [←hKl];exact gL K x
 conv=>whnf
 refine ⟨fun h=>?_,fun h=>?_⟩
 ·have h:(i:Int)<st.length:=h
  have hi':i<p.length:=by omega
  have his:i<st.length:=by omega
  have hcl:=curX_len p st i hl hi
  conv=>whnf
  refine ⟨⟨by omega,h⟩,[bC st[i]],at1' (k:=(i:Int).toNat*1) (by rw [Int.toNat_natCast,Nat.mul_one,List.getElem?_map,List.getElem?_eq_getElem his];rfl),?_⟩
  conv=>whnf
  refine ⟨⟨by omega,by show (i:Int)<(p.length:Int);omega⟩,?_⟩
  conv=>whnf
  ((conv in (_[_]?)=>tactic=>exact (gx _));(conv=>whnf))
  ((conv in (dropN _ _)=>tactic=>exact (dropN_app (curX p st i) (List.replicate k PV.undef) (curX_get p st i hl hi')));(conv=>whnf))
  refine ⟨⟨by omega,by show (i:Int)<(p.length:Int);omega⟩,?_⟩
  conv=>whnf
  ((conv in (_[_]?)=>tactic=>exact (gx _));(conv=>whnf))
  ((conv in (Nat.ble _ _)=>tactic=>exact (show Nat.ble (0+(i:Int).toNat*1+1) ((curX p st i).map bC++List.replicate k PV.undef).length=true by rw [Nat.ble_eq];simp [hcl];omega));(conv=>whnf))
  refine ⟨⟨i+1⟩,by show i+1≤p.length;omega,⟨rfl,rfl,rfl,?_,trivial⟩,?_,by show p.length - (i+1)<p.length - i;omega⟩
  ·show PV.int _ (IntKind.i64.wrap ((i:Int)+1))=PV.int _ _
   rw [w64 (by omega) (by omega)];simp
  ·show (K++[_]).set H.length ⟨5,setCells (0+(i:Int).toNat*1) [.int .u8 (ibits .xor .u8 (p[i].toNat:Int) (st[i].toNat:Int))] ((curX p st i).map bC++List.replicate k PV.undef),i+1⟩=K++[⟨5,(curX p st (i+1)).map bC++List.replicate k PV.undef,i+1⟩]
   rw [←hKl,sL,xor8]
   have e:0+(i:Int).toNat*1=i:=by omega
   rw [e,setCells_app _ _ _ _ (by omega),curX_set p st i hl hi']
 ·have h:¬(i:Int)<st.length:=h
  have e:curX p st i=xorL p st:=by
   unfold curX
   rw [List.take_of_length_le (by rw [xorL_len p st hl];omega),List.drop_eq_nil_of_le (by omega),List.append_nil]
  rw [e]
  conv=>whnf
  exact ⟨cap,k,o',i,rfl,hk,ho',by rw [hK]⟩
theorem get_end {K:PH} {n:Nat} (h:K.length=n) (x:PObj):(K++[x])[n]? = some x:=by subst h;exact gL K x
theorem kept_set {H:PH} {sid:Nat} {o':PObj} (hs:sid<H.length) (hf:∀c∈o'.cs,flatP c=true∨c∈H[sid].cs):Kept H (H.set sid o'):=⟨List.length_set,fun id o h=>by
 by_cases e:id=sid
 ·subst e
  rw [List.getElem?_set_self hs] at h
  cases h
  exact ⟨H[id],List.getElem?_eq_getElem hs,hf⟩
 ·rw [List.getElem?_set_ne (Ne.symm e)] at h
  exact ⟨o,h,fun c hc=>.inr hc⟩⟩
theorem c171 (OkS:PObj→Prop) (hOk:∀o',OkS o'→o'.cs.all flatP=true) (so:PObj) (sid:Nat) (nn u:Int) (p st:List UInt8) (hl:st.length=p.length) (hp2:p.length≤1000000)
  (hst:∀H:PH,H[sid]? = some so→CK prog 218 [.ptr (some (sid,0)),.int .u64 (mixN nn u),.int .i64 p.length] H fun r H'=>r=sl st∧∃o',OkS o'∧H'=H.set sid o')
  (sp:List UInt8) (hsp:sp.length=16) (s o r:Int) (v:Nat) (bid:Nat) (H:PH) (hb:H[bid]? = some (boxS sid sp s o r v)) (hs:H[sid]? = some so) :
  CK prog 171 [.ptr (some (bid,0)),.int .i64 u,.int .u64 nn,sl p] H fun x H'=>x=sl (xorL p st)∧∃o',OkS o'∧H'=H.set sid o':=by
 have hsl:sid<H.length:=(List.getElem?_eq_some_iff.1 hs).1
 rcases Nat.eq_zero_or_pos p.length with hp | hp
 ·have hp':p=[]:=List.length_eq_zero_iff.1 hp
  have hst':st=[]:=List.length_eq_zero_iff.1 (by omega)
  subst hp' hst'
  obtain ⟨k0,k1,k2,k3,k4,k5,k6,k7,k8,k9,ka,kb,kc,kd,ke,kf,rfl⟩:=len16 hsp
  (refine fnS (imm:=imm171) ttS_ok func171 ?_;(conv=>whnf))
  refine cP (clone140 [] (by simp)) ?_
  conv=>whnf
  ((conv in (_[_]?)=>tactic=>exact hb);(conv=>whnf))
  refine ⟨by decide,?_⟩
  conv=>whnf
  refine cO (hst H hs) ?_
  rintro _ _ ⟨rfl,o',ho',rfl⟩
  conv=>whnf
  refine lO MixS (fun x=>[(9,ow []),(25,sl []),(26,.int .i64 0),(27,.int .i64 0)]) (fun x=>H.set sid o') (fun x=>True) (fun x=>0) ⟨⟨0⟩,trivial,⟨rfl,rfl,rfl,rfl,trivial⟩,rfl⟩ ?_
  rintro ⟨i⟩ _
  conv=>whnf
  refine ⟨fun h=>absurd h (by decide),fun _=>?_⟩
  conv=>whnf
  exact ⟨rfl,o',ho',rfl⟩
 ·have h:=c171x OkS so sid nn u p st hl hp hp2 hst sp hsp s o r v bid H hb hs
  refine (CK.own (nn:=p.length) (cs:=(xorL p st).map bC) (R:=fun H'=>∃o',OkS o'∧H'=H.set sid o') h psize5 (by decide) (by rw [List.length_map,xorL_len p st hl,Nat.mul_one]) (allFlat _) (fun x H' hh=>?_)).dem fun x H' hh=>?_
  ·obtain ⟨cap,k,o',vv,rfl,hk,ho',rfl⟩:=hh
   refine ⟨H.set sid o',_,H.length,cap,_,rfl,kept_set hsl fun c hc=>.inl (List.all_eq_true.1 (hOk o' ho') c hc),⟨o',ho',rfl⟩,rfl,Nat.le_refl _,get_end List.length_set _,rfl,?_,?_⟩
   ·show ((xorL p st).map bC++List.replicate k PV.undef).length=_
    rw [List.length_append,List.length_map,List.length_replicate,xorL_len p st hl];omega
   ·show List.take _ ((xorL p st).map bC++List.replicate k PV.undef)=_
    rw [List.take_left]
  ·obtain ⟨rfl,hh⟩:=hh
   refine ⟨fun cs hx=>(by cases hx),?_,hh⟩
   unfold sl
   rw [xorL_len p st hl];rfl
theorem Kept.refl (H:PH):Kept H H:=⟨rfl,fun id o h=>⟨o,h,fun c hc=>.inr hc⟩⟩
def sealV (sp:List UInt8) (u nn:Int) (p st:List UInt8):List UInt8:=(bigV nn++xorL p st)++tagV sp u (bigV nn++xorL p st)
theorem ow_app (a b:List UInt8):PV.slice (a.length+b.length) (a.map bC++b.map bC) (some 5)=ow (a++b):=by
 unfold ow
 rw [List.length_append,List.map_append]
set_option maxHeartbeats 2000000
def ttO:TT:=[(1,⟨.fn,1,8,[.nilF]⟩),(3,⟨.int .i64,1,8,[.int .i64 0]⟩),(4,⟨.bool,1,1,[.bool false]⟩),(5,⟨.int .u8,1,1,[.int .u8 0]⟩),(21,⟨.int .i32,1,4,[.int .i32 0]⟩),(22,⟨.slice 5,1,24,[.slice 0 [] (some 5)]⟩),(213,⟨.ptr,1,8,[.ptr none]⟩),(215,⟨.arr 16 5,16,16,List.replicate 16 (.int .u8 0)⟩),(173,⟨.int .u64,1,8,[.int .u64 0]⟩),(94,⟨.int .u64,1,8,[.int .u64 0]⟩),(230,⟨.int .u32,1,4,[.int .u32 0]⟩),(231,⟨.arr 27 230,27,108,List.replicate 27 (.int .u32 0)⟩),(254,⟨.strB [(117,0),(230,0)],1,4,[.int .u32 0]⟩),(256,⟨.strct [(21,0),(230,1)],2,8,[.int .i32 0,.int .u32 0]⟩),(258,⟨.strB [(252,0),(256,0)],2,8,[.int .i32 0,.int .u32 0]⟩),(260,⟨.strB [(252,0),(254,0),(258,1)],3,12,[.int .u32 0,.int .i32 0,.int .u32 0]⟩),(262,⟨.strct [(215,0),(260,16),(231,19),(254,46)],47,140,List.replicate 16 (.int .u8 0)++[.int .u32 0,.int .i32 0]++List.replicate 29 (.int .u32 0)⟩),(269,⟨.slice 230,1,24,[.slice 0 [] (some 230)]⟩),(268,⟨.arr 4 230,4,16,[.int .u32 0,.int .u32 0,.int .u32 0,.int .u32 0]⟩),(361,⟨.ptr,1,8,[.ptr none]⟩),(367,⟨.ptr,1,8,[.ptr none]⟩)]
theorem ttO_ok:ttOk prog ttO=true:=by kernel_rfl
def imm271:List Nat:=[]
def imm277:List Nat:=[]
def imm279:List Nat:=[]
def imm270:List Nat:=[]
def imm259:List Nat:=[]
def imm242:List Nat:=[]
def imm260:List Nat:=[]
def imm288:List Nat:=[]
def rot32S (k:Int):Int:=ibits .and .u64 (IntKind.u64.wrap k) 31
def rot32 (x k:Int):Int:=ibits .or .u32 (ishl .u32 x (rot32S k)) (ishr .u32 x (IntKind.u64.wrap (32 - rot32S k)))
def add32 (x y:Int):Int:=IntKind.u32.wrap (x+y)
def xor32 (x y:Int):Int:=ibits .xor .u32 x y
theorem c260 (x k:Int):Pure prog 260 [.int .u32 x,.int .i64 k] (.int .u32 (rot32 x k)):=by
 intro H
 (refine fnS (imm:=imm260) ttO_ok func260 ?_;(conv=>whnf))
 refine ⟨u64_nonneg _,?_⟩
 conv=>whnf
 refine ⟨u64_nonneg _,?_⟩
 conv=>whnf
 exact ⟨rfl,rfl⟩
def S4.O4 (s:S4) (v:Nat):PObj:=⟨268,[.int .u32 s.a,.int .u32 s.b,.int .u32 s.c,.int .u32 s.d],v⟩
def orB (x:Int) (c:UInt8) (s:Int):Int:=ibits .or .u32 x (ishl .u32 (IntKind.u32.wrap (c.toNat:Int)) s)
def wN (k:List UInt8):Nat→S4
 | 0=>⟨0,0,0,0⟩
 | i+1=>match i / 4 with
  | 0=>{ wN k i with a:=orB (wN k i).a (k.getD i 0) (8*((i % 4:Nat):Int)) }
  | 1=>{ wN k i with b:=orB (wN k i).b (k.getD i 0) (8*((i % 4:Nat):Int)) }
  | 2=>{ wN k i with c:=orB (wN k i).c (k.getD i 0) (8*((i % 4:Nat):Int)) }
  | _=>{ wN k i with d:=orB (wN k i).d (k.getD i 0) (8*((i % 4:Nat):Int)) }
def spN (k:List UInt8):Nat→S4
 | 0=>wN k 16
 | i+1=>⟨xor32 (rot32 (spN k i).a 3) (xor32 (add32 (spN k i).a (rot32 (spN k i).b (-8))) (IntKind.u32.wrap (i:Int))),(spN k i).c,(spN k i).d,xor32 (add32 (spN k i).a (rot32 (spN k i).b (-8))) (IntKind.u32.wrap (i:Int))⟩
def u32C (x:Int):PV:=.int .u32 x
def keyO (k:List UInt8) (d m s:Int) (l:List Int) (md:Int) (v:Nat):PObj:=⟨262,(k.map bC++[.int .u32 d,.int .i32 m,.int .u32 s])++l.map u32C++[.int .u32 md],v⟩
theorem setCells_mid (p q:List PV) (l:List Int) (i n:Nat) (x:Int) (hi:i<l.length) (e:n=p.length+i):setCells n [u32C x] (p++l.map u32C++q)=p++(l.set i x).map u32C++q:=by
 subst e
 rw [setCells_eq _ _ _ (by simp;omega)]
 have h1:(p++l.map u32C++q).take (p.length+i)=p++(l.take i).map u32C:=by
  rw [List.append_assoc,List.take_length_add_append,List.take_append_of_le_length (by rw [List.length_map];omega),List.map_take]
 have h2:(p++l.map u32C++q).drop (p.length+i+[u32C x].length)=(l.drop (i+1)).map u32C++q:=by
  rw [List.append_assoc,Nat.add_assoc,List.drop_length_add_append,List.drop_append_of_le_length (by rw [List.length_map];simp;omega),List.map_drop];rfl
 rw [h1,h2,List.set_eq_take_append_cons_drop,if_pos hi,List.map_append,List.map_cons]
 simp
def D271_4:Draw:={ imp:=[12],win:=[] }
theorem S4.look4 (s:S4) (v:Nat) (H:PH):(H++[s.O4 v])[H.length]? = some ⟨268,[.int .u32 s.a,.int .u32 s.b,.int .u32 s.c,.int .u32 s.d],v⟩:=gL H _
structure MkS where
 i:Nat
 kv:Nat
 lid:Nat
 off:Nat
 cap:Nat
 ob:PObj
 K:PH
def spL (k:List UInt8) (l:List Int) (i:Nat):List Int:=(List.range i).map (fun j=>(spN k j).a)++l.drop i
theorem spL_len (k:List UInt8) (l:List Int) (i:Nat) (hl:l.length=27) (hi:i≤27):(spL k l i).length=27:=by
 unfold spL
 rw [List.length_append,List.length_map,List.length_range,List.length_drop];omega
theorem spL_set (k:List UInt8) (l:List Int) (i:Nat) (hl:l.length=27) (hi:i<27):(spL k l i).set i (spN k i).a=spL k l (i+1):=by
 unfold spL
 rw [List.set_append_right _ _ (by simp),List.length_map,List.length_range,Nat.sub_self,List.drop_eq_getElem_cons (by omega),List.set_cons_zero,List.range_succ,List.map_append,List.append_assoc]
 rfl
structure MkOk (k:List UInt8) (d m s md:Int) (l:List Int) (kid:Nat) (H:PH) (x:MkS):Prop where
 i:x.i≤27
 key:x.K[kid]? = some (keyO k d m s (spL k l x.i) md x.kv)
 ne:x.lid≠kid
 new:H.length≤x.lid
 lst:x.K[x.lid]? = some x.ob
 three:(x.ob.cs.drop x.off).take 3=[u32C (spN k x.i).b,u32C (spN k x.i).c,u32C (spN k x.i).d]
 room:x.off+x.cap≤x.ob.cs.length
 cap:3≤x.cap
 len:H.length≤x.K.length
 fr:∀j,j<H.length→j≠kid→x.K[j]? = H[j]?
def spW (k:List UInt8):List Int:=(List.range 27).map fun j=>(spN k j).a
theorem setCells_len (k:Nat) (xs cs:List PV) (h:k+xs.length≤cs.length):(setCells k xs cs).length=cs.length:=by
 rw [setCells_eq _ _ _ h]
 simp only [List.length_append,List.length_take,List.length_drop];omega
theorem slide (cs:List PV) (off:Nat) (b c d:PV) (r:List PV) (h:cs.drop off=b::c::d::r) (hr:off+4≤cs.length) (n:PV):((setCells (off+1+2) [n] cs).drop (off+1)).take 3=[c,d,n]:=by
 have hcs:cs=cs.take off++b::c::d::r:=by rw [←h,List.take_append_drop]
 have hp:(cs.take off).length=off:=by rw [List.length_take];omega
 generalize cs.take off=p at hcs hp
 subst hcs
 subst hp
 match r,hr with
 | [],hr=>simp at hr
 | e::r',_ =>
  rw [setCells_eq _ _ _ (by simp;omega)]
  have h1:(p++b::c::d::e::r').take (p.length+1+2)=p++[b,c,d]:=by
   rw [Nat.add_assoc,List.take_length_add_append];rfl
  rw [h1,List.append_assoc,List.append_assoc,List.drop_length_add_append]
  rfl
theorem c287 {H:PH} {id off:Nat} {o:PObj} {n:Int} (m:Int) (ho:H[id]? = some o) (hc:o.cs[off]? = some (.int .u32 n)) :
  CK prog 287 [.ptr (some (id,off)),.int .u32 m] H fun r H'=>r=.tup []∧H'=H.set id ⟨o.T,setCells off [.int .u32 m] o.cs,o.ver+1⟩ :=
 callOk_store func287 (by kernel_rfl) (by kernel_rfl) (by kernel_rfl) .u32 (by kernel_rfl) m ho hc
theorem c288:Pure prog 288 [.bool true] (.int .u32 1):=by
 intro H
 (refine fnS (imm:=imm288) ttO_ok func288 ?_;(conv=>whnf))
 exact ⟨rfl,rfl⟩
def D279:Draw:={ imp:=[5],win:=[] }
theorem c279 {H:PH} {id off:Nat} {o:PObj} {n:Int} (ho:H[id]? = some o) (hc:o.cs[off]? = some (.int .u32 n)) :
  CK prog 279 [.ptr (some (id,off)),.bool true] H fun r H'=>r=.tup []∧H'=H.set id ⟨o.T,setCells off [.int .u32 1] o.cs,o.ver+1⟩:=by
 (refine fnS (imm:=imm279) ttO_ok func279 ?_;(conv=>whnf))
 refine dO2 D279 [H,H.set id ⟨o.T,setCells off [.int .u32 1] o.cs,o.ver+1⟩] (by kernel_rfl) rfl trivial ?_
 conv=>whnf
 iterate 4 (refine dS ?_;(conv=>whnf))
 refine ⟨_,cP c288 ⟨rfl,rfl,trivial⟩,?_⟩
 conv=>whnf
 refine ⟨_,cO (c287 1 ho hc) (by rintro _ _ ⟨rfl,rfl⟩;exact ⟨rfl,rfl,trivial⟩),?_⟩
 conv=>whnf
 exact ⟨rfl,rfl⟩
theorem c271x (k:List UInt8) (hk:k.length=16) (d m s md:Int) (l:List Int) (hl:l.length=27) (v kid:Nat) (H:PH) (hid:H[kid]? = some (keyO k d m s l md v)) :
  CK prog 271 [.ptr (some (kid,0))] H fun r H'=>r=.tup []∧∃(K:PH) (kv:Nat),K[kid]? = some (keyO k d m s (spW k) md kv)∧H.length≤K.length∧(∀j,j<H.length→j≠kid→K[j]? = H[j]?)∧H'=K.set kid (keyO k d m s (spW k) 1 (kv+1)):=by
 obtain ⟨k0,k1,k2,k3,k4,k5,k6,k7,k8,k9,ka,kb,kc,kd,ke,kf,rfl⟩:=len16 hk
 have hlt:kid<H.length:=(List.getElem?_eq_some_iff.1 hid).1
 (refine fnS (imm:=imm271) ttO_ok func271 ?_;(conv=>whnf))
 have hid1:(H++[(⟨268,[.int .u32 0,.int .u32 0,.int .u32 0,.int .u32 0],0⟩:PObj)])[kid]? = some (keyO [k0,k1,k2,k3,k4,k5,k6,k7,k8,k9,ka,kb,kc,kd,ke,kf] d m s l md v):=by rw [List.getElem?_append_left hlt];exact hid
 ((conv in (_[_]?)=>tactic=>exact hid1);(conv=>whnf))
 obtain ⟨kk,hkk⟩:∃kk:List UInt8,kk=[k0,k1,k2,k3,k4,k5,k6,k7,k8,k9,ka,kb,kc,kd,ke,kf]:=⟨_,rfl⟩
 refine lO Nat (fun x=>[(0,.ptr (some (kid,0))),(2,.ptr (some (H.length,0))),(12,.agg ([k0,k1,k2,k3,k4,k5,k6,k7,k8,k9,ka,kb,kc,kd,ke,kf].map bC)),(13,.int .i64 x)]) (fun x=>H++[(wN kk x).O4 x]) (fun x=>x≤16) (fun x=>16 - x) ⟨0,Nat.zero_le _,⟨rfl,rfl,rfl,rfl,trivial⟩,rfl⟩ ?_
 intro i hi
 match i,hi with
 | 0,_ =>
  conv=>whnf
  refine ⟨fun _=>?_,fun h=>absurd (show ((0:Nat):Int)<16 by decide) h⟩
  conv=>whnf
  refine ⟨⟨by decide,by decide⟩,?_⟩
  conv=>whnf
  generalize hz:wN kk 0=z
  refine dO2 D271_4 [H++[z.O4 0],H++[S4.O4 { z with a:=orB z.a k0 0 } 1]] (by kernel_rfl) rfl trivial ?_
  conv=>whnf
  (refine dS ?_;(conv=>whnf))
  apply Exists.intro
  apply And.intro
  ·conv=>whnf
   exact oD
  conv=>whnf
  apply Exists.intro
  apply And.intro
  ·conv=>whnf
   exact oD
  conv=>whnf
  apply Exists.intro
  apply And.intro
  ·conv=>whnf
   ((conv in (_[_]?)=>tactic=>exact (z.look4 0 H));(conv=>whnf))
   exact ⟨rfl,rfl,trivial⟩
  conv=>whnf
  iterate 3 (refine dS ?_;(conv=>whnf))
  apply Exists.intro
  apply And.intro
  ·conv=>whnf
   exact oD
  conv=>whnf
  (refine dS ?_;(conv=>whnf))
  apply Exists.intro
  apply And.intro
  ·conv=>whnf
   exact oD
  conv=>whnf
  (refine dS ?_;(conv=>whnf))
  apply Exists.intro
  apply And.intro
  ·conv=>whnf
   exact oD
  conv=>whnf
  apply Exists.intro
  apply And.intro
  ·conv=>whnf
   ((conv in (_[_]?)=>tactic=>exact (z.look4 0 H));(conv=>whnf))
   exact ⟨rfl,sL H _ _,trivial⟩
  conv=>whnf
  refine ⟨1,by decide,⟨rfl,rfl,rfl,rfl,trivial⟩,?_,by decide⟩
  subst hz hkk
  rfl
 | 1,_ =>
  conv=>whnf
  refine ⟨fun _=>?_,fun h=>absurd (show ((1:Nat):Int)<16 by decide) h⟩
  conv=>whnf
  refine ⟨⟨by decide,by decide⟩,?_⟩
  conv=>whnf
  generalize hz:wN kk 1=z
  refine dO2 D271_4 [H++[z.O4 1],H++[S4.O4 { z with a:=orB z.a k1 8 } 2]] (by kernel_rfl) rfl trivial ?_
  conv=>whnf
  (refine dS ?_;(conv=>whnf))
  apply Exists.intro
  apply And.intro
  ·conv=>whnf
   exact oD
  conv=>whnf
  apply Exists.intro
  apply And.intro
  ·conv=>whnf
   exact oD
  conv=>whnf
  apply Exists.intro
  apply And.intro
  ·conv=>whnf
   ((conv in (_[_]?)=>tactic=>exact (z.look4 1 H));(conv=>whnf))
   exact ⟨rfl,rfl,trivial⟩
  conv=>whnf
  iterate 3 (refine dS ?_;(conv=>whnf))
  apply Exists.intro
  apply And.intro
  ·conv=>whnf
   exact oD
  conv=>whnf
  (refine dS ?_;(conv=>whnf))
  apply Exists.intro
  apply And.intro
  ·conv=>whnf
   exact oD
  conv=>whnf
  (refine dS ?_;(conv=>whnf))
  apply Exists.intro
  apply And.intro
  ·conv=>whnf
   exact oD
  conv=>whnf
  apply Exists.intro
  apply And.intro
  ·conv=>whnf
   ((conv in (_[_]?)=>tactic=>exact (z.look4 1 H));(conv=>whnf))
   exact ⟨rfl,sL H _ _,trivial⟩
  conv=>whnf
  refine ⟨2,by decide,⟨rfl,rfl,rfl,rfl,trivial⟩,?_,by decide⟩
  subst hz hkk
  rfl
 | 2,_ =>
  conv=>whnf
  refine ⟨fun _=>?_,fun h=>absurd (show ((2:Nat):Int)<16 by decide) h⟩
  conv=>whnf
  refine ⟨⟨by decide,by decide⟩,?_⟩
  conv=>whnf
  generalize hz:wN kk 2=z
  refine dO2 D271_4 [H++[z.O4 2],H++[S4.O4 { z with a:=orB z.a k2 16 } 3]] (by kernel_rfl) rfl trivial ?_
  conv=>whnf
  (refine dS ?_;(conv=>whnf))
  apply Exists.intro
  apply And.intro
  ·conv=>whnf
   exact oD
  conv=>whnf
  apply Exists.intro
  apply And.intro
  ·conv=>whnf
   exact oD
  conv=>whnf
  apply Exists.intro
  apply And.intro
  ·conv=>whnf
   ((conv in (_[_]?)=>tactic=>exact (z.look4 2 H));(conv=>whnf))
   exact ⟨rfl,rfl,trivial⟩
  conv=>whnf
  iterate 3 (refine dS ?_;(conv=>whnf))
  apply Exists.intro
  apply And.intro
  ·conv=>whnf
   exact oD
  conv=>whnf
  (refine dS ?_;(conv=>whnf))
  apply Exists.intro
  apply And.intro
  ·conv=>whnf
   exact oD
  conv=>whnf
  (refine dS ?_;(conv=>whnf))
  apply Exists.intro
  apply And.intro
  ·conv=>whnf
   exact oD
  conv=>whnf
  apply Exists.intro
  apply And.intro
  ·conv=>whnf
   ((conv in (_[_]?)=>tactic=>exact (z.look4 2 H));(conv=>whnf))
   exact ⟨rfl,sL H _ _,trivial⟩
  conv=>whnf
  refine ⟨3,by decide,⟨rfl,rfl,rfl,rfl,trivial⟩,?_,by decide⟩
  subst hz hkk
  rfl
 | 3,_ =>
  conv=>whnf
  refine ⟨fun _=>?_,fun h=>absurd (show ((3:Nat):Int)<16 by decide) h⟩
  conv=>whnf
  refine ⟨⟨by decide,by decide⟩,?_⟩
  conv=>whnf
  generalize hz:wN kk 3=z
  refine dO2 D271_4 [H++[z.O4 3],H++[S4.O4 { z with a:=orB z.a k3 24 } 4]] (by kernel_rfl) rfl trivial ?_
  conv=>whnf
  (refine dS ?_;(conv=>whnf))
  apply Exists.intro
  apply And.intro
  ·conv=>whnf
   exact oD
  conv=>whnf
  apply Exists.intro
  apply And.intro
  ·conv=>whnf
   exact oD
  conv=>whnf
  apply Exists.intro
  apply And.intro
  ·conv=>whnf
   ((conv in (_[_]?)=>tactic=>exact (z.look4 3 H));(conv=>whnf))
   exact ⟨rfl,rfl,trivial⟩
  conv=>whnf
  iterate 3 (refine dS ?_;(conv=>whnf))
  apply Exists.intro
  apply And.intro
  ·conv=>whnf
   exact oD
  conv=>whnf
  (refine dS ?_;(conv=>whnf))
  apply Exists.intro
  apply And.intro
  ·conv=>whnf
   exact oD
  conv=>whnf
  (refine dS ?_;(conv=>whnf))
  apply Exists.intro
  apply And.intro
  ·conv=>whnf
   exact oD
  conv=>whnf
  apply Exists.intro
  apply And.intro
  ·conv=>whnf
   ((conv in (_[_]?)=>tactic=>exact (z.look4 3 H));(conv=>whnf))
   exact ⟨rfl,sL H _ _,trivial⟩
  conv=>whnf
  refine ⟨4,by decide,⟨rfl,rfl,rfl,rfl,trivial⟩,?_,by decide⟩
  subst hz hkk
  rfl
 | 4,_ =>
  conv=>whnf
  refine ⟨fun _=>?_,fun h=>absurd (show ((4:Nat):Int)<16 by decide) h⟩
  conv=>whnf
  refine ⟨⟨by decide,by decide⟩,?_⟩
  conv=>whnf
  generalize hz:wN kk 4=z
  refine dO2 D271_4 [H++[z.O4 4],H++[S4.O4 { z with b:=orB z.b k4 0 } 5]] (by kernel_rfl) rfl trivial ?_
  conv=>whnf
  (refine dS ?_;(conv=>whnf))
  apply Exists.intro
  apply And.intro
  ·conv=>whnf
   exact oD
  conv=>whnf
  apply Exists.intro
  apply And.intro
  ·conv=>whnf
   exact oD
  conv=>whnf
  apply Exists.intro
  apply And.intro
  ·conv=>whnf
   ((conv in (_[_]?)=>tactic=>exact (z.look4 4 H));(conv=>whnf))
   exact ⟨rfl,rfl,trivial⟩
  conv=>whnf
  iterate 3 (refine dS ?_;(conv=>whnf))
  apply Exists.intro
  apply And.intro
  ·conv=>whnf
   exact oD
  conv=>whnf
  (refine dS ?_;(conv=>whnf))
  apply Exists.intro
  apply And.intro
  ·conv=>whnf
   exact oD
  conv=>whnf
  (refine dS ?_;(conv=>whnf))
  apply Exists.intro
  apply And.intro
  ·conv=>whnf
   exact oD
  conv=>whnf
  apply Exists.intro
  apply And.intro
  ·conv=>whnf
   ((conv in (_[_]?)=>tactic=>exact (z.look4 4 H));(conv=>whnf))
   exact ⟨rfl,sL H _ _,trivial⟩
  conv=>whnf
  refine ⟨5,by decide,⟨rfl,rfl,rfl,rfl,trivial⟩,?_,by decide⟩
  subst hz hkk
  rfl
 | 5,_ =>
  conv=>whnf
  refine ⟨fun _=>?_,fun h=>absurd (show ((5:Nat):Int)<16 by decide) h⟩
  conv=>whnf
  refine ⟨⟨by decide,by decide⟩,?_⟩
  conv=>whnf
  generalize hz:wN kk 5=z
  refine dO2 D271_4 [H++[z.O4 5],H++[S4.O4 { z with b:=orB z.b k5 8 } 6]] (by kernel_rfl) rfl trivial ?_
  conv=>whnf
  (refine dS ?_;(conv=>whnf))
  apply Exists.intro
  apply And.intro
  ·conv=>whnf
   exact oD
  conv=>whnf
  apply Exists.intro
  apply And.intro
  ·conv=>whnf
   exact oD
  conv=>whnf
  apply Exists.intro
  apply And.intro
  ·conv=>whnf
   ((conv in (_[_]?)=>tactic=>exact (z.look4 5 H));(conv=>whnf))
   exact ⟨rfl,rfl,trivial⟩
  conv=>whnf
  iterate 3 (refine dS ?_;(conv=>whnf))
  apply Exists.intro
  apply And.intro
  ·conv=>whnf
   exact oD
  conv=>whnf
  (refine dS ?_;(conv=>whnf))
  apply Exists.intro
  apply And.intro
  ·conv=>whnf
   exact oD
  conv=>whnf
  (refine dS ?_;(conv=>whnf))
  apply Exists.intro
  apply And.intro
  ·conv=>whnf
   exact oD
  conv=>whnf
  apply Exists.intro
  apply And.intro
  ·conv=>whnf
   ((conv in (_[_]?)=>tactic=>exact (z.look4 5 H));(conv=>whnf))
   exact ⟨rfl,sL H _ _,trivial⟩
  conv=>whnf
  refine ⟨6,by decide,⟨rfl,rfl,rfl,rfl,trivial⟩,?_,by decide⟩
  subst hz hkk
  rfl
 | 6,_ =>
  conv=>whnf
  refine ⟨fun _=>?_,fun h=>absurd (show ((6:Nat):Int)<16 by decide) h⟩
  conv=>whnf
  refine ⟨⟨by decide,by decide⟩,?_⟩
  conv=>whnf
  generalize hz:wN kk 6=z
  refine dO2 D271_4 [H++[z.O4 6],H++[S4.O4 { z with b:=orB z.b k6 16 } 7]] (by kernel_rfl) rfl trivial ?_
  conv=>whnf
  (refine dS ?_;(conv=>whnf))
  apply Exists.intro
  apply And.intro
  ·conv=>whnf
   exact oD
  conv=>whnf
  apply Exists.intro
  apply And.intro
  ·conv=>whnf
   exact oD
  conv=>whnf
  apply Exists.intro
  apply And.intro
  ·conv=>whnf
   ((conv in (_[_]?)=>tactic=>exact (z.look4 6 H));(conv=>whnf))
   exact ⟨rfl,rfl,trivial⟩
  conv=>whnf
  iterate 3 (refine dS ?_;(conv=>whnf))
  apply Exists.intro
  apply And.intro
  ·conv=>whnf
   exact oD
  conv=>whnf
  (refine dS ?_;(conv=>whnf))
  apply Exists.intro
  apply And.intro
  ·conv=>whnf
   exact oD
  conv=>whnf
  (refine dS ?_;(conv=>whnf))
  apply Exists.intro
  apply And.intro
  ·conv=>whnf
   exact oD
  conv=>whnf
  apply Exists.intro
  apply And.intro
  ·conv=>whnf
   ((conv in (_[_]?)=>tactic=>exact (z.look4 6 H));(conv=>whnf))
   exact ⟨rfl,sL H _ _,trivial⟩
  conv=>whnf
  refine ⟨7,by decide,⟨rfl,rfl,rfl,rfl,trivial⟩,?_,by decide⟩
  subst hz hkk
  rfl
 | 7,_ =>
  conv=>whnf
  refine ⟨fun _=>?_,fun h=>absurd (show ((7:Nat):Int)<16 by decide) h⟩
  conv=>whnf
  refine ⟨⟨by decide,by decide⟩,?_⟩
  conv=>whnf
  generalize hz:wN kk 7=z
  refine dO2 D271_4 [H++[z.O4 7],H++[S4.O4 { z with b:=orB z.b k7 24 } 8]] (by kernel_rfl) rfl trivial ?_
  conv=>whnf
  (refine dS ?_;(conv=>whnf))
  apply Exists.intro
  apply And.intro
  ·conv=>whnf
   exact oD
  conv=>whnf
  apply Exists.intro
  apply And.intro
  ·conv=>whnf
   exact oD
  conv=>whnf
  apply Exists.intro
  apply And.intro
  ·conv=>whnf
   ((conv in (_[_]?)=>tactic=>exact (z.look4 7 H));(conv=>whnf))
   exact ⟨rfl,rfl,trivial⟩
  conv=>whnf
  iterate 3 (refine dS ?_;(conv=>whnf))
  apply Exists.intro
  apply And.intro
  ·conv=>whnf
   exact oD
  conv=>whnf
  (refine dS ?_;(conv=>whnf))
  apply Exists.intro
  apply And.intro
  ·conv=>whnf
   exact oD
  conv=>whnf
  (refine dS ?_;(conv=>whnf))
  apply Exists.intro
  apply And.intro
  ·conv=>whnf
   exact oD
  conv=>whnf
  apply Exists.intro
  apply And.intro
  ·conv=>whnf
   ((conv in (_[_]?)=>tactic=>exact (z.look4 7 H));(conv=>whnf))
   exact ⟨rfl,sL H _ _,trivial⟩
  conv=>whnf
  refine ⟨8,by decide,⟨rfl,rfl,rfl,rfl,trivial⟩,?_,by decide⟩
  subst hz hkk
  rfl
 | 8,_ =>
  conv=>whnf
  refine ⟨fun _=>?_,fun h=>absurd (show ((8:Nat):Int)<16 by decide) h⟩
  conv=>whnf
  refine ⟨⟨by decide,by decide⟩,?_⟩
  conv=>whnf
  generalize hz:wN kk 8=z
  refine dO2 D271_4 [H++[z.O4 8],H++[S4.O4 { z with c:=orB z.c k8 0 } 9]] (by kernel_rfl) rfl trivial ?_
  conv=>whnf
  (refine dS ?_;(conv=>whnf))
  apply Exists.intro
  apply And.intro
  ·conv=>whnf
   exact oD
  conv=>whnf
  apply Exists.intro
  apply And.intro
  ·conv=>whnf
   exact oD
  conv=>whnf
  apply Exists.intro
  apply And.intro
  ·conv=>whnf
   ((conv in (_[_]?)=>tactic=>exact (z.look4 8 H));(conv=>whnf))
   exact ⟨rfl,rfl,trivial⟩
  conv=>whnf
  iterate 3 (refine dS ?_;(conv=>whnf))
  apply Exists.intro
  apply And.intro
  ·conv=>whnf
   exact oD
  conv=>whnf
  (refine dS ?_;(conv=>whnf))
  apply Exists.intro
  apply And.intro
  ·conv=>whnf
   exact oD
  conv=>whnf
  (refine dS ?_;(conv=>whnf))
  apply Exists.intro
  apply And.intro
  ·conv=>whnf
   exact oD
  conv=>whnf
  apply Exists.intro
  apply And.intro
  ·conv=>whnf
   ((conv in (_[_]?)=>tactic=>exact (z.look4 8 H));(conv=>whnf))
   exact ⟨rfl,sL H _ _,trivial⟩
  conv=>whnf
  refine ⟨9,by decide,⟨rfl,rfl,rfl,rfl,trivial⟩,?_,by decide⟩
  subst hz hkk
  rfl
 | 9,_ =>
  conv=>whnf
  refine ⟨fun _=>?_,fun h=>absurd (show ((9:Nat):Int)<16 by decide) h⟩
  conv=>whnf
  refine ⟨⟨by decide,by decide⟩,?_⟩
  conv=>whnf
  generalize hz:wN kk 9=z
  refine dO2 D271_4 [H++[z.O4 9],H++[S4.O4 { z with c:=orB z.c k9 8 } 10]] (by kernel_rfl) rfl trivial ?_
  conv=>whnf
  (refine dS ?_;(conv=>whnf))
  apply Exists.intro
  apply And.intro
  ·conv=>whnf
   exact oD
  conv=>whnf
  apply Exists.intro
  apply And.intro
  ·conv=>whnf
   exact oD
  conv=>whnf
  apply Exists.intro
  apply And.intro
  ·conv=>whnf
   ((conv in (_[_]?)=>tactic=>exact (z.look4 9 H));(conv=>whnf))
   exact ⟨rfl,rfl,trivial⟩
  conv=>whnf
  iterate 3 (refine dS ?_;(conv=>whnf))
  apply Exists.intro
  apply And.intro
  ·conv=>whnf
   exact oD
  conv=>whnf
  (refine dS ?_;(conv=>whnf))
  apply Exists.intro
  apply And.intro
  ·conv=>whnf
   exact oD
  conv=>whnf
  (refine dS ?_;(conv=>whnf))
  apply Exists.intro
  apply And.intro
  ·conv=>whnf
   exact oD
  conv=>whnf
  apply Exists.intro
  apply And.intro
  ·conv=>whnf
   ((conv in (_[_]?)=>tactic=>exact (z.look4 9 H));(conv=>whnf))
   exact ⟨rfl,sL H _ _,trivial⟩
  conv=>whnf
  refine ⟨10,by decide,⟨rfl,rfl,rfl,rfl,trivial⟩,?_,by decide⟩
  subst hz hkk
  rfl
 | 10,_ =>
  conv=>whnf
  refine ⟨fun _=>?_,fun h=>absurd (show ((10:Nat):Int)<16 by decide) h⟩
  conv=>whnf
  refine ⟨⟨by decide,by decide⟩,?_⟩
  conv=>whnf
  generalize hz:wN kk 10=z
  refine dO2 D271_4 [H++[z.O4 10],H++[S4.O4 { z with c:=orB z.c ka 16 } 11]] (by kernel_rfl) rfl trivial ?_
  conv=>whnf
  (refine dS ?_;(conv=>whnf))
  apply Exists.intro
  apply And.intro
  ·conv=>whnf
   exact oD
  conv=>whnf
  apply Exists.intro
  apply And.intro
  ·conv=>whnf
   exact oD
  conv=>whnf
  apply Exists.intro
  apply And.intro
  ·conv=>whnf
   ((conv in (_[_]?)=>tactic=>exact (z.look4 10 H));(conv=>whnf))
   exact ⟨rfl,rfl,trivial⟩
  conv=>whnf
  iterate 3 (refine dS ?_;(conv=>whnf))
  apply Exists.intro
  apply And.intro
  ·conv=>whnf
   exact oD
  conv=>whnf
  (refine dS ?_;(conv=>whnf))
  apply Exists.intro
  apply And.intro
  ·conv=>whnf
   exact oD
  conv=>whnf
  (refine dS ?_;(conv=>whnf))
  apply Exists.intro
  apply And.intro
  ·conv=>whnf
   exact oD
  conv=>whnf
  apply Exists.intro
  apply And.intro
  ·conv=>whnf
   ((conv in (_[_]?)=>tactic=>exact (z.look4 10 H));(conv=>whnf))
   exact ⟨rfl,sL H _ _,trivial⟩
  conv=>whnf
  refine ⟨11,by decide,⟨rfl,rfl,rfl,rfl,trivial⟩,?_,by decide⟩
  subst hz hkk
  rfl
 | 11,_ =>
  conv=>whnf
  refine ⟨fun _=>?_,fun h=>absurd (show ((11:Nat):Int)<16 by decide) h⟩
  conv=>whnf
  refine ⟨⟨by decide,by decide⟩,?_⟩
  conv=>whnf
  generalize hz:wN kk 11=z
  refine dO2 D271_4 [H++[z.O4 11],H++[S4.O4 { z with c:=orB z.c kb 24 } 12]] (by kernel_rfl) rfl trivial ?_
  conv=>whnf
  (refine dS ?_;(conv=>whnf))
  apply Exists.intro
  apply And.intro
  ·conv=>whnf
   exact oD
  conv=>whnf
  apply Exists.intro
  apply And.intro
  ·conv=>whnf
   exact oD
  conv=>whnf
  apply Exists.intro
  apply And.intro
  ·conv=>whnf
   ((conv in (_[_]?)=>tactic=>exact (z.look4 11 H));(conv=>whnf))
   exact ⟨rfl,rfl,trivial⟩
  conv=>whnf
  iterate 3 (refine dS ?_;(conv=>whnf))
  apply Exists.intro
  apply And.intro
  ·conv=>whnf
   exact oD
  conv=>whnf
  (refine dS ?_;(conv=>whnf))
  apply Exists.intro
  apply And.intro
  ·conv=>whnf
   exact oD
  conv=>whnf
  (refine dS ?_;(conv=>whnf))
  apply Exists.intro
  apply And.intro
  ·conv=>whnf
   exact oD
  conv=>whnf
  apply Exists.intro
  apply And.intro
  ·conv=>whnf
   ((conv in (_[_]?)=>tactic=>exact (z.look4 11 H));(conv=>whnf))
   exact ⟨rfl,sL H _ _,trivial⟩
  conv=>whnf
  refine ⟨12,by decide,⟨rfl,rfl,rfl,rfl,trivial⟩,?_,by decide⟩
  subst hz hkk
  rfl
 | 12,_ =>
  conv=>whnf
  refine ⟨fun _=>?_,fun h=>absurd (show ((12:Nat):Int)<16 by decide) h⟩
  conv=>whnf
  refine ⟨⟨by decide,by decide⟩,?_⟩
  conv=>whnf
  generalize hz:wN kk 12=z
  refine dO2 D271_4 [H++[z.O4 12],H++[S4.O4 { z with d:=orB z.d kc 0 } 13]] (by kernel_rfl) rfl trivial ?_
  conv=>whnf
  (refine dS ?_;(conv=>whnf))
  apply Exists.intro
  apply And.intro
  ·conv=>whnf
   exact oD
  conv=>whnf
  apply Exists.intro
  apply And.intro
  ·conv=>whnf
   exact oD
  conv=>whnf
  apply Exists.intro
  apply And.intro
  ·conv=>whnf
   ((conv in (_[_]?)=>tactic=>exact (z.look4 12 H));(conv=>whnf))
   exact ⟨rfl,rfl,trivial⟩
  conv=>whnf
  iterate 3 (refine dS ?_;(conv=>whnf))
  apply Exists.intro
  apply And.intro
  ·conv=>whnf
   exact oD
  conv=>whnf
  (refine dS ?_;(conv=>whnf))
  apply Exists.intro
  apply And.intro
  ·conv=>whnf
   exact oD
  conv=>whnf
  (refine dS ?_;(conv=>whnf))
  apply Exists.intro
  apply And.intro
  ·conv=>whnf
   exact oD
  conv=>whnf
  apply Exists.intro
  apply And.intro
  ·conv=>whnf
   ((conv in (_[_]?)=>tactic=>exact (z.look4 12 H));(conv=>whnf))
   exact ⟨rfl,sL H _ _,trivial⟩
  conv=>whnf
  refine ⟨13,by decide,⟨rfl,rfl,rfl,rfl,trivial⟩,?_,by decide⟩
  subst hz hkk
  rfl
 | 13,_ =>
  conv=>whnf
  refine ⟨fun _=>?_,fun h=>absurd (show ((13:Nat):Int)<16 by decide) h⟩
  conv=>whnf
  refine ⟨⟨by decide,by decide⟩,?_⟩
  conv=>whnf
  generalize hz:wN kk 13=z
  refine dO2 D271_4 [H++[z.O4 13],H++[S4.O4 { z with d:=orB z.d kd 8 } 14]] (by kernel_rfl) rfl trivial ?_
  conv=>whnf
  (refine dS ?_;(conv=>whnf))
  apply Exists.intro
  apply And.intro
  ·conv=>whnf
   exact oD
  conv=>whnf
  apply Exists.intro
  apply And.intro
  ·conv=>whnf
   exact oD
  conv=>whnf
  apply Exists.intro
  apply And.intro
  ·conv=>whnf
   ((conv in (_[_]?)=>tactic=>exact (z.look4 13 H));(conv=>whnf))
   exact ⟨rfl,rfl,trivial⟩
  conv=>whnf
  iterate 3 (refine dS ?_;(conv=>whnf))
  apply Exists.intro
  apply And.intro
  ·conv=>whnf
   exact oD
  conv=>whnf
  (refine dS ?_;(conv=>whnf))
  apply Exists.intro
  apply And.intro
  ·conv=>whnf
   exact oD
  conv=>whnf
  (refine dS ?_;(conv=>whnf))
  apply Exists.intro
  apply And.intro
  ·conv=>whnf
   exact oD
  conv=>whnf
  apply Exists.intro
  apply And.intro
  ·conv=>whnf
   ((conv in (_[_]?)=>tactic=>exact (z.look4 13 H));(conv=>whnf))
   exact ⟨rfl,sL H _ _,trivial⟩
  conv=>whnf
  refine ⟨14,by decide,⟨rfl,rfl,rfl,rfl,trivial⟩,?_,by decide⟩
  subst hz hkk
  rfl
 | 14,_ =>
  conv=>whnf
  refine ⟨fun _=>?_,fun h=>absurd (show ((14:Nat):Int)<16 by decide) h⟩
  conv=>whnf
  refine ⟨⟨by decide,by decide⟩,?_⟩
  conv=>whnf
  generalize hz:wN kk 14=z
  refine dO2 D271_4 [H++[z.O4 14],H++[S4.O4 { z with d:=orB z.d ke 16 } 15]] (by kernel_rfl) rfl trivial ?_
  conv=>whnf
  (refine dS ?_;(conv=>whnf))
  apply Exists.intro
  apply And.intro
  ·conv=>whnf
   exact oD
  conv=>whnf
  apply Exists.intro
  apply And.intro
  ·conv=>whnf
   exact oD
  conv=>whnf
  apply Exists.intro
  apply And.intro
  ·conv=>whnf
   ((conv in (_[_]?)=>tactic=>exact (z.look4 14 H));(conv=>whnf))
   exact ⟨rfl,rfl,trivial⟩
  conv=>whnf
  iterate 3 (refine dS ?_;(conv=>whnf))
  apply Exists.intro
  apply And.intro
  ·conv=>whnf
   exact oD
  conv=>whnf
  (refine dS ?_;(conv=>whnf))
  apply Exists.intro
  apply And.intro
  ·conv=>whnf
   exact oD
  conv=>whnf
  (refine dS ?_;(conv=>whnf))
  apply Exists.intro
  apply And.intro
  ·conv=>whnf
   exact oD
  conv=>whnf
  apply Exists.intro
  apply And.intro
  ·conv=>whnf
   ((conv in (_[_]?)=>tactic=>exact (z.look4 14 H));(conv=>whnf))
   exact ⟨rfl,sL H _ _,trivial⟩
  conv=>whnf
  refine ⟨15,by decide,⟨rfl,rfl,rfl,rfl,trivial⟩,?_,by decide⟩
  subst hz hkk
  rfl
 | 15,_ =>
  conv=>whnf
  refine ⟨fun _=>?_,fun h=>absurd (show ((15:Nat):Int)<16 by decide) h⟩
  conv=>whnf
  refine ⟨⟨by decide,by decide⟩,?_⟩
  conv=>whnf
  generalize hz:wN kk 15=z
  refine dO2 D271_4 [H++[z.O4 15],H++[S4.O4 { z with d:=orB z.d kf 24 } 16]] (by kernel_rfl) rfl trivial ?_
  conv=>whnf
  (refine dS ?_;(conv=>whnf))
  apply Exists.intro
  apply And.intro
  ·conv=>whnf
   exact oD
  conv=>whnf
  apply Exists.intro
  apply And.intro
  ·conv=>whnf
   exact oD
  conv=>whnf
  apply Exists.intro
  apply And.intro
  ·conv=>whnf
   ((conv in (_[_]?)=>tactic=>exact (z.look4 15 H));(conv=>whnf))
   exact ⟨rfl,rfl,trivial⟩
  conv=>whnf
  iterate 3 (refine dS ?_;(conv=>whnf))
  apply Exists.intro
  apply And.intro
  ·conv=>whnf
   exact oD
  conv=>whnf
  (refine dS ?_;(conv=>whnf))
  apply Exists.intro
  apply And.intro
  ·conv=>whnf
   exact oD
  conv=>whnf
  (refine dS ?_;(conv=>whnf))
  apply Exists.intro
  apply And.intro
  ·conv=>whnf
   exact oD
  conv=>whnf
  apply Exists.intro
  apply And.intro
  ·conv=>whnf
   ((conv in (_[_]?)=>tactic=>exact (z.look4 15 H));(conv=>whnf))
   exact ⟨rfl,sL H _ _,trivial⟩
  conv=>whnf
  refine ⟨16,by decide,⟨rfl,rfl,rfl,rfl,trivial⟩,?_,by decide⟩
  subst hz hkk
  rfl
 | 16,_ =>
  conv=>whnf
  refine ⟨fun h=>absurd h (by decide),fun _=>?_⟩
  conv=>whnf
  refine dP2 (by kernel_rfl) ?_
  conv=>whnf
  apply Exists.intro
  apply And.intro
  ·conv=>whnf
   exact ⟨by decide,rfl,rfl,trivial⟩
  conv=>whnf
  apply Exists.intro
  apply And.intro
  ·conv=>whnf
   ((conv in (_[_]?)=>tactic=>exact ((wN kk 16).look4 16 H));(conv=>whnf))
   exact ⟨rfl,rfl,trivial⟩
  conv=>whnf
  apply Exists.intro
  apply And.intro
  ·conv=>whnf
   refine ⟨by decide,fun _=>?_,fun h=>absurd (show (1:Int)<4 by decide) h⟩
   conv=>whnf
   exact ⟨rfl,rfl,trivial⟩
  conv=>whnf
  iterate 2 (refine dS ?_;(conv=>whnf))
  subst hkk
  refine lO MkS (fun x=>[(0,.ptr (some (kid,0))),(5,.int .u32 (spN [k0,k1,k2,k3,k4,k5,k6,k7,k8,k9,ka,kb,kc,kd,ke,kf] x.i).a),(6,.sref x.lid x.off 3 x.cap),(33,.int .i64 x.i)]) (fun x=>x.K) (fun x=>MkOk [k0,k1,k2,k3,k4,k5,k6,k7,k8,k9,ka,kb,kc,kd,ke,kf] d m s md l kid H x) (fun x=>27 - x.i)
   ⟨⟨0,v,H.length,1,3,(wN [k0,k1,k2,k3,k4,k5,k6,k7,k8,k9,ka,kb,kc,kd,ke,kf] 16).O4 16,H++[(wN [k0,k1,k2,k3,k4,k5,k6,k7,k8,k9,ka,kb,kc,kd,ke,kf] 16).O4 16]⟩,⟨Nat.zero_le _,by rw [List.getElem?_append_left hlt];exact hid,by show H.length≠kid;omega,Nat.le_refl _,gL H _,rfl,by show 1+3≤4;omega,by show 3≤3;omega,by simp,fun j hj _=>List.getElem?_append_left hj⟩,⟨rfl,rfl,rfl,rfl,trivial⟩,rfl⟩ ?_
  rintro x hx
  obtain ⟨i,kv,lid,off,cap,ob,K⟩:=x
  have hx:MkOk [k0,k1,k2,k3,k4,k5,k6,k7,k8,k9,ka,kb,kc,kd,ke,kf] d m s md l kid H ⟨i,kv,lid,off,cap,ob,K⟩:=hx
  have hi:i≤27:=hx.i
  have hKk:K[kid]? = some (keyO [k0,k1,k2,k3,k4,k5,k6,k7,k8,k9,ka,kb,kc,kd,ke,kf] d m s (spL [k0,k1,k2,k3,k4,k5,k6,k7,k8,k9,ka,kb,kc,kd,ke,kf] l i) md kv):=hx.key
  conv=>whnf
  refine ⟨fun h=>?_,fun h=>?_⟩
  ·have h:(i:Int)<27:=h
   have hspl:(spL [k0,k1,k2,k3,k4,k5,k6,k7,k8,k9,ka,kb,kc,kd,ke,kf] l i).length=27:=by rw [spL_len _ _ _ hl hi]
   conv=>whnf
   refine ⟨⟨by omega,h⟩,?_⟩
   conv=>whnf
   ((conv in (_[_]?)=>tactic=>exact hKk);(conv=>whnf))
   ((conv in (Nat.ble _ _)=>tactic=>exact (show Nat.ble (0+19+(i:Int).toNat*1+1) (([k0,k1,k2,k3,k4,k5,k6,k7,k8,k9,ka,kb,kc,kd,ke,kf].map bC++[PV.int .u32 d,PV.int .i32 m,PV.int .u32 s])++(spL [k0,k1,k2,k3,k4,k5,k6,k7,k8,k9,ka,kb,kc,kd,ke,kf] l i).map u32C++[PV.int .u32 md]).length=true by rw [Nat.ble_eq];simp [hspl];omega));(conv=>whnf))
   generalize hg:setH kid _ _ _=K1
   have hK1:K1=K.set kid (keyO [k0,k1,k2,k3,k4,k5,k6,k7,k8,k9,ka,kb,kc,kd,ke,kf] d m s (spL [k0,k1,k2,k3,k4,k5,k6,k7,k8,k9,ka,kb,kc,kd,ke,kf] l (i+1)) md (kv+1)):=by
    rw [←hg]
    show K.set kid ⟨262,setCells (0+19+(i:Int).toNat*1) [u32C (spN [k0,k1,k2,k3,k4,k5,k6,k7,k8,k9,ka,kb,kc,kd,ke,kf] i).a] (([k0,k1,k2,k3,k4,k5,k6,k7,k8,k9,ka,kb,kc,kd,ke,kf].map bC++[PV.int .u32 d,PV.int .i32 m,PV.int .u32 s])++(spL [k0,k1,k2,k3,k4,k5,k6,k7,k8,k9,ka,kb,kc,kd,ke,kf] l i).map u32C++[PV.int .u32 md]),kv+1⟩=_
    rw [setCells_mid _ _ _ i _ _ (by omega) (by simp),spL_set _ _ _ hl (by omega)]
    rfl
   have h1:K1[lid]? = some ob:=by rw [hK1,List.getElem?_set_ne (Ne.symm hx.ne)];exact hx.lst
   have hk1:K1[kid]? = some (keyO [k0,k1,k2,k3,k4,k5,k6,k7,k8,k9,ka,kb,kc,kd,ke,kf] d m s (spL [k0,k1,k2,k3,k4,k5,k6,k7,k8,k9,ka,kb,kc,kd,ke,kf] l (i+1)) md (kv+1)):=by rw [hK1];exact gS hKk
   have hl1:K1.length=K.length:=by rw [hK1,List.length_set]
   have ht:(ob.cs.drop off).take 3=[u32C (spN [k0,k1,k2,k3,k4,k5,k6,k7,k8,k9,ka,kb,kc,kd,ke,kf] i).b,u32C (spN [k0,k1,k2,k3,k4,k5,k6,k7,k8,k9,ka,kb,kc,kd,ke,kf] i).c,u32C (spN [k0,k1,k2,k3,k4,k5,k6,k7,k8,k9,ka,kb,kc,kd,ke,kf] i).d]:=hx.three
   have ht2:ob.cs.drop off=u32C (spN [k0,k1,k2,k3,k4,k5,k6,k7,k8,k9,ka,kb,kc,kd,ke,kf] i).b::u32C (spN [k0,k1,k2,k3,k4,k5,k6,k7,k8,k9,ka,kb,kc,kd,ke,kf] i).c::u32C (spN [k0,k1,k2,k3,k4,k5,k6,k7,k8,k9,ka,kb,kc,kd,ke,kf] i).d::(ob.cs.drop off).drop 3:=by
    conv=>lhs;rw [←List.take_append_drop 3 (ob.cs.drop off),ht]
    rfl
   clear hg
   conv=>whnf
   refine ⟨⟨by decide,by show (0:Int)<((3:Nat):Int);decide⟩,?_⟩
   conv=>whnf
   ((conv in (_[_]?)=>tactic=>exact h1);(conv=>whnf))
   ((conv in (dropN _ _)=>tactic=>exact ((dropN_eq _ _).trans ht2));(conv=>whnf))
   refine cP (c260 _ _) ?_
   conv=>whnf
   refine cP (c260 _ _) ?_
   conv=>whnf
   refine ⟨⟨by decide,by show (1:Int)≤((3:Nat):Int);decide,by show ((3:Nat):Int)≤((3:Nat):Int);decide⟩,fun _=>?_,fun h=>absurd (show (1:Int)<((3:Nat):Int) by decide) h⟩
   conv=>whnf
   ((conv in (_[_]?)=>tactic=>exact h1);(conv=>whnf))
   have hr1:off+cap≤ob.cs.length:=hx.room
   have hr2:3≤cap:=hx.cap
   have hlid:H.length≤lid:=hx.new
   have hlen:H.length≤K.length:=hx.len
   refine ⟨⟨by decide,rfl,rfl,by show off+1+2≤ob.cs.length;omega⟩,fun h4=>?_,fun h4 cap' hc=>?_⟩
   ·have h4:3≤cap - 1:=h4
    refine ⟨by show off+1+3≤ob.cs.length;omega,?_⟩
    conv=>whnf
    refine ⟨⟨i+1,kv+1,lid,off+1,cap - 1,⟨ob.T,setCells (off+1+2) [u32C (spN [k0,k1,k2,k3,k4,k5,k6,k7,k8,k9,ka,kb,kc,kd,ke,kf] (i+1)).d] ob.cs,ob.ver+1⟩,K1.set lid ⟨ob.T,setCells (off+1+2) [u32C (spN [k0,k1,k2,k3,k4,k5,k6,k7,k8,k9,ka,kb,kc,kd,ke,kf] (i+1)).d] ob.cs,ob.ver+1⟩⟩,⟨by show i+1≤27;omega,by rw [List.getElem?_set_ne hx.ne];exact hk1,hx.ne,hx.new,gS h1,slide ob.cs off _ _ _ _ ht2 (by omega) _,?_,by show 3≤cap - 1;omega,by show H.length≤(K1.set lid _).length;rw [List.length_set];omega,fun j hj hjk=>?_⟩,⟨rfl,rfl,rfl,?_,trivial⟩,rfl,by show 27 - (i+1)<27 - i;omega⟩
    ·show off+1+(cap - 1)≤(setCells _ _ _).length
     rw [setCells_len _ _ _ (by show off+1+2+1≤_;omega)];omega
    ·rw [List.getElem?_set_ne (by omega),hK1,List.getElem?_set_ne (Ne.symm hjk)]
     exact hx.fr j hj hjk
    ·show PV.int _ (IntKind.i64.wrap ((i:Int)+1))=PV.int _ _
     rw [w64 (by omega) (by omega)];simp
   ·have hc:3≤cap':=hc
    conv=>whnf
    have ht3:ob.cs.drop (off+1)=u32C (spN [k0,k1,k2,k3,k4,k5,k6,k7,k8,k9,ka,kb,kc,kd,ke,kf] i).c::u32C (spN [k0,k1,k2,k3,k4,k5,k6,k7,k8,k9,ka,kb,kc,kd,ke,kf] i).d::(ob.cs.drop off).drop 3:=by
     rw [←List.drop_drop,ht2];rfl
    have hcell:((ob.cs.drop (off+1)).take 2).map dem=[u32C (spN [k0,k1,k2,k3,k4,k5,k6,k7,k8,k9,ka,kb,kc,kd,ke,kf] i).c,u32C (spN [k0,k1,k2,k3,k4,k5,k6,k7,k8,k9,ka,kb,kc,kd,ke,kf] i).d]:=by rw [ht3];rfl
    refine ⟨⟨i+1,kv+1,K1.length,0,cap',⟨230,((ob.cs.drop (off+1)).take 2).map dem++[u32C (spN [k0,k1,k2,k3,k4,k5,k6,k7,k8,k9,ka,kb,kc,kd,ke,kf] (i+1)).d]++zerosOf [PV.int .u32 0] (cap' - 3),0⟩,K1++[⟨230,((ob.cs.drop (off+1)).take 2).map dem++[u32C (spN [k0,k1,k2,k3,k4,k5,k6,k7,k8,k9,ka,kb,kc,kd,ke,kf] (i+1)).d]++zerosOf [PV.int .u32 0] (cap' - 3),0⟩]⟩,⟨by show i+1≤27;omega,by rw [List.getElem?_append_left (List.getElem?_eq_some_iff.1 hk1).1];exact hk1,by show K1.length≠kid;omega,by show H.length≤K1.length;omega,gL K1 _,?_,?_,hc,by show H.length≤(K1++[_]).length;rw [List.length_append];omega,fun j hj hjk=>?_⟩,⟨rfl,rfl,rfl,?_,trivial⟩,rfl,by show 27 - (i+1)<27 - i;omega⟩
    ·rw [hcell];rfl
    ·show 0+cap'≤(((ob.cs.drop (off+1)).take 2).map dem++[u32C (spN [k0,k1,k2,k3,k4,k5,k6,k7,k8,k9,ka,kb,kc,kd,ke,kf] (i+1)).d]++zerosOf [PV.int .u32 0] (cap' - 3)).length
     rw [hcell,List.length_append,(zerosOf_get (z:=[PV.int .u32 0]) (sz:=1) rfl (by omega) (cap' - 3)).1]
     show 0+cap'≤3+(cap' - 3)*1
     omega
    ·rw [List.getElem?_append_left (by omega),hK1,List.getElem?_set_ne (Ne.symm hjk)]
     exact hx.fr j hj hjk
    ·show PV.int _ (IntKind.i64.wrap ((i:Int)+1))=PV.int _ _
     rw [w64 (by omega) (by omega)];simp
  ·have h:¬(i:Int)<27:=h
   have e:i=27:=by omega
   subst e
   have hspl:spL [k0,k1,k2,k3,k4,k5,k6,k7,k8,k9,ka,kb,kc,kd,ke,kf] l 27=spW [k0,k1,k2,k3,k4,k5,k6,k7,k8,k9,ka,kb,kc,kd,ke,kf]:=by
    unfold spL spW
    rw [List.drop_of_length_le (by omega),List.append_nil]
   rw [hspl] at hKk
   conv=>whnf
   refine cO (c279 (o:=keyO [k0,k1,k2,k3,k4,k5,k6,k7,k8,k9,ka,kb,kc,kd,ke,kf] d m s (spW [k0,k1,k2,k3,k4,k5,k6,k7,k8,k9,ka,kb,kc,kd,ke,kf]) md kv) (n:=md) hKk rfl) ?_
   rintro _ _ ⟨rfl,rfl⟩
   conv=>whnf
   exact ⟨rfl,K,kv,hKk,hx.len,hx.fr,rfl⟩
 | j+17,hj=>exact absurd hj (by omega)
set_option maxHeartbeats 1000000
theorem keyO_flat (k:List UInt8) (d m s:Int) (l:List Int) (md:Int) (v:Nat):∀c∈(keyO k d m s l md v).cs,flatP c=true:=by
 intro c hc
 simp only [keyO,List.mem_append,List.mem_map,List.mem_cons,List.not_mem_nil,or_false] at hc
 rcases hc with ((⟨b,_,rfl⟩ | rfl | rfl | rfl) | ⟨x,_,rfl⟩) | rfl <;> rfl
theorem split_set {H K:PH} {kid:Nat} {o:PObj} (hlt:kid<H.length) (hl:H.length≤K.length) (hf:∀j,j<H.length→j≠kid→K[j]? = H[j]?):K.set kid o=H.set kid o++K.drop H.length:=by
 apply List.ext_getElem?
 intro j
 by_cases h:j<H.length
 ·rw [List.getElem?_append_left (by rw [List.length_set];exact h)]
  by_cases e:j=kid
  ·subst e
   rw [List.getElem?_set_self (by omega),List.getElem?_set_self h]
  ·rw [List.getElem?_set_ne (Ne.symm e),List.getElem?_set_ne (Ne.symm e)]
   exact hf j h e
 ·rw [List.getElem?_append_right (by rw [List.length_set];omega),List.length_set,List.getElem?_drop,List.getElem?_set_ne (by omega)]
  congr 1;omega
theorem c271 (k:List UInt8) (hk:k.length=16) (d m s md:Int) (l:List Int) (hl:l.length=27) (v kid:Nat) (H:PH) (hid:H[kid]? = some (keyO k d m s l md v)) :
  CK prog 271 [.ptr (some (kid,0))] H fun r H'=>r=.tup []∧∃v',H'=H.set kid (keyO k d m s (spW k) 1 v'):=by
 have hlt:kid<H.length:=(List.getElem?_eq_some_iff.1 hid).1
 refine CK.gcK (c271x k hk d m s md l hl v kid H hid) fun r H' hh=>?_
 obtain ⟨rfl,K,kv,h1,h2,h3,rfl⟩:=hh
 exact ⟨rfl,H.set kid (keyO k d m s (spW k) 1 (kv+1)),_,split_set hlt h2 h3,kept_set hlt fun c hc=>.inl (keyO_flat _ _ _ _ _ _ _ c hc),rfl,_,rfl⟩
def WordsOk:Prop:=∀(k:List UInt8) (hk:k.length=16) (kid:Nat) (H:PH),(∃v,H[kid]? = some (keyO k 0 0 0 (List.replicate 27 0) 0 v))∨(∃v,H[kid]? = some (keyO k 1 0 0 (spW k) 1 v)) →
 CK prog 259 [.ptr (some (kid,0))] H fun r H'=>r=.sref kid 19 27 27∧∃v',H'=H.set kid (keyO k 1 0 0 (spW k) 1 v')
def spR (w:Int) (p:Int×Int):Int×Int:=(xor32 (add32 (rot32 p.1 (-8)) p.2) w,xor32 (rot32 p.2 3) (xor32 (add32 (rot32 p.1 (-8)) p.2) w))
def spB (ws:List Int) (p:Int×Int):Int×Int:=ws.foldl (fun p w=>spR w p) p
theorem spB_snoc (ws:List Int) (w:Int) (p:Int×Int):spB (ws++[w]) p=spR w (spB ws p):=by unfold spB;rw [List.foldl_append];rfl
theorem spW_len (k:List UInt8):(spW k).length=27:=by unfold spW;simp
theorem c242 (hw:WordsOk) (k:List UInt8) (hk:k.length=16) (kid:Nat) (H:PH) (h0:(∃v,H[kid]? = some (keyO k 0 0 0 (List.replicate 27 0) 0 v))∨(∃v,H[kid]? = some (keyO k 1 0 0 (spW k) 1 v))) (x y:Int) :
  CK prog 242 [.ptr (some (kid,0)),.int .u32 x,.int .u32 y] H fun r H'=>r=.tup [.int .u32 (spB (spW k) (x,y)).1,.int .u32 (spB (spW k) (x,y)).2]∧∃v',H'=H.set kid (keyO k 1 0 0 (spW k) 1 v'):=by
 have hlt:kid<H.length:=by
  rcases h0 with ⟨v,h⟩ | ⟨v,h⟩ <;> exact (List.getElem?_eq_some_iff.1 h).1
 (refine fnS (imm:=imm242) ttO_ok func242 ?_;(conv=>whnf))
 refine cO (hw k hk kid H h0) ?_
 rintro _ _ ⟨rfl,v',rfl⟩
 have hK:(H.set kid (keyO k 1 0 0 (spW k) 1 v'))[kid]? = some (keyO k 1 0 0 (spW k) 1 v'):=List.getElem?_set_self hlt
 generalize hKK:H.set kid (keyO k 1 0 0 (spW k) 1 v')=K at hK
 conv=>whnf
 refine lO Nat (fun i=>[(13,.sref kid 19 27 27),(14,.int .i64 27),(15,.int .i64 i),(1,.int .u32 (spB ((spW k).take i) (x,y)).1),(2,.int .u32 (spB ((spW k).take i) (x,y)).2)]) (fun _=>K) (fun i=>i≤27) (fun i=>27 - i) ⟨0,Nat.zero_le _,⟨rfl,rfl,rfl,rfl,rfl,trivial⟩,rfl⟩ ?_
 intro i hi
 conv=>whnf
 refine ⟨fun h=>?_,fun h=>?_⟩
 ·have h:(i:Int)<27:=h
  have hi':i<(spW k).length:=by rw [spW_len];omega
  conv=>whnf
  refine ⟨⟨by omega,by show (i:Int)<((27:Nat):Int);exact h⟩,?_⟩
  conv=>whnf
  ((conv in (_[_]?)=>tactic=>exact hK);(conv=>whnf))
  have hd:dropN (19+(i:Int).toNat*1) (keyO k 1 0 0 (spW k) 1 v').cs=u32C (spW k)[i]::(((spW k).drop (i+1)).map u32C++[u32C 1]):=by
   rw [dropN_eq]
   show ((k.map bC++[PV.int .u32 1,PV.int .i32 0,PV.int .u32 0])++(spW k).map u32C++[PV.int .u32 1]).drop _=_
   have e:19+(i:Int).toNat*1=(k.map bC++[PV.int .u32 1,PV.int .i32 0,PV.int .u32 0]).length+i:=by simp [hk]
   rw [e,List.append_assoc,List.drop_length_add_append,List.drop_append_of_le_length (by rw [List.length_map];omega),←List.map_drop,List.drop_eq_getElem_cons hi']
   rfl
  ((conv in (dropN _ _)=>tactic=>exact hd);(conv=>whnf))
  refine cP (c260 _ _) ?_
  conv=>whnf
  refine cP (c260 _ _) ?_
  conv=>whnf
  have et:spB ((spW k).take (i+1)) (x,y)=spR (spW k)[i] (spB ((spW k).take i) (x,y)):=by rw [List.take_succ_eq_append_getElem hi',spB_snoc]
  refine ⟨i+1,by omega,⟨rfl,rfl,?_,?_,?_,trivial⟩,rfl,by omega⟩
  ·show PV.int _ (IntKind.i64.wrap ((i:Int)+1))=PV.int _ _
   rw [w64 (by omega) (by omega)];simp
  ·rw [et];rfl
  ·rw [et];rfl
 ·have h:¬(i:Int)<27:=h
  have e:(spW k).take i=spW k:=List.take_of_length_le (by rw [spW_len];omega)
  rw [e]
  conv=>whnf
  exact ⟨rfl,v',hKK.symm⟩
def KeySt (k:List UInt8) (o:PObj):Prop:=(∃v,o=keyO k 0 0 0 (List.replicate 27 0) 0 v)∨(∃v,o=keyO k 1 0 0 (spW k) 1 v)
theorem KeySt.flat {k:List UInt8} {o:PObj} (h:KeySt k o):o.cs.all flatP=true:=by
 rcases h with ⟨v,rfl⟩ | ⟨v,rfl⟩ <;> exact List.all_eq_true.2 fun c hc=>keyO_flat _ _ _ _ _ _ _ c hc
def le4 (w:Int):List UInt8:=[byteI w,byteI (ishr .u32 w 8),byteI (ishr .u32 w 16),byteI (ishr .u32 w 24)]
def blkP (k:List UInt8) (nn:Int) (i:Nat):Int×Int:=spB (spW k) (IntKind.u32.wrap (ishr .u64 nn 32),add32 (IntKind.u32.wrap nn) i)
def strN (k:List UInt8) (nn:Int):Nat→List UInt8
 | 0=>[]
 | i+1=>strN k nn i++(le4 (blkP k nn i).1++le4 (blkP k nn i).2)
theorem strN_len (k:List UInt8) (nn:Int):∀i,(strN k nn i).length=8*i
 | 0=>rfl
 | i+1=>by
  show (strN k nn i++(le4 _++le4 _)).length=_
  rw [List.length_append,strN_len k nn i]
  show 8*i+8=_
  omega
def streamV (k:List UInt8) (nn:Int) (n:Nat):List UInt8:=(strN k nn ((n+7) / 8)).take n
theorem streamV_len (k:List UInt8) (nn:Int) (n:Nat):(streamV k nn n).length=n:=by
 unfold streamV
 rw [List.length_take,strN_len];omega
theorem le4_cells (w:Int):[PV.int .u8 (IntKind.u8.wrap w),.int .u8 (IntKind.u8.wrap (ishr .u32 w 8)),.int .u8 (IntKind.u8.wrap (ishr .u32 w 16)),.int .u8 (IntKind.u8.wrap (ishr .u32 w 24))]=(le4 w).map bC:=by
 rw [byteC_I,byteC_I,byteC_I,byteC_I];rfl
theorem ow_app' (a b:List UInt8) {n:Nat} (hn:n=b.length):PV.slice (a.length+n) (a.map bC++b.map bC) (some 5)=ow (a++b):=by subst hn;exact ow_app a b
structure StS where
 i:Nat
 o:PObj
theorem wrap32 {n:Nat} (h:n<4294967296):IntKind.u32.wrap (n:Int)=(n:Int):=by
 show (n:Int) % _=_
 have:(2 ^ IntKind.u32.bits:Int)=4294967296:=by decide
 rw [this];omega
set_option maxHeartbeats 1600000
open Go
theorem mDisable (w:World):(callFunc 293 #[]).run prog w=.ok (.value (.tuple #[])) w:=run_call_mark0 func293 (by kernel_rfl) (by kernel_rfl) (by kernel_rfl) .disable (by kernel_rfl) w
theorem mEnable (w:World):(callFunc 295 #[]).run prog w=.ok (.value (.tuple #[])) w:=run_call_mark0 func295 (by kernel_rfl) (by kernel_rfl) (by kernel_rfl) .enable (by kernel_rfl) w
theorem mAcquire (a:Addr) (w:World):(callFunc 296 #[.pointer (some a)]).run prog w=.ok (.value (.tuple #[])) w:=run_call_marked func296 (by kernel_rfl) (by kernel_rfl) (by kernel_rfl) .acquire (by kernel_rfl) a w
theorem mRelease (a:Addr) (w:World):(callFunc 298 #[.pointer (some a)]).run prog w=.ok (.value (.tuple #[])) w:=run_call_marked func298 (by kernel_rfl) (by kernel_rfl) (by kernel_rfl) .releaseMerge (by kernel_rfl) a w
theorem lock_free (a:Addr) (w:World) (hc:w.cell? a=some (.int .i32 0)) (hz:w.frozen? a=false) :
  Calls prog 285 #[.pointer (some a)] w fun e w'=>e=.returned (.tuple #[])∧w'=w.setCell a (.int .i32 1):=by
 have hd:=mDisable
 have he:=mEnable
 have ha:=mAcquire
 have hcas:=run_call_cas_hit (P:=prog) func294 (by kernel_rfl) (by kernel_rfl) (by kernel_rfl) .i32 (by kernel_rfl) (y:=1) hc hz
 have hc':(w.setCell a (.int .i32 1)).cell? a=some (.int .i32 1):=World.cell?_setCell_same w a _ hc
 have hcv:=run_convert_to_unsafe (P:=prog) (src:=373) (dst:=370) underlying373 underlying370 (by kernel_rfl) hc'
 go_enter func285,ntmps285
 go_wp2
 first | go_end0 | (simp only [Exit.inBlock,Exit.then];refine bodyPost_ret (results_none rfl _ _ _) rfl ?_) | refine bodyPost_ret (results_none rfl _ _ _) rfl ?_
 go_wp2
 go_end0
 exact ⟨rfl,rfl⟩
theorem unlock_deferred (a:Addr) (u:FrameMode) (w:World) (hc:w.cell? a=some (.int .i32 1)) (hz:w.frozen? a=false) :
  CallsD prog 286 #[.pointer (some a)] u w fun e u' w'=>u'=u∧(e=.returned (.tuple #[])∧w'=w.setCell a (.int .i32 0)):=by
 have hd:=mDisable
 have he:=mEnable
 have hr:=mRelease
 have hadd:=run_call_add (P:=prog) func299 (by kernel_rfl) (by kernel_rfl) (by kernel_rfl) .i32 (by kernel_rfl) (y:=-1) (s:=0) hc hz (by simp [go_sem];rfl)
 have hcv:=run_convert_to_unsafe (P:=prog) (src:=373) (dst:=370) underlying373 underlying370 (by kernel_rfl) hc
 go_enter_d func286,ntmps286
 go_wp2
 go_end0
 go_wp2
 go_end0
 exact ⟨rfl,rfl⟩
set_option maxHeartbeats 3000000
open Go Ps
theorem c207D {H:PH} {id off:Nat} {o:PObj} {n:Int} (ho:H[id]? = some o) (hc:o.cs[off]? = some (.int .u32 n)) :
  CallDOk prog 279 [.ptr (some (id,off)),.bool true] H fun r H'=>r=.tup []∧H'=H.set id ⟨o.T,setCells off [.int .u32 1] o.cs,o.ver+1⟩:=by
 refine callDOk_of_pFun2 (tt:=ttO) (imm:=imm279) follows ttO_ok depth6 func279 (by kernel_rfl) ?_
 conv=>whnf
 refine dO2 D279 [H,H.set id ⟨o.T,setCells off [.int .u32 1] o.cs,o.ver+1⟩] (by kernel_rfl) rfl trivial ?_
 conv=>whnf
 iterate 4 (refine dS ?_;(conv=>whnf))
 refine ⟨_,cP c288 ⟨rfl,rfl,trivial⟩,?_⟩
 conv=>whnf
 refine ⟨_,cO (c287 1 ho hc) (by rintro _ _ ⟨rfl,rfl⟩;exact ⟨rfl,rfl,trivial⟩),?_⟩
 conv=>whnf
 exact ⟨rfl,rfl⟩
theorem keyO_at (k:List UInt8) (hk:k.length=16) (d m s:Int) (l:List Int) (md:Int) (v:Nat):(keyO k d m s l md v).cs[16]? = some (.int .u32 d)∧(keyO k d m s l md v).cs[17]? = some (.int .i32 m):=by
 obtain ⟨k0,k1,k2,k3,k4,k5,k6,k7,k8,k9,ka,kb,kc,kd,ke,kf,rfl⟩:=len16 hk
 exact ⟨rfl,rfl⟩
theorem keyO_set16 (k:List UInt8) (hk:k.length=16) (d m s:Int) (l:List Int) (md:Int) (v:Nat) (x:Int):setCells 16 [.int .u32 x] (keyO k d m s l md v).cs=(keyO k x m s l md v).cs:=by
 obtain ⟨k0,k1,k2,k3,k4,k5,k6,k7,k8,k9,ka,kb,kc,kd,ke,kf,rfl⟩:=len16 hk
 rfl
theorem keyO_set17 (k:List UInt8) (hk:k.length=16) (d m s:Int) (l:List Int) (md:Int) (v:Nat) (x:Int):setCells 17 [.int .i32 x] (keyO k d m s l md v).cs=(keyO k d x s l md v).cs:=by
 obtain ⟨k0,k1,k2,k3,k4,k5,k6,k7,k8,k9,ka,kb,kc,kd,ke,kf,rfl⟩:=len16 hk
 rfl
theorem load_none (a:Addr) (w:World) (hc:w.cell? a=some (.int .u32 0)) :
  Calls prog 277 #[.pointer (some a)] w fun e w'=>e=.returned (.bool false)∧w'=w:=by
 have hl:=run_call_load (P:=prog) func284 (by kernel_rfl) (by kernel_rfl) (by kernel_rfl) .u32 (by kernel_rfl) (w:=w) (a:=a) (x:=0) hc
 go_enter func277,ntmps277
 go_wp2
 exact ⟨rfl,.bool false,by simp [results,f205,go_sem,Act.eval],rfl,rfl⟩
theorem c278 (k:List UInt8) (hk:k.length=16) (kid v:Nat) (H:PH) (hid:H[kid]? = some (keyO k 0 0 0 (List.replicate 27 0) 0 v)) :
  CK prog 278 [.ptr (some (kid,16)),.func 271 [.ptr (some (kid,0))] []] H fun r H'=>r=.tup []∧∃v',H'=H.set kid (keyO k 1 0 0 (spW k) 1 v'):=by
 intro g w vs hs hr
 obtain ⟨a,y,rfl,ha,hy⟩:=args2 hs hr.e
 obtain ⟨b,rfl,hι,hkd⟩:=(plain_of ha (by simp) (by simp)).inv_ptr
 obtain ⟨first,caps,rfl,e2,e3,e4,e5⟩:=(plain_of hy (by simp) (by simp)).inv_func
 have st0:=St.start hr
 obtain ⟨b1,q1,hd1,fd1,_⟩:=cell_at hr.h ha hid (keyO_at k hk 0 0 0 _ 0 v).1
 cases q1
 obtain ⟨b2,q2,hm1,fm1,hset1⟩:=cell_at hr.h ((V.ptr kid b 17 hι hkd).vc) hid (keyO_at k hk 0 0 0 _ 0 v).2
 cases q2
 have st1:St prog g w H g (w.setCell ⟨b,17,none⟩ (.int .i32 1)) _:=hset1 1 _ _ _ st0
 rw [keyO_set17 k hk] at st1
 obtain ⟨p,rfl⟩:∃p,first=#[p]:=by
  match first,e2 with
  | ⟨[p]⟩,_=>exact ⟨p,rfl⟩
 obtain rfl:caps=#[]:=Array.eq_empty_of_size_eq_zero e3
 have hp:V g w p (.ptr (some (kid,0))):=e4 0 _ rfl
 obtain ⟨b3,rfl,hι3,_⟩:=hp.inv_ptr
 rw [hι] at hι3
 cases hι3
 refine .inl ⟨run_callFunc_body func278 (by kernel_rfl) (by kernel_rfl),?_⟩
 have hd1':(w.setCell ⟨b,17,none⟩ (.int .i32 1)).cell? ⟨b,16,none⟩=some (.int .u32 0):=(World.cell?_setCell_other _ ⟨b,17,none⟩ ⟨b,16,none⟩ _ (by simp)).trans hd1
 have hid1:(H.set kid ⟨(keyO k 0 0 0 (List.replicate 27 0) 0 v).T,(keyO k 0 1 0 (List.replicate 27 0) 0 v).cs,(keyO k 0 0 0 (List.replicate 27 0) 0 v).ver+1⟩)[kid]? = some (keyO k 0 1 0 (List.replicate 27 0) 0 (v+1)):=gS hid
 have hmake:=St.call st1 func271 (by kernel_rfl) (by kernel_rfl) (c271 k hk 0 1 0 0 (List.replicate 27 0) rfl (v+1) kid _ hid1) (vs:=#[.pointer (some ⟨b,0,none⟩)]) rfl (fun j c hj=>by
  match j,hj with
  | 0,hj=>cases hj;exact .ptr kid b 0 hι (cell_kind hd1')
  | j+1,hj=>simp at hj)
 have hnot:∀(x:Bool) (w:World),(Op.unary .not (.bool x)).run prog w=.ok (.bool (!x)) w:=fun _ _=>rfl
 go_enter_defers func278,ntmps278
 go_wp2_with (go_at_call 285;refine (lock_free ⟨b,17,none⟩ _ hm1 fm1).mono ?_;rintro e w' ⟨rfl,rfl⟩)
 refine (load_none ⟨b,16,none⟩ _ hd1').mono ?_
 rintro e w' ⟨rfl,rfl⟩
 go_wp2_with (go_at_call 271;refine hmake.mono ?_;rintro e w' ⟨v',r,H2,g2,rfl,⟨rfl,v2,rfl⟩,st2,kp,hv2⟩)
 have hidk:((H.set kid ⟨(keyO k 0 0 0 (List.replicate 27 0) 0 v).T,(keyO k 0 1 0 (List.replicate 27 0) 0 v).cs,(keyO k 0 0 0 (List.replicate 27 0) 0 v).ver+1⟩).set kid (keyO k 0 1 0 (spW k) 1 v2))[kid]? = some (keyO k 0 1 0 (spW k) 1 v2):=gS hid1
 have hι2:g2.ι[kid]? = some (some b):=kp.ι kid b hι
 have hk2:=(kp.kind kid b hι).trans (cell_kind hd1')
 obtain ⟨hinv,hstore⟩:=St.callD st2 (c207D hidk (keyO_at k hk 0 1 0 (spW k) 1 v2).1) (vs:=#[.pointer (some ⟨b,16,none⟩),.bool true]) .returning rfl (fun j c hj=>by
  match j,hj with
  | 0,hj=>cases hj;exact .ptr kid b 16 hι2 hk2
  | 1,hj=>cases hj;exact .bool true
  | j+2,hj=>simp at hj)
 show Leaves prog f278 _ _ _ .returning w'
 refine leaves_cons (f:=279) (args:=#[.pointer (some ⟨b,16,none⟩),.bool true]) (by simp) (by simp [invoke,hinv]) ?_
 refine hstore.mono ?_
 rintro e u' w3 ⟨rfl,v3,r3,H3,g3,rfl,⟨rfl,rfl⟩,st3,kp3⟩
 rw [keyO_set16 k hk] at st3
 have hid3:=gS (o':=⟨(keyO k 0 1 0 (spW k) 1 v2).T,(keyO k 1 1 0 (spW k) 1 v2).cs,(keyO k 0 1 0 (spW k) 1 v2).ver+1⟩) hidk
 have hι3:g3.ι[kid]? = some (some b):=kp3.ι kid b hι2
 obtain ⟨b5,q5,hm3,fm3,hset3⟩:=cell_at st3.rel.h ((V.ptr kid b 17 hι3 ((kp3.kind kid b hι2).trans hk2)).vc) hid3 (keyO_at k hk 1 1 0 (spW k) 1 v2).2
 cases q5
 have st4:St prog g w H g3 (w3.setCell ⟨b,17,none⟩ (.int .i32 0)) _:=hset3 0 _ _ _ st3
 rw [show setCells 17 [PV.int .i32 0] (PObj.mk (keyO k 0 1 0 (spW k) 1 v2).T (keyO k 1 1 0 (spW k) 1 v2).cs ((keyO k 0 1 0 (spW k) 1 v2).ver+1)).cs=(keyO k 1 0 0 (spW k) 1 v2).cs from keyO_set17 k hk 1 1 0 (spW k) 1 v2 0] at st4
 refine leaves_cons (f:=286) (args:=#[.pointer (some ⟨b,17,none⟩)]) (by simp [settle]) (by
  have:=run_callFunc_body (P:=prog) (vs:=#[.pointer (some ⟨b,17,none⟩)]) (w:=w3) func286 (by kernel_rfl) (by kernel_rfl)
  simp [invoke,this]) ?_
 refine (unlock_deferred ⟨b,17,none⟩ _ _ hm3 fm3).mono ?_
 rintro e u' w4 ⟨rfl,rfl,rfl⟩
 obtain ⟨f1,f2,f3,f4⟩:=st4.fin
 refine ⟨.tuple #[],results_none rfl _ _ _,.tuple #[],.tup [],_,g3,rfl,⟨rfl,v2+1+1,?_⟩,f1,f2,f3,f4⟩
 rw [List.set_set,List.set_set,List.set_set]
 rfl
set_option maxHeartbeats 1000000
theorem c284 {H:PH} {id off:Nat} {o:PObj} {n:Int} (ho:H[id]? = some o) (hc:o.cs[off]? = some (.int .u32 n)) :
  CK prog 284 [.ptr (some (id,off))] H fun r H'=>r=.int .u32 n∧H'=H :=
 callOk_load func284 (by kernel_rfl) (by kernel_rfl) (by kernel_rfl) .u32 (by kernel_rfl) ho hc
theorem c277 {H:PH} {id off:Nat} {o:PObj} {n:Int} (ho:H[id]? = some o) (hc:o.cs[off]? = some (.int .u32 n)) :
  CK prog 277 [.ptr (some (id,off))] H fun r H'=>r=.bool (!decide (n=0))∧H'=H:=by
 (refine fnS (imm:=imm277) ttO_ok func277 ?_;(conv=>whnf))
 refine cO (c284 ho hc) ?_
 rintro _ _ ⟨rfl,rfl⟩
 conv=>whnf
 refine ⟨fun h=>?_,fun h=>?_⟩
 ·conv=>whnf
  have h:n=0:=h
  exact ⟨congrArg PV.bool (by rw [decide_eq_true h];rfl),rfl⟩
 ·conv=>whnf
  have h:¬n=0:=h
  exact ⟨congrArg PV.bool (by rw [decide_eq_false h];rfl),rfl⟩
theorem c270a (k:List UInt8) (hk:k.length=16) (kid v:Nat) (H:PH) (hid:H[kid]? = some (keyO k 0 0 0 (List.replicate 27 0) 0 v)) :
  CK prog 270 [.ptr (some (kid,16)),.func 271 [.ptr (some (kid,0))] []] H fun r H'=>r=.tup []∧∃v',H'=H.set kid (keyO k 1 0 0 (spW k) 1 v'):=by
 (refine fnS (imm:=imm270) ttO_ok func270 ?_;(conv=>whnf))
 refine cO (c277 hid (keyO_at k hk 0 0 0 _ 0 v).1) ?_
 rintro _ _ ⟨rfl,rfl⟩
 conv=>whnf
 refine cO (c278 k hk kid v _ hid) ?_
 rintro _ _ ⟨rfl,v',rfl⟩
 conv=>whnf
 exact ⟨rfl,v',rfl⟩
theorem c270b (k:List UInt8) (hk:k.length=16) (kid v:Nat) (H:PH) (hid:H[kid]? = some (keyO k 1 0 0 (spW k) 1 v)) :
  CK prog 270 [.ptr (some (kid,16)),.func 271 [.ptr (some (kid,0))] []] H fun r H'=>r=.tup []∧∃v',H'=H.set kid (keyO k 1 0 0 (spW k) 1 v'):=by
 (refine fnS (imm:=imm270) ttO_ok func270 ?_;(conv=>whnf))
 refine cO (c277 hid (keyO_at k hk 1 0 0 _ 1 v).1) ?_
 rintro _ _ ⟨rfl,rfl⟩
 conv=>whnf
 exact ⟨rfl,v,(set_self hid).symm⟩
theorem wordsOk:WordsOk:=by
 intro k hk kid H h0
 have hlt:kid<H.length:=by
  rcases h0 with ⟨v,h⟩ | ⟨v,h⟩ <;> exact (List.getElem?_eq_some_iff.1 h).1
 have hc:CK prog 270 [.ptr (some (kid,16)),.func 271 [.ptr (some (kid,0))] []] H fun r H'=>r=.tup []∧∃v',H'=H.set kid (keyO k 1 0 0 (spW k) 1 v'):=by
  rcases h0 with ⟨v,h⟩ | ⟨v,h⟩
  ·exact c270a k hk kid v H h
  ·exact c270b k hk kid v H h
 (refine fnS (imm:=imm259) ttO_ok func259 ?_;(conv=>whnf))
 refine cO hc ?_
 rintro _ _ ⟨rfl,v',rfl⟩
 conv=>whnf
 refine ⟨by decide,fun _=>?_,fun h=>absurd (show (0:Int)<((27:Nat):Int) by decide) h⟩
 conv=>whnf
 exact ⟨rfl,v',rfl⟩
set_option maxHeartbeats 2000000
def openB (sp:List UInt8) (u:Int) (b:List UInt8):Bool:=decide (16≤b.length)&&decide (b.length≤800)&&decide (beN (b.take 8)≤1099511627776)&&decide (tagV sp u (b.take (b.length - 8))=b.drop (b.length - 8))
def ttQ3:TT:=[(3,⟨.int .i64,1,8,[.int .i64 0]⟩),(5,⟨.int .u8,1,1,[.int .u8 0]⟩),(22,⟨.slice 5,1,24,[.slice 0 [] (some 5)]⟩),(215,⟨.arr 16 5,16,16,List.replicate 16 (.int .u8 0)⟩),(173,⟨.int .u64,1,8,[.int .u64 0]⟩),(94,⟨.int .u64,1,8,[.int .u64 0]⟩),(272,⟨.ptr,1,8,[.ptr none]⟩),(274,⟨.arr 4 173,4,32,[.int .u64 0,.int .u64 0,.int .u64 0,.int .u64 0]⟩)]
theorem ttQ3_ok:ttOk prog ttQ3=true:=by kernel_rfl
def imm198:List Nat:=[]
def imm156:List Nat:=[]
def imm155:List Nat:=[]
def imm154:List Nat:=[]
def imm126:List Nat:=[2]
def rotR (x n:Int):Int:=ibits .or .u64 (ishl .u64 x n) (ishr .u64 x (IntKind.u64.wrap (64 - n)))
theorem c198 (x n:Int) (hn:0≤n):Pure prog 198 [.int .u64 x,.int .u64 n] (.int .u64 (rotR x n)):=by
 intro H
 (refine fnS (imm:=imm198) ttQ3_ok func198 ?_;(conv=>whnf))
 refine ⟨hn,?_⟩
 conv=>whnf
 refine ⟨u64_nonneg _,?_⟩
 conv=>whnf
 exact ⟨rfl,rfl⟩
theorem rot13 (x:Int):rotR x 13=rotC x 13:=by unfold rotC;rw [show rotS 13=13 by decide];rfl
theorem rot32' (x:Int):rotR x 32=rotC x 32:=by unfold rotC;rw [show rotS 32=32 by decide];rfl
theorem rot16 (x:Int):rotR x 16=rotC x 16:=by unfold rotC;rw [show rotS 16=16 by decide];rfl
theorem rot21 (x:Int):rotR x 21=rotC x 21:=by unfold rotC;rw [show rotS 21=21 by decide];rfl
theorem rot17 (x:Int):rotR x 17=rotC x 17:=by unfold rotC;rw [show rotS 17=17 by decide];rfl
def S4.Q (s:S4) (v:Nat):PObj:=⟨274,[.int .u64 s.a,.int .u64 s.b,.int .u64 s.c,.int .u64 s.d],v⟩
theorem S4.lookQ (s:S4) (v:Nat) {id:Nat} {H:PH} {o:PObj} (h:H[id]? = some o):(H.set id (s.Q v))[id]? = some ⟨274,[.int .u64 s.a,.int .u64 s.b,.int .u64 s.c,.int .u64 s.d],v⟩:=gS h
def D156_0:Draw:={ imp:=[12],win:=[] }
def D156_1:Draw:={ imp:=[13],win:=[] }
def D156_2:Draw:={ imp:=[8],win:=[] }
def D156_3:Draw:={ imp:=[12],win:=[] }
def D156_4:Draw:={ imp:=[13],win:=[] }
def D156_5:Draw:={ imp:=[12],win:=[] }
def D156_6:Draw:={ imp:=[13],win:=[] }
def D156_7:Draw:={ imp:=[12],win:=[] }
def D156_8:Draw:={ imp:=[13],win:=[] }
def D156_9:Draw:={ imp:=[8],win:=[] }
theorem c156 (z0:S4) (id w:Nat) (H:PH) (hid:H[id]? = some (z0.Q w)) :
  CK prog 156 [.ptr (some (id,0))] H fun r H'=>r=.tup []∧∃v',H'=H.set id (z0.rnd.Q v'):=by
 (refine fnS (imm:=imm156) ttQ3_ok func156 ?_;(conv=>whnf))
 refine dO2 D156_0 [H,H.set id (z0.s0.Q (w+1))] (by kernel_rfl) rfl trivial ?_
 conv=>whnf
 iterate 4 (refine dS ?_;(conv=>whnf))
 apply Exists.intro
 apply And.intro
 ·conv=>whnf
  ((conv in (_[_]?)=>tactic=>exact (show H[id]? = some ⟨274,[.int .u64 z0.a,.int .u64 z0.b,.int .u64 z0.c,.int .u64 z0.d],w⟩ from hid));(conv=>whnf))
  exact ⟨rfl,rfl,trivial⟩
 conv=>whnf
 iterate 3 (refine dS ?_;(conv=>whnf))
 apply Exists.intro
 apply And.intro
 ·conv=>whnf
  ((conv in (_[_]?)=>tactic=>exact (show H[id]? = some ⟨274,[.int .u64 z0.a,.int .u64 z0.b,.int .u64 z0.c,.int .u64 z0.d],w⟩ from hid));(conv=>whnf))
  exact ⟨rfl,rfl,trivial⟩
 conv=>whnf
 iterate 3 (refine dS ?_;(conv=>whnf))
 apply Exists.intro
 apply And.intro
 ·conv=>whnf
  ((conv in (_[_]?)=>tactic=>exact (show H[id]? = some ⟨274,[.int .u64 z0.a,.int .u64 z0.b,.int .u64 z0.c,.int .u64 z0.d],w⟩ from hid));(conv=>whnf))
  exact ⟨rfl,rfl,trivial⟩
 conv=>whnf
 generalize hs1:S4.s0 z0=z1
 refine dO2 D156_1 [H.set id (z1.Q (w+1)),H.set id (z1.s1.Q (w+2))] (by kernel_rfl) rfl trivial ?_
 conv=>whnf
 iterate 4 (refine dS ?_;(conv=>whnf))
 apply Exists.intro
 apply And.intro
 ·conv=>whnf
  ((conv in (_[_]?)=>tactic=>exact (z1.lookQ (w+1) hid));(conv=>whnf))
  exact ⟨rfl,rfl,trivial⟩
 conv=>whnf
 refine ⟨_,cP ((c198 _ 13 (by decide)).of_eq (congrArg _ (rot13 _))) ⟨rfl,rfl,trivial⟩,?_⟩
 conv=>whnf
 iterate 3 (refine dS ?_;(conv=>whnf))
 apply Exists.intro
 apply And.intro
 ·conv=>whnf
  ((conv in (_[_]?)=>tactic=>exact (z1.lookQ (w+1) hid));(conv=>whnf))
  exact ⟨rfl,rfl,trivial⟩
 conv=>whnf
 iterate 3 (refine dS ?_;(conv=>whnf))
 apply Exists.intro
 apply And.intro
 ·conv=>whnf
  ((conv in (_[_]?)=>tactic=>exact (z1.lookQ (w+1) hid));(conv=>whnf))
  exact ⟨rfl,List.set_set ..,trivial⟩
 conv=>whnf
 generalize hs2:S4.s1 z1=z2
 refine dO2 D156_2 [H.set id (z2.Q (w+2)),H.set id (z2.s2.Q (w+3))] (by kernel_rfl) rfl trivial ?_
 conv=>whnf
 iterate 4 (refine dS ?_;(conv=>whnf))
 apply Exists.intro
 apply And.intro
 ·conv=>whnf
  ((conv in (_[_]?)=>tactic=>exact (z2.lookQ (w+2) hid));(conv=>whnf))
  exact ⟨rfl,rfl,trivial⟩
 conv=>whnf
 refine ⟨_,cP ((c198 _ 32 (by decide)).of_eq (congrArg _ (rot32' _))) ⟨rfl,rfl,trivial⟩,?_⟩
 conv=>whnf
 iterate 2 (refine dS ?_;(conv=>whnf))
 apply Exists.intro
 apply And.intro
 ·conv=>whnf
  ((conv in (_[_]?)=>tactic=>exact (z2.lookQ (w+2) hid));(conv=>whnf))
  exact ⟨rfl,List.set_set ..,trivial⟩
 conv=>whnf
 generalize hs3:S4.s2 z2=z3
 refine dO2 D156_3 [H.set id (z3.Q (w+3)),H.set id (z3.s3.Q (w+4))] (by kernel_rfl) rfl trivial ?_
 conv=>whnf
 iterate 4 (refine dS ?_;(conv=>whnf))
 apply Exists.intro
 apply And.intro
 ·conv=>whnf
  ((conv in (_[_]?)=>tactic=>exact (z3.lookQ (w+3) hid));(conv=>whnf))
  exact ⟨rfl,rfl,trivial⟩
 conv=>whnf
 iterate 3 (refine dS ?_;(conv=>whnf))
 apply Exists.intro
 apply And.intro
 ·conv=>whnf
  ((conv in (_[_]?)=>tactic=>exact (z3.lookQ (w+3) hid));(conv=>whnf))
  exact ⟨rfl,rfl,trivial⟩
 conv=>whnf
 iterate 3 (refine dS ?_;(conv=>whnf))
 apply Exists.intro
 apply And.intro
 ·conv=>whnf
  ((conv in (_[_]?)=>tactic=>exact (z3.lookQ (w+3) hid));(conv=>whnf))
  exact ⟨rfl,List.set_set ..,trivial⟩
 conv=>whnf
 generalize hs4:S4.s3 z3=z4
 refine dO2 D156_4 [H.set id (z4.Q (w+4)),H.set id (z4.s4.Q (w+5))] (by kernel_rfl) rfl trivial ?_
 conv=>whnf
 iterate 4 (refine dS ?_;(conv=>whnf))
 apply Exists.intro
 apply And.intro
 ·conv=>whnf
  ((conv in (_[_]?)=>tactic=>exact (z4.lookQ (w+4) hid));(conv=>whnf))
  exact ⟨rfl,rfl,trivial⟩
 conv=>whnf
 refine ⟨_,cP ((c198 _ 16 (by decide)).of_eq (congrArg _ (rot16 _))) ⟨rfl,rfl,trivial⟩,?_⟩
 conv=>whnf
 iterate 3 (refine dS ?_;(conv=>whnf))
 apply Exists.intro
 apply And.intro
 ·conv=>whnf
  ((conv in (_[_]?)=>tactic=>exact (z4.lookQ (w+4) hid));(conv=>whnf))
  exact ⟨rfl,rfl,trivial⟩
 conv=>whnf
 iterate 3 (refine dS ?_;(conv=>whnf))
 apply Exists.intro
 apply And.intro
 ·conv=>whnf
  ((conv in (_[_]?)=>tactic=>exact (z4.lookQ (w+4) hid));(conv=>whnf))
  exact ⟨rfl,List.set_set ..,trivial⟩
 conv=>whnf
 generalize hs5:S4.s4 z4=z5
 refine dO2 D156_5 [H.set id (z5.Q (w+5)),H.set id (z5.s5.Q (w+6))] (by kernel_rfl) rfl trivial ?_
 conv=>whnf
 iterate 4 (refine dS ?_;(conv=>whnf))
 apply Exists.intro
 apply And.intro
 ·conv=>whnf
  ((conv in (_[_]?)=>tactic=>exact (z5.lookQ (w+5) hid));(conv=>whnf))
  exact ⟨rfl,rfl,trivial⟩
 conv=>whnf
 iterate 3 (refine dS ?_;(conv=>whnf))
 apply Exists.intro
 apply And.intro
 ·conv=>whnf
  ((conv in (_[_]?)=>tactic=>exact (z5.lookQ (w+5) hid));(conv=>whnf))
  exact ⟨rfl,rfl,trivial⟩
 conv=>whnf
 iterate 3 (refine dS ?_;(conv=>whnf))
 apply Exists.intro
 apply And.intro
 ·conv=>whnf
  ((conv in (_[_]?)=>tactic=>exact (z5.lookQ (w+5) hid));(conv=>whnf))
  exact ⟨rfl,List.set_set ..,trivial⟩
 conv=>whnf
 generalize hs6:S4.s5 z5=z6
 refine dO2 D156_6 [H.set id (z6.Q (w+6)),H.set id (z6.s6.Q (w+7))] (by kernel_rfl) rfl trivial ?_
 conv=>whnf
 iterate 4 (refine dS ?_;(conv=>whnf))
 apply Exists.intro
 apply And.intro
 ·conv=>whnf
  ((conv in (_[_]?)=>tactic=>exact (z6.lookQ (w+6) hid));(conv=>whnf))
  exact ⟨rfl,rfl,trivial⟩
 conv=>whnf
 refine ⟨_,cP ((c198 _ 21 (by decide)).of_eq (congrArg _ (rot21 _))) ⟨rfl,rfl,trivial⟩,?_⟩
 conv=>whnf
 iterate 3 (refine dS ?_;(conv=>whnf))
 apply Exists.intro
 apply And.intro
 ·conv=>whnf
  ((conv in (_[_]?)=>tactic=>exact (z6.lookQ (w+6) hid));(conv=>whnf))
  exact ⟨rfl,rfl,trivial⟩
 conv=>whnf
 iterate 3 (refine dS ?_;(conv=>whnf))
 apply Exists.intro
 apply And.intro
 ·conv=>whnf
  ((conv in (_[_]?)=>tactic=>exact (z6.lookQ (w+6) hid));(conv=>whnf))
  exact ⟨rfl,List.set_set ..,trivial⟩
 conv=>whnf
 generalize hs7:S4.s6 z6=z7
 refine dO2 D156_7 [H.set id (z7.Q (w+7)),H.set id (z7.s7.Q (w+8))] (by kernel_rfl) rfl trivial ?_
 conv=>whnf
 iterate 4 (refine dS ?_;(conv=>whnf))
 apply Exists.intro
 apply And.intro
 ·conv=>whnf
  ((conv in (_[_]?)=>tactic=>exact (z7.lookQ (w+7) hid));(conv=>whnf))
  exact ⟨rfl,rfl,trivial⟩
 conv=>whnf
 iterate 3 (refine dS ?_;(conv=>whnf))
 apply Exists.intro
 apply And.intro
 ·conv=>whnf
  ((conv in (_[_]?)=>tactic=>exact (z7.lookQ (w+7) hid));(conv=>whnf))
  exact ⟨rfl,rfl,trivial⟩
 conv=>whnf
 iterate 3 (refine dS ?_;(conv=>whnf))
 apply Exists.intro
 apply And.intro
 ·conv=>whnf
  ((conv in (_[_]?)=>tactic=>exact (z7.lookQ (w+7) hid));(conv=>whnf))
  exact ⟨rfl,List.set_set ..,trivial⟩
 conv=>whnf
 generalize hs8:S4.s7 z7=z8
 refine dO2 D156_8 [H.set id (z8.Q (w+8)),H.set id (z8.s8.Q (w+9))] (by kernel_rfl) rfl trivial ?_
 conv=>whnf
 iterate 4 (refine dS ?_;(conv=>whnf))
 apply Exists.intro
 apply And.intro
 ·conv=>whnf
  ((conv in (_[_]?)=>tactic=>exact (z8.lookQ (w+8) hid));(conv=>whnf))
  exact ⟨rfl,rfl,trivial⟩
 conv=>whnf
 refine ⟨_,cP ((c198 _ 17 (by decide)).of_eq (congrArg _ (rot17 _))) ⟨rfl,rfl,trivial⟩,?_⟩
 conv=>whnf
 iterate 3 (refine dS ?_;(conv=>whnf))
 apply Exists.intro
 apply And.intro
 ·conv=>whnf
  ((conv in (_[_]?)=>tactic=>exact (z8.lookQ (w+8) hid));(conv=>whnf))
  exact ⟨rfl,rfl,trivial⟩
 conv=>whnf
 iterate 3 (refine dS ?_;(conv=>whnf))
 apply Exists.intro
 apply And.intro
 ·conv=>whnf
  ((conv in (_[_]?)=>tactic=>exact (z8.lookQ (w+8) hid));(conv=>whnf))
  exact ⟨rfl,List.set_set ..,trivial⟩
 conv=>whnf
 generalize hs9:S4.s8 z8=z9
 refine dO2 D156_9 [H.set id (z9.Q (w+9)),H.set id (z9.s9.Q (w+10))] (by kernel_rfl) rfl trivial ?_
 conv=>whnf
 iterate 4 (refine dS ?_;(conv=>whnf))
 apply Exists.intro
 apply And.intro
 ·conv=>whnf
  ((conv in (_[_]?)=>tactic=>exact (z9.lookQ (w+9) hid));(conv=>whnf))
  exact ⟨rfl,rfl,trivial⟩
 conv=>whnf
 refine ⟨_,cP ((c198 _ 32 (by decide)).of_eq (congrArg _ (rot32' _))) ⟨rfl,rfl,trivial⟩,?_⟩
 conv=>whnf
 iterate 2 (refine dS ?_;(conv=>whnf))
 apply Exists.intro
 apply And.intro
 ·conv=>whnf
  ((conv in (_[_]?)=>tactic=>exact (z9.lookQ (w+9) hid));(conv=>whnf))
  exact ⟨rfl,List.set_set ..,trivial⟩
 conv=>whnf
 refine ⟨rfl,w+10,?_⟩
 subst hs1 hs2 hs3 hs4 hs5 hs6 hs7 hs8 hs9
 rfl
def D155:Draw:={ imp:=[9],win:=[] }
theorem c155 (s:S4) (m:Int) (id v:Nat) (H:PH) (hid:H[id]? = some (s.Q v)) :
  CK prog 155 [.ptr (some (id,0)),.int .u64 m] H fun r H'=>r=.tup []∧∃v',H'=H.set id ((s.takes m).Q v'):=by
 (refine fnS (imm:=imm155) ttQ3_ok func155 ?_;(conv=>whnf))
 refine dO2 D155 [H,H.set id (S4.Q { s with d:=xorW s.d m } (v+1))] (by kernel_rfl) rfl trivial ?_
 have g0:H[id]? = some ⟨274,[.int .u64 s.a,.int .u64 s.b,.int .u64 s.c,.int .u64 s.d],v⟩:=hid
 conv=>whnf
 iterate 4 (refine dS ?_;(conv=>whnf))
 apply Exists.intro
 apply And.intro
 ·conv=>whnf
  ((conv in (_[_]?)=>tactic=>exact g0);(conv=>whnf))
  exact ⟨rfl,rfl,trivial⟩
 conv=>whnf
 iterate 4 (refine dS ?_;(conv=>whnf))
 apply Exists.intro
 apply And.intro
 ·conv=>whnf
  ((conv in (_[_]?)=>tactic=>exact g0);(conv=>whnf))
  exact ⟨rfl,rfl,trivial⟩
 conv=>whnf
 refine cO (Q:=fun r H'=>r=.tup []∧∃v',H'=H.set id ((S4.rnds 1 { s with d:=xorW s.d m }).Q v')) ((c156 { s with d:=xorW s.d m } id (v+1) (H.set id _) (gS hid)).mono fun r H' hh=>?_) ?_
 ·obtain ⟨h1,v',h2⟩:=hh
  exact ⟨h1,v',by rw [h2,List.set_set];rfl⟩
 rintro _ _ ⟨rfl,v1,rfl⟩
 conv=>whnf
 refine cO (Q:=fun r H'=>r=.tup []∧∃v',H'=H.set id ((S4.rnds 2 { s with d:=xorW s.d m }).Q v')) ((c156 (S4.rnds 1 { s with d:=xorW s.d m }) id v1 (H.set id _) (gS hid)).mono fun r H' hh=>?_) ?_
 ·obtain ⟨h1,v',h2⟩:=hh
  exact ⟨h1,v',by rw [h2,List.set_set];rfl⟩
 rintro _ _ ⟨rfl,v',rfl⟩
 conv=>whnf
 generalize hs:S4.rnds 2 { s with d:=xorW s.d m }=z
 refine dO2 D155 [H.set id (z.Q v'),H.set id (S4.Q { z with a:=xorW z.a m } (v'+1))] (by kernel_rfl) rfl trivial ?_
 conv=>whnf
 iterate 4 (refine dS ?_;(conv=>whnf))
 apply Exists.intro
 apply And.intro
 ·conv=>whnf
  ((conv in (_[_]?)=>tactic=>exact (z.lookQ v' hid));(conv=>whnf))
  exact ⟨rfl,rfl,trivial⟩
 conv=>whnf
 iterate 4 (refine dS ?_;(conv=>whnf))
 apply Exists.intro
 apply And.intro
 ·conv=>whnf
  ((conv in (_[_]?)=>tactic=>exact (z.lookQ v' hid));(conv=>whnf))
  exact ⟨rfl,List.set_set ..,trivial⟩
 conv=>whnf
 refine ⟨rfl,v'+1,?_⟩
 subst hs
 rfl
theorem le_step2 (l:List UInt8) (c:UInt8) (h:l.length<8):ibits .or .u64 (ishl .u64 (leN l:Nat) 8) (IntKind.u64.wrap c.toNat)=((leN (c::l):Nat):Int):=by
 have hc:=c.toNat_lt
 have h1:=leN_lt l
 rw [pow8] at h1
 have h3:2 ^ (8*(l.length+1))≤18446744073709551616:=pow_le8 (by omega)
 have h4:2 ^ (8*(l.length+1))=256*2 ^ (8*l.length):=by rw [Nat.mul_add,Nat.pow_add];omega
 have h5:leN l*256<18446744073709551616:=by omega
 have e:ishl .u64 (leN l:Nat) 8=((leN l*256:Nat):Int):=by
  show IntKind.u64.wrap ((leN l:Int)*2 ^ (min (8:Int).toNat 64))=_
  have:((leN l:Int)*2 ^ (min (8:Int).toNat 64))=((leN l*256:Nat):Int):=by push_cast;rfl
  rw [this]
  exact wrapU64 h5
 rw [e,wrapU64 (by omega),or_u64 h5 (by omega),show leN l*256=2 ^ 8*leN l by omega,←Nat.two_pow_add_eq_or_of_lt (by omega:c.toNat<2 ^ 8)]
 congr 1
 show _=c.toNat+256*leN l
 omega
theorem c154 (b:List UInt8) (hb:b.length≤8):Pure prog 154 [sl b] (.int .u64 (leN b)):=by
 intro H
 (refine fnS (imm:=imm154) ttQ3_ok func154 ?_;(conv=>whnf))
 refine lO Nat (fun k=>[(0,sl b),(4,.int .i64 ((k:Int) - 1)),(3,.int .u64 (leN (b.drop k)))]) (fun _=>H) (fun k=>k≤b.length) (fun k=>k) ⟨b.length,Nat.le_refl _,⟨rfl,?_,?_,trivial⟩,rfl⟩ ?_
 ·show PV.int _ (IntKind.i64.wrap ((b.length:Int) - 1))=_
  rw [w64 (by omega) (by omega)]
 ·rw [List.drop_length];rfl
 intro k hk
 conv=>whnf
 refine ⟨fun h=>?_,fun h=>?_⟩
 ·have h:(0:Int)≤(k:Int) - 1:=h
  have hi:k - 1<b.length:=by omega
  conv=>whnf
  refine ⟨by decide,?_⟩
  conv=>whnf
  refine ⟨⟨h,by show (k:Int) - 1<(b.length:Int);omega⟩,[bC b[k - 1]],at1' (k:=((k:Int) - 1).toNat*1) (by rw [show ((k:Int) - 1).toNat*1=k - 1 by omega,List.getElem?_map,List.getElem?_eq_getElem hi];rfl),?_⟩
  conv=>whnf
  refine ⟨k - 1,by omega,⟨rfl,?_,?_,trivial⟩,rfl,by omega⟩
  ·show PV.int _ (IntKind.i64.wrap ((k:Int) - 1 - 1))=PV.int _ _
   rw [w64 (by omega) (by omega)]
   congr 1;omega
  ·show PV.int _ (ibits .or .u64 (ishl .u64 (leN (b.drop k):Nat) 8) (IntKind.u64.wrap (b[k - 1].toNat:Int)))=PV.int _ _
   have e:b.drop (k - 1)=b[k - 1]::b.drop k:=by
    rw [List.drop_eq_getElem_cons hi,show k - 1+1=k by omega]
   rw [e,le_step2 _ _ (by rw [List.length_drop];omega)]
 ·have h:¬(0:Int)≤(k:Int) - 1:=h
  have e:k=0:=by omega
  subst e
  conv=>whnf
  exact ⟨rfl,rfl⟩
theorem or_comm64 (x y:Int):ibits .or .u64 x y=ibits .or .u64 y x:=by
 show IntKind.u64.wrap _=IntKind.u64.wrap _
 rw [BitVec.or_comm]
theorem and255 (n:Nat) (h:n≤1099511627776):ibits .and .i64 (n:Int) 255=IntKind.u8.wrap (n:Int):=by
 show IntKind.i64.wrap ((BitVec.ofInt 64 (n:Int) &&& BitVec.ofInt 64 255).toNat:Int)=(n:Int) % (2 ^ IntKind.u8.bits:Int)
 have e:(2 ^ IntKind.u8.bits:Int)=256:=by decide
 have h1:(BitVec.ofInt 64 (n:Int)).toNat=n:=by rw [BitVec.toNat_ofInt];omega
 have h2:(BitVec.ofInt 64 255).toNat=2 ^ 8 - 1:=by decide
 rw [e,BitVec.toNat_and,h1,h2,Nat.and_two_pow_sub_one_eq_mod,w64 (by omega) (by omega)]
 omega
def D126_8:Draw:={ imp:=[8],win:=[] }
theorem c126x (k:List UInt8) (hk:k.length=16) (p:List UInt8) (hp:p.length≤1000000) (H:PH) :
  CK prog 126 [.agg (k.map bC),sl p] H fun r H'=>r=.int .u64 (sipV k p)∧∃ext,H'=H++ext:=by
 obtain ⟨k0,k1,k2,k3,k4,k5,k6,k7,k8,k9,ka,kb,kc,kd,ke,kf,rfl⟩:=len16 hk
 have hk2:sipI [k0,k1,k2,k3,k4,k5,k6,k7,k8,k9,ka,kb,kc,kd,ke,kf]=⟨xorW 8317987319222330741 (leN [k0,k1,k2,k3,k4,k5,k6,k7]:Nat),xorW 7237128888997146477 (leN [k8,k9,ka,kb,kc,kd,ke,kf]:Nat),xorW 7816392313619706465 (leN [k0,k1,k2,k3,k4,k5,k6,k7]:Nat),xorW 8387220255154660723 (leN [k8,k9,ka,kb,kc,kd,ke,kf]:Nat)⟩:=rfl
 unfold sipV
 generalize hs0:sipI [k0,k1,k2,k3,k4,k5,k6,k7,k8,k9,ka,kb,kc,kd,ke,kf]=s0
 rw [hk2] at hs0
 (refine fnS (imm:=imm126) ttQ3_ok func126 ?_;(conv=>whnf))
 refine dP2 (by kernel_rfl) ?_
 conv=>whnf
 (refine dS ?_;(conv=>whnf))
 refine ⟨_,cA rfl (cP (c154 [k0,k1,k2,k3,k4,k5,k6,k7] (by simp)) ⟨rfl,rfl,trivial⟩),?_⟩
 conv=>whnf
 (refine dS ?_;(conv=>whnf))
 refine ⟨_,cA rfl (cP (c154 [k8,k9,ka,kb,kc,kd,ke,kf] (by simp)) ⟨rfl,rfl,trivial⟩),?_⟩
 conv=>whnf
 iterate 2 (refine dS ?_;(conv=>whnf))
 have hO:(PObj.mk 274 [.int .u64 (ibits .xor .u64 8317987319222330741 (leN [k0,k1,k2,k3,k4,k5,k6,k7]:Nat)),.int .u64 (ibits .xor .u64 7237128888997146477 (leN [k8,k9,ka,kb,kc,kd,ke,kf]:Nat)),.int .u64 (ibits .xor .u64 7816392313619706465 (leN [k0,k1,k2,k3,k4,k5,k6,k7]:Nat)),.int .u64 (ibits .xor .u64 8387220255154660723 (leN [k8,k9,ka,kb,kc,kd,ke,kf]:Nat))] 0)=s0.Q 0:=by subst hs0;rfl
 refine lO SipS (fun x=>[(1,sl p),(7,.ptr (some (H.length,0))),(8,.int .i64 ((8*x.i:Nat):Int))]) (fun x=>H++[(sipN s0 p x.i).Q x.v]) (fun x=>x.i≤p.length / 8) (fun x=>p.length / 8 - x.i) ⟨⟨0,0⟩,Nat.zero_le _,⟨rfl,rfl,rfl,trivial⟩,congrArg (fun o=>H++[o]) hO⟩ ?_
 rintro ⟨i,v⟩ hi
 replace hi:i≤p.length / 8:=hi
 have hl:(p.drop (8*i)).length=p.length - 8*i:=List.length_drop
 have hsub:IntKind.i64.wrap ((p.length:Int) - ((8*i:Nat):Int))=(p.length:Int) - ((8*i:Nat):Int):=w64 (by omega) (by omega)
 have hadd:IntKind.i64.wrap (((8*i:Nat):Int)+8)=((8*i+8:Nat):Int):=by rw [w64 (by omega) (by omega)];omega
 conv=>whnf
 refine ⟨fun h=>?_,fun h=>?_⟩
 ·have h:(8:Int)≤IntKind.i64.wrap ((p.length:Int) - ((8*i:Nat):Int)):=h
  rw [hsub] at h
  conv=>whnf
  refine ⟨⟨by show (0:Int)≤((8*i:Nat):Int);omega,by show ((8*i:Nat):Int)≤IntKind.i64.wrap (((8*i:Nat):Int)+8);rw [hadd];omega,by show IntKind.i64.wrap (((8*i:Nat):Int)+8)≤(p.length:Int);rw [hadd];omega⟩,?_⟩
  conv=>whnf
  have ecut:(p.take (8*i+8)).drop (8*i)=(p.drop (8*i)).take 8:=by
   rw [List.drop_take,show 8*i+8 - 8*i=8 by omega]
  refine cA (args':=[sl ((p.drop (8*i)).take 8)]) ?_ (cP (c154 ((p.drop (8*i)).take 8) (by rw [List.length_take];omega)) ?_)
  ·refine congrArg (fun z=>[z]) ?_
   have e:=sl_cut2 p ((8*i:Nat):Int) ((8*i+8:Nat):Int) ⟨by omega,by omega,by omega⟩
   rw [Int.toNat_natCast,Int.toNat_natCast,ecut] at e
   show PV.slice ((IntKind.i64.wrap (((8*i:Nat):Int)+8)).toNat - ((8*i:Nat):Int).toNat) (((p.map bC).take ((IntKind.i64.wrap (((8*i:Nat):Int)+8)).toNat*1)).drop (((8*i:Nat):Int).toNat*1)) none=_
   rw [hadd,Int.toNat_natCast,Int.toNat_natCast]
   exact e
  conv=>whnf
  refine cO (Q:=fun r H'=>r=.tup []∧∃v',H'=H++[(sipN s0 p (i+1)).Q v']) ((c155 (sipN s0 p i) (leN ((p.drop (8*i)).take 8):Nat) H.length v _ (gL H _)).mono fun r H' hh=>?_) ?_
  ·obtain ⟨h1,v',h2⟩:=hh
   exact ⟨h1,v',by rw [h2,sL];rfl⟩
  rintro _ _ ⟨rfl,v',rfl⟩
  conv=>whnf
  refine ⟨⟨i+1,v'⟩,by show i+1≤p.length / 8;omega,⟨rfl,rfl,?_,trivial⟩,rfl,by show p.length / 8 - (i+1)<p.length / 8 - i;omega⟩
  show PV.int _ (IntKind.i64.wrap (((8*i:Nat):Int)+8))=PV.int _ ((8*(i+1):Nat):Int)
  rw [hadd];rfl
 ·have h:¬(8:Int)≤IntKind.i64.wrap ((p.length:Int) - ((8*i:Nat):Int)):=h
  rw [hsub] at h
  have hi2:i=p.length / 8:=by omega
  rw [←hi2]
  conv=>whnf
  refine ⟨⟨by show (0:Int)≤((8*i:Nat):Int);omega,by show ((8*i:Nat):Int)≤(p.length:Int);omega,by omega⟩,?_⟩
  conv=>whnf
  have hcut:=sl_cut2 p ((8*i:Nat):Int) (p.length:Int) ⟨by omega,by omega,by omega⟩
  rw [Int.toNat_natCast,Int.toNat_natCast,List.take_length] at hcut
  refine cA (args':=[sl (p.drop (8*i))]) (congrArg (fun z=>[z]) hcut) (cP (c154 (p.drop (8*i)) (by omega)) ?_)
  conv=>whnf
  refine ⟨by decide,?_⟩
  conv=>whnf
  have hm:ibits .or .u64 (leN (p.drop (8*i)):Nat) (ishl .u64 (IntKind.u64.wrap (ibits .and .i64 (p.length:Int) 255)) 56)=ibits .or .u64 (lastW p.length) (leN (p.drop (8*i)):Nat):=by
   rw [or_comm64,and255 _ (by omega)];rfl
  generalize hm2:ibits .or .u64 (lastW p.length) (leN (p.drop (8*i)):Nat)=m at hm
  generalize hs1:sipN s0 p i=s1
  refine cA (args':=[.ptr (some (H.length,0)),.int .u64 m]) (congrArg (fun z=>[PV.ptr (some (H.length,0)),PV.int .u64 z]) hm) (cO (Q:=fun r H'=>r=.tup []∧∃v',H'=H++[(s1.takes m).Q v']) ?_ ?_)
  ·refine (c155 s1 m H.length v _ (gL H _)).mono fun r H' hh=>?_
   obtain ⟨h1,v',h2⟩:=hh
   exact ⟨h1,v',by rw [h2,sL]⟩
  rintro _ _ ⟨rfl,v1,rfl⟩
  conv=>whnf
  generalize hs2:s1.takes m=s2
  refine dO2 D126_8 [H++[s2.Q v1],H++[S4.Q { s2 with c:=xorW s2.c 255 } (v1+1)]] (by kernel_rfl) rfl trivial ?_
  have g0:(H++[s2.Q v1])[H.length]? = some ⟨274,[.int .u64 s2.a,.int .u64 s2.b,.int .u64 s2.c,.int .u64 s2.d],v1⟩:=gL H _
  conv=>whnf
  iterate 4 (refine dS ?_;(conv=>whnf))
  apply Exists.intro
  apply And.intro
  ·conv=>whnf
   ((conv in (_[_]?)=>tactic=>exact g0);(conv=>whnf))
   exact ⟨rfl,rfl,trivial⟩
  conv=>whnf
  iterate 3 (refine dS ?_;(conv=>whnf))
  apply Exists.intro
  apply And.intro
  ·conv=>whnf
   ((conv in (_[_]?)=>tactic=>exact g0);(conv=>whnf))
   exact ⟨rfl,sL H _ _,trivial⟩
  conv=>whnf
  refine lO SipS (fun x=>[(7,.ptr (some (H.length,0))),(9,.int .i64 x.i)]) (fun x=>H++[(S4.rnds x.i { s2 with c:=xorW s2.c 255 }).Q x.v]) (fun x=>x.i≤4) (fun x=>4 - x.i) ⟨⟨0,v1+1⟩,Nat.zero_le _,⟨rfl,rfl,trivial⟩,rfl⟩ ?_
  rintro ⟨j,w⟩ hj
  replace hj:j≤4:=hj
  conv=>whnf
  refine ⟨fun h=>?_,fun h=>?_⟩
  ·have h:(j:Int)<4:=h
   conv=>whnf
   refine cO (Q:=fun r H'=>r=.tup []∧∃v',H'=H++[(S4.rnds (j+1) { s2 with c:=xorW s2.c 255 }).Q v']) ((c156 (S4.rnds j { s2 with c:=xorW s2.c 255 }) H.length w _ (gL H _)).mono fun r H' hh=>?_) ?_
   ·obtain ⟨h1,v',h2⟩:=hh
    exact ⟨h1,v',by rw [h2,sL];rfl⟩
   rintro _ _ ⟨rfl,v',rfl⟩
   conv=>whnf
   refine ⟨⟨j+1,v'⟩,by show j+1≤4;omega,⟨rfl,?_,trivial⟩,rfl,by show 4 - (j+1)<4 - j;omega⟩
   show PV.int _ (IntKind.i64.wrap ((j:Int)+1))=PV.int _ _
   rw [w64 (by omega) (by omega)];simp
  have h:¬(j:Int)<4:=h
  have e4:j=4:=by omega
  subst e4
  conv=>whnf
  have hf:S4.rnds 4 { s2 with c:=xorW s2.c 255 }=s2.fin:=rfl
  rw [hf]
  generalize hs3:s2.fin=s3
  have g1:(H++[s3.Q w])[H.length]? = some ⟨274,[.int .u64 s3.a,.int .u64 s3.b,.int .u64 s3.c,.int .u64 s3.d],w⟩:=gL H _
  refine dP2 (by kernel_rfl) ?_
  conv=>whnf
  iterate 3 (refine dS ?_;(conv=>whnf))
  apply Exists.intro
  apply And.intro
  ·conv=>whnf
   ((conv in (_[_]?)=>tactic=>exact g1);(conv=>whnf))
   exact ⟨rfl,rfl,trivial⟩
  conv=>whnf
  iterate 3 (refine dS ?_;(conv=>whnf))
  apply Exists.intro
  apply And.intro
  ·conv=>whnf
   ((conv in (_[_]?)=>tactic=>exact g1);(conv=>whnf))
   exact ⟨rfl,rfl,trivial⟩
  conv=>whnf
  iterate 4 (refine dS ?_;(conv=>whnf))
  apply Exists.intro
  apply And.intro
  ·conv=>whnf
   ((conv in (_[_]?)=>tactic=>exact g1);(conv=>whnf))
   exact ⟨rfl,rfl,trivial⟩
  conv=>whnf
  iterate 4 (refine dS ?_;(conv=>whnf))
  apply Exists.intro
  apply And.intro
  ·conv=>whnf
   ((conv in (_[_]?)=>tactic=>exact g1);(conv=>whnf))
   exact ⟨rfl,rfl,trivial⟩
  conv=>whnf
  iterate 2 (refine dS ?_;(conv=>whnf))
  exact ⟨rfl,_,rfl⟩
theorem c126 (k:List UInt8) (hk:k.length=16) (p:List UInt8) (hp:p.length≤1000000):Pure prog 126 [.agg (k.map bC),sl p] (.int .u64 (sipV k p)) :=
 Pure.of_gc rfl fun H=>c126x k hk p hp H
def ttQ2:TT:=[(3,⟨.int .i64,1,8,[.int .i64 0]⟩),(5,⟨.int .u8,1,1,[.int .u8 0]⟩),(22,⟨.slice 5,1,24,[.slice 0 [] (some 5)]⟩),(215,⟨.arr 16 5,16,16,List.replicate 16 (.int .u8 0)⟩),(173,⟨.int .u64,1,8,[.int .u64 0]⟩),(94,⟨.int .u64,1,8,[.int .u64 0]⟩),(230,⟨.int .u32,1,4,[.int .u32 0]⟩),(231,⟨.arr 27 230,27,108,List.replicate 27 (.int .u32 0)⟩),(269,⟨.slice 230,1,24,[.slice 0 [] (some 230)]⟩),(268,⟨.arr 4 230,4,16,[.int .u32 0,.int .u32 0,.int .u32 0,.int .u32 0]⟩)]
theorem ttQ2_ok:ttOk prog ttQ2=true:=by kernel_rfl
def imm152:List Nat:=[]
def imm153:List Nat:=[]
def imm125:List Nat:=[1]
def imm151:List Nat:=[3]
def imm124:List Nat:=[3]
def right32 (x n:Int):Int:=ibits .or .u32 (ishr .u32 x n) (ishl .u32 x (IntKind.u64.wrap (32 - n)))
def left32 (x n:Int):Int:=ibits .or .u32 (ishl .u32 x n) (ishr .u32 x (IntKind.u64.wrap (32 - n)))
theorem c152' (x n:Int) (hn:0≤n):Pure prog 152 [.int .u32 x,.int .u64 n] (.int .u32 (right32 x n)):=by
 intro H
 (refine fnS (imm:=imm152) ttQ2_ok func152 ?_;(conv=>whnf))
 refine ⟨hn,?_⟩
 conv=>whnf
 refine ⟨u64_nonneg _,?_⟩
 conv=>whnf
 exact ⟨rfl,rfl⟩
theorem c153' (x n:Int) (hn:0≤n):Pure prog 153 [.int .u32 x,.int .u64 n] (.int .u32 (left32 x n)):=by
 intro H
 (refine fnS (imm:=imm153) ttQ2_ok func153 ?_;(conv=>whnf))
 refine ⟨hn,?_⟩
 conv=>whnf
 refine ⟨u64_nonneg _,?_⟩
 conv=>whnf
 exact ⟨rfl,rfl⟩
theorem or_comm32 (x y:Int):ibits .or .u32 x y=ibits .or .u32 y x:=by
 show IntKind.u32.wrap _=IntKind.u32.wrap _
 rw [BitVec.or_comm]
theorem c152 (x:Int):Pure prog 152 [.int .u32 x,.int .u64 8] (.int .u32 (rot32 x (-8))) :=
 (c152' x 8 (by decide)).of_eq (congrArg _ (by
  unfold rot32 right32
  rw [show rot32S (-8)=24 by decide,or_comm32]
  rfl))
theorem c153 (x:Int):Pure prog 153 [.int .u32 x,.int .u64 3] (.int .u32 (rot32 x 3)) :=
 (c153' x 3 (by decide)).of_eq (congrArg _ (by
  unfold rot32 left32
  rw [show rot32S 3=3 by decide]))
theorem c151 (ws:List Int) (hws:ws.length=27) (x y:Int):Pure prog 151 [.agg (ws.map u32C),.int .u32 x,.int .u32 y] (.tup [.int .u32 (spB ws (x,y)).1,.int .u32 (spB ws (x,y)).2]):=by
 intro H
 (refine fnS (imm:=imm151) ttQ2_ok func151 ?_;(conv=>whnf))
 refine lO Nat (fun i=>[(3,.elem (ws.map u32C)),(1,.int .u32 (spB (ws.take i) (x,y)).1),(2,.int .u32 (spB (ws.take i) (x,y)).2),(8,.int .i64 i)]) (fun _=>H) (fun i=>i≤27) (fun i=>27 - i) ⟨0,Nat.zero_le _,⟨rfl,rfl,rfl,rfl,trivial⟩,rfl⟩ ?_
 intro i hi
 conv=>whnf
 refine ⟨fun h=>?_,fun h=>?_⟩
 ·have h:(i:Int)<27:=h
  have hi':i<ws.length:=by omega
  conv=>whnf
  refine dP2 (by kernel_rfl) ?_
  conv=>whnf
  (refine dS ?_;(conv=>whnf))
  refine ⟨_,cP (c152 _) ⟨rfl,rfl,trivial⟩,?_⟩
  conv=>whnf
  iterate 3 (refine dS ?_;(conv=>whnf))
  refine ⟨.elem [u32C ws[i]],⟨⟨by omega,by show (i:Int)<((27:Nat):Int);exact h⟩,[u32C ws[i]],at1' (k:=(i:Int).toNat*1) (by rw [Int.toNat_natCast,Nat.mul_one,List.getElem?_map,List.getElem?_eq_getElem hi'];rfl),rfl,rfl,trivial⟩,?_⟩
  conv=>whnf
  iterate 3 (refine dS ?_;(conv=>whnf))
  refine cP (c153 _) ?_
  conv=>whnf
  have et:spB (ws.take (i+1)) (x,y)=spR ws[i] (spB (ws.take i) (x,y)):=by rw [List.take_succ_eq_append_getElem hi',spB_snoc]
  refine ⟨i+1,by omega,⟨rfl,?_,?_,?_,trivial⟩,rfl,by omega⟩
  ·rw [et];rfl
  ·rw [et];rfl
  ·show PV.int _ (IntKind.i64.wrap ((i:Int)+1))=PV.int _ _
   rw [w64 (by omega) (by omega)];simp
 ·have h:¬(i:Int)<27:=h
  have e:ws.take i=ws:=List.take_of_length_le (by omega)
  rw [e]
  conv=>whnf
  exact ⟨rfl,rfl⟩
theorem agg27 (ws:List Int) (hws:ws.length=27):((dropN 0 (ws.map u32C)).take 27).map dem=ws.map u32C:=by
 rw [dropN_eq,List.drop_zero,List.take_of_length_le (by rw [List.length_map];omega),List.map_map]
 rfl
theorem c124 (k:List UInt8) (nn:Int) (n:Nat) (hn:n≤1000000):Pure prog 124 [.agg ((spW k).map u32C),.int .u64 nn,.int .i64 n] (sl (streamV k nn n)):=by
 intro H
 (refine fnS (imm:=imm124) ttQ2_ok func124 ?_;(conv=>whnf))
 refine lO Nat (fun i=>[(1,.int .u64 nn),(2,.int .i64 n),(3,.elem ((spW k).map u32C)),(7,ow (strN k nn i)),(8,.int .i64 i)]) (fun _=>H) (fun i=>i≤(n+7) / 8) (fun i=>(n+7) / 8 - i) ⟨0,Nat.zero_le _,⟨rfl,rfl,rfl,rfl,rfl,trivial⟩,rfl⟩ ?_
 intro i hi
 have hsl:=strN_len k nn i
 conv=>whnf
 refine ⟨fun h=>?_,fun h=>?_⟩
 ·have h:((strN k nn i).length:Int)<n:=h
  rw [hsl] at h
  conv=>whnf
  refine ⟨by decide,?_⟩
  conv=>whnf
  have eargs:[PV.agg (((dropN 0 ((spW k).map u32C)).take 27).map dem),PV.int .u32 (IntKind.u32.wrap (ishr .u64 nn 32)),PV.int .u32 (IntKind.u32.wrap (IntKind.u32.wrap nn+IntKind.u32.wrap (i:Int)))]=[.agg ((spW k).map u32C),.int .u32 (IntKind.u32.wrap (ishr .u64 nn 32)),.int .u32 (add32 (IntKind.u32.wrap nn) i)]:=by
   rw [agg27 _ (spW_len k),wrap32 (n:=i) (by omega)];rfl
  refine cA eargs (cP ((c151 (spW k) (spW_len k) _ _).of_eq (show _=PV.tup [.int .u32 (blkP k nn i).1,.int .u32 (blkP k nn i).2] from rfl)) ?_)
  conv=>whnf
  generalize hx:(blkP k nn i).1=x
  generalize hy:(blkP k nn i).2=y
  refine ⟨by decide,?_⟩
  conv=>whnf
  refine ⟨by decide,?_⟩
  conv=>whnf
  refine ⟨by decide,?_⟩
  conv=>whnf
  refine ⟨by decide,?_⟩
  conv=>whnf
  refine ⟨by decide,?_⟩
  conv=>whnf
  refine ⟨by decide,?_⟩
  conv=>whnf
  refine ⟨⟨by show ((strN k nn i).length+8)*1≤_;omega,rfl,rfl⟩,?_⟩
  conv=>whnf
  refine ⟨i+1,by omega,⟨rfl,rfl,rfl,?_,?_,trivial⟩,rfl,by omega⟩
  ·have e8:[PV.int .u8 (IntKind.u8.wrap x),.int .u8 (IntKind.u8.wrap (ishr .u32 x 8)),.int .u8 (IntKind.u8.wrap (ishr .u32 x 16)),.int .u8 (IntKind.u8.wrap (ishr .u32 x 24)),.int .u8 (IntKind.u8.wrap y),.int .u8 (IntKind.u8.wrap (ishr .u32 y 8)),.int .u8 (IntKind.u8.wrap (ishr .u32 y 16)),.int .u8 (IntKind.u8.wrap (ishr .u32 y 24))]=(le4 x++le4 y).map bC:=by
    rw [List.map_append,←le4_cells,←le4_cells];rfl
   show PV.slice ((strN k nn i).length+8) ((strN k nn i).map bC++[PV.int .u8 (IntKind.u8.wrap x),.int .u8 (IntKind.u8.wrap (ishr .u32 x 8)),.int .u8 (IntKind.u8.wrap (ishr .u32 x 16)),.int .u8 (IntKind.u8.wrap (ishr .u32 x 24)),.int .u8 (IntKind.u8.wrap y),.int .u8 (IntKind.u8.wrap (ishr .u32 y 8)),.int .u8 (IntKind.u8.wrap (ishr .u32 y 16)),.int .u8 (IntKind.u8.wrap (ishr .u32 y 24))]) (some 5)=_
   rw [e8,ow_app' _ (le4 x++le4 y) (n:=8) rfl]
   subst hx hy
   rfl
  ·show PV.int _ (IntKind.i64.wrap ((i:Int)+1))=PV.int _ _
   rw [w64 (by omega) (by omega)];simp
 ·have h:¬((strN k nn i).length:Int)<n:=h
  rw [hsl] at h
  have e:i=(n+7) / 8:=by omega
  conv=>whnf
  have hmax:max (n:Int) 0=(n:Int):=by omega
  refine ⟨⟨by decide,by rw [hmax];omega,by rw [hmax];omega⟩,?_⟩
  conv=>whnf
  refine ⟨?_,rfl⟩
  have ec:=sl_cut2 (strN k nn i) 0 n ⟨by omega,by omega,by omega⟩
  show PV.slice ((max (n:Int) 0).toNat - (0:Int).toNat) ((((strN k nn i).map bC).take ((max (n:Int) 0).toNat*1)).drop ((0:Int).toNat*1)) none=_
  rw [hmax]
  refine ec.trans ?_
  rw [Int.toNat_natCast,e]
  rfl
set_option maxHeartbeats 4000000
def D125_5:Draw:={ imp:=[17],win:=[] }
def D125_12:Draw:={ cons:=[(14,[6]),(15,[57])],imp:=[],win:=[],fs:=[(0,14,.slot 6)],looks:=[(0,6)] }
def D125_13:Draw:={ imp:=[13],win:=[] }
def z27:List Int:=List.replicate 27 0
theorem spN_c (k:List UInt8) (i:Nat):(spN k i).c=(spN k (i+1)).b:=by rw [spN]
theorem spN_d' (k:List UInt8) (i:Nat):(spN k i).d=(spN k (i+1)).c:=by rw [spN]
theorem spN_d (k:List UInt8) (i:Nat):(spN k i).d=(spN k (i+2)).b:=by rw [spN_d',spN_c]
theorem spN_next (k:List UInt8) (i:Nat):(spN k (i+1)).d=xor32 (add32 (spN k i).a (rot32 (spN k i).b (-8))) (IntKind.u32.wrap (i:Int)):=by rw [spN]
theorem spN_a (k:List UInt8) (i:Nat):(spN k (i+1)).a=xor32 (rot32 (spN k i).a 3) (spN k (i+1)).d:=by rw [spN]
def spL2 (k:List UInt8) (i:Nat):List Int:=(List.range (i+3)).map fun j=>(spN k j).b
theorem spN_zero (k:List UInt8):spN k 0=wN k 16:=by rw [spN]
theorem spL2_zero (k:List UInt8):spL2 k 0=[(wN k 16).b,(wN k 16).c,(wN k 16).d]:=by
 rw [←spN_zero,spN_c,spN_d]
 generalize hb:(fun j=>(spN k j).b)=f
 have e:∀j,(spN k j).b=f j:=fun j=>by rw [←hb]
 unfold spL2
 rw [hb,e,e,e]
 rfl
theorem spL_one (k:List UInt8):spL k z27 (0+1)=(wN k 16).a::z27.drop 1:=by
 rw [←spN_zero]
 generalize hb:(fun j=>(spN k j).a)=f
 have e:(spN k 0).a=f 0:=by rw [←hb]
 unfold spL
 rw [hb,e]
 rfl
theorem spL2_len (k:List UInt8) (i:Nat):(spL2 k i).length=i+3:=by unfold spL2;simp
theorem spL2_get (k:List UInt8) (i j:Nat) (h:j<i+3):(spL2 k i)[j]? = some (spN k j).b:=by
 unfold spL2
 rw [List.getElem?_map,List.getElem?_range h];rfl
theorem spL2_succ (k:List UInt8) (i:Nat):spL2 k (i+1)=spL2 k i++[(spN k (i+3)).b]:=by
 unfold spL2
 rw [show i+1+3=(i+3)+1 by omega,List.range_succ,List.map_append];rfl
theorem spL_at (k:List UInt8) (i j:Nat) (hi:i≤27) (h:j<i):(spL k z27 i)[j]? = some (spN k j).a:=by
 unfold spL
 rw [List.getElem?_append_left (by simp;omega),List.getElem?_map,List.getElem?_range h];rfl
theorem drop_u32 {l:List Int} {j:Nat} {x:Int} (h:l[j]? = some x):∃r,dropN (0+(j:Int).toNat*1) (l.map u32C)=u32C x::r:=by
 have hlt:=(List.getElem?_eq_some_iff.1 h).1
 refine ⟨(l.drop (j+1)).map u32C,?_⟩
 rw [dropN_eq,Int.toNat_natCast,Nat.mul_one,Nat.zero_add,←List.map_drop,List.drop_eq_getElem_cons hlt,(List.getElem?_eq_some_iff.1 h).2];rfl
theorem ext_of {H K:PH} (hl:H.length≤K.length) (hf:∀j,j<H.length→K[j]? = H[j]?):∃ext,K=H++ext:=⟨K.drop H.length,List.ext_getElem? fun j=>by
 by_cases h:j<H.length
 ·rw [List.getElem?_append_left h];exact hf j h
 ·rw [List.getElem?_append_right (by omega),List.getElem?_drop]
  congr 1;omega⟩
theorem c125x (k:List UInt8) (hk:k.length=16) (H:PH):CK prog 125 [.agg (k.map bC)] H fun r H'=>r=.agg ((spW k).map u32C)∧∃ext,H'=H++ext:=by
 obtain ⟨k0,k1,k2,k3,k4,k5,k6,k7,k8,k9,ka,kb,kc,kd,ke,kf,rfl⟩:=len16 hk
 obtain ⟨kk,hkk⟩:∃kk:List UInt8,kk=[k0,k1,k2,k3,k4,k5,k6,k7,k8,k9,ka,kb,kc,kd,ke,kf]:=⟨_,rfl⟩
 rw [←hkk]
 (refine fnS (imm:=imm125) ttQ2_ok func125 ?_;(conv=>whnf))
 obtain ⟨H1,hH1⟩:∃H1:PH,H1=H++[⟨231,z27.map u32C,0⟩]:=⟨_,rfl⟩
 have hl1:H1.length=H.length+1:=by rw [hH1];simp
 have hr1:H1[H.length]? = some ⟨231,z27.map u32C,0⟩:=by rw [hH1];exact gL H _
 refine lO Nat (fun x=>[(1,.elem (kk.map bC)),(2,.ptr (some (H.length,0))),(3,.ptr (some (H1.length,0))),(4,.int .i64 x)]) (fun x=>H1++[(wN kk x).O4 x]) (fun x=>x≤16) (fun x=>16 - x) ⟨0,Nat.zero_le _,⟨rfl,rfl,?_,rfl,trivial⟩,?_⟩ ?_
 ·subst hH1;rfl
 ·subst hH1;rfl
 intro i hi
 match i,hi with
 | 0,_ =>
  conv=>whnf
  refine ⟨fun _=>?_,fun h=>absurd (show ((0:Nat):Int)<16 by decide) h⟩
  conv=>whnf
  generalize hz:wN kk 0=z
  refine dO2 D125_5 [H1++[z.O4 0],H1++[S4.O4 { z with a:=orB z.a k0 0 } 1]] (by kernel_rfl) rfl trivial ?_
  conv=>whnf
  (refine dS ?_;(conv=>whnf))
  apply Exists.intro
  apply And.intro
  ·conv=>whnf
   exact oD
  conv=>whnf
  (refine dS ?_;(conv=>whnf))
  apply Exists.intro
  apply And.intro
  ·conv=>whnf
   exact oD
  conv=>whnf
  apply Exists.intro
  apply And.intro
  ·conv=>whnf
   exact oD
  conv=>whnf
  apply Exists.intro
  apply And.intro
  ·conv=>whnf
   ((conv in (_[_]?)=>tactic=>exact (z.look4 0 H1));(conv=>whnf))
   exact ⟨rfl,rfl,trivial⟩
  conv=>whnf
  (refine dS ?_;(conv=>whnf))
  refine ⟨.elem [bC k0],⟨⟨by decide,by decide⟩,[bC k0],at1' (k:=0) (by rw [hkk];rfl),rfl,rfl,trivial⟩,?_⟩
  conv=>whnf
  iterate 3 (refine dS ?_;(conv=>whnf))
  apply Exists.intro
  apply And.intro
  ·conv=>whnf
   exact oD
  conv=>whnf
  iterate 2 (refine dS ?_;(conv=>whnf))
  apply Exists.intro
  apply And.intro
  ·conv=>whnf
   exact oD
  conv=>whnf
  (refine dS ?_;(conv=>whnf))
  apply Exists.intro
  apply And.intro
  ·conv=>whnf
   exact oD
  conv=>whnf
  apply Exists.intro
  apply And.intro
  ·conv=>whnf
   ((conv in (_[_]?)=>tactic=>exact (z.look4 0 H1));(conv=>whnf))
   exact ⟨rfl,sL H1 _ _,trivial⟩
  conv=>whnf
  refine ⟨1,by decide,⟨rfl,rfl,rfl,rfl,trivial⟩,?_,by decide⟩
  subst hz hkk
  rfl
 | 1,_ =>
  conv=>whnf
  refine ⟨fun _=>?_,fun h=>absurd (show ((1:Nat):Int)<16 by decide) h⟩
  conv=>whnf
  generalize hz:wN kk 1=z
  refine dO2 D125_5 [H1++[z.O4 1],H1++[S4.O4 { z with a:=orB z.a k1 8 } 2]] (by kernel_rfl) rfl trivial ?_
  conv=>whnf
  (refine dS ?_;(conv=>whnf))
  apply Exists.intro
  apply And.intro
  ·conv=>whnf
   exact oD
  conv=>whnf
  (refine dS ?_;(conv=>whnf))
  apply Exists.intro
  apply And.intro
  ·conv=>whnf
   exact oD
  conv=>whnf
  apply Exists.intro
  apply And.intro
  ·conv=>whnf
   exact oD
  conv=>whnf
  apply Exists.intro
  apply And.intro
  ·conv=>whnf
   ((conv in (_[_]?)=>tactic=>exact (z.look4 1 H1));(conv=>whnf))
   exact ⟨rfl,rfl,trivial⟩
  conv=>whnf
  (refine dS ?_;(conv=>whnf))
  refine ⟨.elem [bC k1],⟨⟨by decide,by decide⟩,[bC k1],at1' (k:=1) (by rw [hkk];rfl),rfl,rfl,trivial⟩,?_⟩
  conv=>whnf
  iterate 3 (refine dS ?_;(conv=>whnf))
  apply Exists.intro
  apply And.intro
  ·conv=>whnf
   exact oD
  conv=>whnf
  iterate 2 (refine dS ?_;(conv=>whnf))
  apply Exists.intro
  apply And.intro
  ·conv=>whnf
   exact oD
  conv=>whnf
  (refine dS ?_;(conv=>whnf))
  apply Exists.intro
  apply And.intro
  ·conv=>whnf
   exact oD
  conv=>whnf
  apply Exists.intro
  apply And.intro
  ·conv=>whnf
   ((conv in (_[_]?)=>tactic=>exact (z.look4 1 H1));(conv=>whnf))
   exact ⟨rfl,sL H1 _ _,trivial⟩
  conv=>whnf
  refine ⟨2,by decide,⟨rfl,rfl,rfl,rfl,trivial⟩,?_,by decide⟩
  subst hz hkk
  rfl
 | 2,_ =>
  conv=>whnf
  refine ⟨fun _=>?_,fun h=>absurd (show ((2:Nat):Int)<16 by decide) h⟩
  conv=>whnf
  generalize hz:wN kk 2=z
  refine dO2 D125_5 [H1++[z.O4 2],H1++[S4.O4 { z with a:=orB z.a k2 16 } 3]] (by kernel_rfl) rfl trivial ?_
  conv=>whnf
  (refine dS ?_;(conv=>whnf))
  apply Exists.intro
  apply And.intro
  ·conv=>whnf
   exact oD
  conv=>whnf
  (refine dS ?_;(conv=>whnf))
  apply Exists.intro
  apply And.intro
  ·conv=>whnf
   exact oD
  conv=>whnf
  apply Exists.intro
  apply And.intro
  ·conv=>whnf
   exact oD
  conv=>whnf
  apply Exists.intro
  apply And.intro
  ·conv=>whnf
   ((conv in (_[_]?)=>tactic=>exact (z.look4 2 H1));(conv=>whnf))
   exact ⟨rfl,rfl,trivial⟩
  conv=>whnf
  (refine dS ?_;(conv=>whnf))
  refine ⟨.elem [bC k2],⟨⟨by decide,by decide⟩,[bC k2],at1' (k:=2) (by rw [hkk];rfl),rfl,rfl,trivial⟩,?_⟩
  conv=>whnf
  iterate 3 (refine dS ?_;(conv=>whnf))
  apply Exists.intro
  apply And.intro
  ·conv=>whnf
   exact oD
  conv=>whnf
  iterate 2 (refine dS ?_;(conv=>whnf))
  apply Exists.intro
  apply And.intro
  ·conv=>whnf
   exact oD
  conv=>whnf
  (refine dS ?_;(conv=>whnf))
  apply Exists.intro
  apply And.intro
  ·conv=>whnf
   exact oD
  conv=>whnf
  apply Exists.intro
  apply And.intro
  ·conv=>whnf
   ((conv in (_[_]?)=>tactic=>exact (z.look4 2 H1));(conv=>whnf))
   exact ⟨rfl,sL H1 _ _,trivial⟩
  conv=>whnf
  refine ⟨3,by decide,⟨rfl,rfl,rfl,rfl,trivial⟩,?_,by decide⟩
  subst hz hkk
  rfl
 | 3,_ =>
  conv=>whnf
  refine ⟨fun _=>?_,fun h=>absurd (show ((3:Nat):Int)<16 by decide) h⟩
  conv=>whnf
  generalize hz:wN kk 3=z
  refine dO2 D125_5 [H1++[z.O4 3],H1++[S4.O4 { z with a:=orB z.a k3 24 } 4]] (by kernel_rfl) rfl trivial ?_
  conv=>whnf
  (refine dS ?_;(conv=>whnf))
  apply Exists.intro
  apply And.intro
  ·conv=>whnf
   exact oD
  conv=>whnf
  (refine dS ?_;(conv=>whnf))
  apply Exists.intro
  apply And.intro
  ·conv=>whnf
   exact oD
  conv=>whnf
  apply Exists.intro
  apply And.intro
  ·conv=>whnf
   exact oD
  conv=>whnf
  apply Exists.intro
  apply And.intro
  ·conv=>whnf
   ((conv in (_[_]?)=>tactic=>exact (z.look4 3 H1));(conv=>whnf))
   exact ⟨rfl,rfl,trivial⟩
  conv=>whnf
  (refine dS ?_;(conv=>whnf))
  refine ⟨.elem [bC k3],⟨⟨by decide,by decide⟩,[bC k3],at1' (k:=3) (by rw [hkk];rfl),rfl,rfl,trivial⟩,?_⟩
  conv=>whnf
  iterate 3 (refine dS ?_;(conv=>whnf))
  apply Exists.intro
  apply And.intro
  ·conv=>whnf
   exact oD
  conv=>whnf
  iterate 2 (refine dS ?_;(conv=>whnf))
  apply Exists.intro
  apply And.intro
  ·conv=>whnf
   exact oD
  conv=>whnf
  (refine dS ?_;(conv=>whnf))
  apply Exists.intro
  apply And.intro
  ·conv=>whnf
   exact oD
  conv=>whnf
  apply Exists.intro
  apply And.intro
  ·conv=>whnf
   ((conv in (_[_]?)=>tactic=>exact (z.look4 3 H1));(conv=>whnf))
   exact ⟨rfl,sL H1 _ _,trivial⟩
  conv=>whnf
  refine ⟨4,by decide,⟨rfl,rfl,rfl,rfl,trivial⟩,?_,by decide⟩
  subst hz hkk
  rfl
 | 4,_ =>
  conv=>whnf
  refine ⟨fun _=>?_,fun h=>absurd (show ((4:Nat):Int)<16 by decide) h⟩
  conv=>whnf
  generalize hz:wN kk 4=z
  refine dO2 D125_5 [H1++[z.O4 4],H1++[S4.O4 { z with b:=orB z.b k4 0 } 5]] (by kernel_rfl) rfl trivial ?_
  conv=>whnf
  (refine dS ?_;(conv=>whnf))
  apply Exists.intro
  apply And.intro
  ·conv=>whnf
   exact oD
  conv=>whnf
  (refine dS ?_;(conv=>whnf))
  apply Exists.intro
  apply And.intro
  ·conv=>whnf
   exact oD
  conv=>whnf
  apply Exists.intro
  apply And.intro
  ·conv=>whnf
   exact oD
  conv=>whnf
  apply Exists.intro
  apply And.intro
  ·conv=>whnf
   ((conv in (_[_]?)=>tactic=>exact (z.look4 4 H1));(conv=>whnf))
   exact ⟨rfl,rfl,trivial⟩
  conv=>whnf
  (refine dS ?_;(conv=>whnf))
  refine ⟨.elem [bC k4],⟨⟨by decide,by decide⟩,[bC k4],at1' (k:=4) (by rw [hkk];rfl),rfl,rfl,trivial⟩,?_⟩
  conv=>whnf
  iterate 3 (refine dS ?_;(conv=>whnf))
  apply Exists.intro
  apply And.intro
  ·conv=>whnf
   exact oD
  conv=>whnf
  iterate 2 (refine dS ?_;(conv=>whnf))
  apply Exists.intro
  apply And.intro
  ·conv=>whnf
   exact oD
  conv=>whnf
  (refine dS ?_;(conv=>whnf))
  apply Exists.intro
  apply And.intro
  ·conv=>whnf
   exact oD
  conv=>whnf
  apply Exists.intro
  apply And.intro
  ·conv=>whnf
   ((conv in (_[_]?)=>tactic=>exact (z.look4 4 H1));(conv=>whnf))
   exact ⟨rfl,sL H1 _ _,trivial⟩
  conv=>whnf
  refine ⟨5,by decide,⟨rfl,rfl,rfl,rfl,trivial⟩,?_,by decide⟩
  subst hz hkk
  rfl
 | 5,_ =>
  conv=>whnf
  refine ⟨fun _=>?_,fun h=>absurd (show ((5:Nat):Int)<16 by decide) h⟩
  conv=>whnf
  generalize hz:wN kk 5=z
  refine dO2 D125_5 [H1++[z.O4 5],H1++[S4.O4 { z with b:=orB z.b k5 8 } 6]] (by kernel_rfl) rfl trivial ?_
  conv=>whnf
  (refine dS ?_;(conv=>whnf))
  apply Exists.intro
  apply And.intro
  ·conv=>whnf
   exact oD
  conv=>whnf
  (refine dS ?_;(conv=>whnf))
  apply Exists.intro
  apply And.intro
  ·conv=>whnf
   exact oD
  conv=>whnf
  apply Exists.intro
  apply And.intro
  ·conv=>whnf
   exact oD
  conv=>whnf
  apply Exists.intro
  apply And.intro
  ·conv=>whnf
   ((conv in (_[_]?)=>tactic=>exact (z.look4 5 H1));(conv=>whnf))
   exact ⟨rfl,rfl,trivial⟩
  conv=>whnf
  (refine dS ?_;(conv=>whnf))
  refine ⟨.elem [bC k5],⟨⟨by decide,by decide⟩,[bC k5],at1' (k:=5) (by rw [hkk];rfl),rfl,rfl,trivial⟩,?_⟩
  conv=>whnf
  iterate 3 (refine dS ?_;(conv=>whnf))
  apply Exists.intro
  apply And.intro
  ·conv=>whnf
   exact oD
  conv=>whnf
  iterate 2 (refine dS ?_;(conv=>whnf))
  apply Exists.intro
  apply And.intro
  ·conv=>whnf
   exact oD
  conv=>whnf
  (refine dS ?_;(conv=>whnf))
  apply Exists.intro
  apply And.intro
  ·conv=>whnf
   exact oD
  conv=>whnf
  apply Exists.intro
  apply And.intro
  ·conv=>whnf
   ((conv in (_[_]?)=>tactic=>exact (z.look4 5 H1));(conv=>whnf))
   exact ⟨rfl,sL H1 _ _,trivial⟩
  conv=>whnf
  refine ⟨6,by decide,⟨rfl,rfl,rfl,rfl,trivial⟩,?_,by decide⟩
  subst hz hkk
  rfl
 | 6,_ =>
  conv=>whnf
  refine ⟨fun _=>?_,fun h=>absurd (show ((6:Nat):Int)<16 by decide) h⟩
  conv=>whnf
  generalize hz:wN kk 6=z
  refine dO2 D125_5 [H1++[z.O4 6],H1++[S4.O4 { z with b:=orB z.b k6 16 } 7]] (by kernel_rfl) rfl trivial ?_
  conv=>whnf
  (refine dS ?_;(conv=>whnf))
  apply Exists.intro
  apply And.intro
  ·conv=>whnf
   exact oD
  conv=>whnf
  (refine dS ?_;(conv=>whnf))
  apply Exists.intro
  apply And.intro
  ·conv=>whnf
   exact oD
  conv=>whnf
  apply Exists.intro
  apply And.intro
  ·conv=>whnf
   exact oD
  conv=>whnf
  apply Exists.intro
  apply And.intro
  ·conv=>whnf
   ((conv in (_[_]?)=>tactic=>exact (z.look4 6 H1));(conv=>whnf))
   exact ⟨rfl,rfl,trivial⟩
  conv=>whnf
  (refine dS ?_;(conv=>whnf))
  refine ⟨.elem [bC k6],⟨⟨by decide,by decide⟩,[bC k6],at1' (k:=6) (by rw [hkk];rfl),rfl,rfl,trivial⟩,?_⟩
  conv=>whnf
  iterate 3 (refine dS ?_;(conv=>whnf))
  apply Exists.intro
  apply And.intro
  ·conv=>whnf
   exact oD
  conv=>whnf
  iterate 2 (refine dS ?_;(conv=>whnf))
  apply Exists.intro
  apply And.intro
  ·conv=>whnf
   exact oD
  conv=>whnf
  (refine dS ?_;(conv=>whnf))
  apply Exists.intro
  apply And.intro
  ·conv=>whnf
   exact oD
  conv=>whnf
  apply Exists.intro
  apply And.intro
  ·conv=>whnf
   ((conv in (_[_]?)=>tactic=>exact (z.look4 6 H1));(conv=>whnf))
   exact ⟨rfl,sL H1 _ _,trivial⟩
  conv=>whnf
  refine ⟨7,by decide,⟨rfl,rfl,rfl,rfl,trivial⟩,?_,by decide⟩
  subst hz hkk
  rfl
 | 7,_ =>
  conv=>whnf
  refine ⟨fun _=>?_,fun h=>absurd (show ((7:Nat):Int)<16 by decide) h⟩
  conv=>whnf
  generalize hz:wN kk 7=z
  refine dO2 D125_5 [H1++[z.O4 7],H1++[S4.O4 { z with b:=orB z.b k7 24 } 8]] (by kernel_rfl) rfl trivial ?_
  conv=>whnf
  (refine dS ?_;(conv=>whnf))
  apply Exists.intro
  apply And.intro
  ·conv=>whnf
   exact oD
  conv=>whnf
  (refine dS ?_;(conv=>whnf))
  apply Exists.intro
  apply And.intro
  ·conv=>whnf
   exact oD
  conv=>whnf
  apply Exists.intro
  apply And.intro
  ·conv=>whnf
   exact oD
  conv=>whnf
  apply Exists.intro
  apply And.intro
  ·conv=>whnf
   ((conv in (_[_]?)=>tactic=>exact (z.look4 7 H1));(conv=>whnf))
   exact ⟨rfl,rfl,trivial⟩
  conv=>whnf
  (refine dS ?_;(conv=>whnf))
  refine ⟨.elem [bC k7],⟨⟨by decide,by decide⟩,[bC k7],at1' (k:=7) (by rw [hkk];rfl),rfl,rfl,trivial⟩,?_⟩
  conv=>whnf
  iterate 3 (refine dS ?_;(conv=>whnf))
  apply Exists.intro
  apply And.intro
  ·conv=>whnf
   exact oD
  conv=>whnf
  iterate 2 (refine dS ?_;(conv=>whnf))
  apply Exists.intro
  apply And.intro
  ·conv=>whnf
   exact oD
  conv=>whnf
  (refine dS ?_;(conv=>whnf))
  apply Exists.intro
  apply And.intro
  ·conv=>whnf
   exact oD
  conv=>whnf
  apply Exists.intro
  apply And.intro
  ·conv=>whnf
   ((conv in (_[_]?)=>tactic=>exact (z.look4 7 H1));(conv=>whnf))
   exact ⟨rfl,sL H1 _ _,trivial⟩
  conv=>whnf
  refine ⟨8,by decide,⟨rfl,rfl,rfl,rfl,trivial⟩,?_,by decide⟩
  subst hz hkk
  rfl
 | 8,_ =>
  conv=>whnf
  refine ⟨fun _=>?_,fun h=>absurd (show ((8:Nat):Int)<16 by decide) h⟩
  conv=>whnf
  generalize hz:wN kk 8=z
  refine dO2 D125_5 [H1++[z.O4 8],H1++[S4.O4 { z with c:=orB z.c k8 0 } 9]] (by kernel_rfl) rfl trivial ?_
  conv=>whnf
  (refine dS ?_;(conv=>whnf))
  apply Exists.intro
  apply And.intro
  ·conv=>whnf
   exact oD
  conv=>whnf
  (refine dS ?_;(conv=>whnf))
  apply Exists.intro
  apply And.intro
  ·conv=>whnf
   exact oD
  conv=>whnf
  apply Exists.intro
  apply And.intro
  ·conv=>whnf
   exact oD
  conv=>whnf
  apply Exists.intro
  apply And.intro
  ·conv=>whnf
   ((conv in (_[_]?)=>tactic=>exact (z.look4 8 H1));(conv=>whnf))
   exact ⟨rfl,rfl,trivial⟩
  conv=>whnf
  (refine dS ?_;(conv=>whnf))
  refine ⟨.elem [bC k8],⟨⟨by decide,by decide⟩,[bC k8],at1' (k:=8) (by rw [hkk];rfl),rfl,rfl,trivial⟩,?_⟩
  conv=>whnf
  iterate 3 (refine dS ?_;(conv=>whnf))
  apply Exists.intro
  apply And.intro
  ·conv=>whnf
   exact oD
  conv=>whnf
  iterate 2 (refine dS ?_;(conv=>whnf))
  apply Exists.intro
  apply And.intro
  ·conv=>whnf
   exact oD
  conv=>whnf
  (refine dS ?_;(conv=>whnf))
  apply Exists.intro
  apply And.intro
  ·conv=>whnf
   exact oD
  conv=>whnf
  apply Exists.intro
  apply And.intro
  ·conv=>whnf
   ((conv in (_[_]?)=>tactic=>exact (z.look4 8 H1));(conv=>whnf))
   exact ⟨rfl,sL H1 _ _,trivial⟩
  conv=>whnf
  refine ⟨9,by decide,⟨rfl,rfl,rfl,rfl,trivial⟩,?_,by decide⟩
  subst hz hkk
  rfl
 | 9,_ =>
  conv=>whnf
  refine ⟨fun _=>?_,fun h=>absurd (show ((9:Nat):Int)<16 by decide) h⟩
  conv=>whnf
  generalize hz:wN kk 9=z
  refine dO2 D125_5 [H1++[z.O4 9],H1++[S4.O4 { z with c:=orB z.c k9 8 } 10]] (by kernel_rfl) rfl trivial ?_
  conv=>whnf
  (refine dS ?_;(conv=>whnf))
  apply Exists.intro
  apply And.intro
  ·conv=>whnf
   exact oD
  conv=>whnf
  (refine dS ?_;(conv=>whnf))
  apply Exists.intro
  apply And.intro
  ·conv=>whnf
   exact oD
  conv=>whnf
  apply Exists.intro
  apply And.intro
  ·conv=>whnf
   exact oD
  conv=>whnf
  apply Exists.intro
  apply And.intro
  ·conv=>whnf
   ((conv in (_[_]?)=>tactic=>exact (z.look4 9 H1));(conv=>whnf))
   exact ⟨rfl,rfl,trivial⟩
  conv=>whnf
  (refine dS ?_;(conv=>whnf))
  refine ⟨.elem [bC k9],⟨⟨by decide,by decide⟩,[bC k9],at1' (k:=9) (by rw [hkk];rfl),rfl,rfl,trivial⟩,?_⟩
  conv=>whnf
  iterate 3 (refine dS ?_;(conv=>whnf))
  apply Exists.intro
  apply And.intro
  ·conv=>whnf
   exact oD
  conv=>whnf
  iterate 2 (refine dS ?_;(conv=>whnf))
  apply Exists.intro
  apply And.intro
  ·conv=>whnf
   exact oD
  conv=>whnf
  (refine dS ?_;(conv=>whnf))
  apply Exists.intro
  apply And.intro
  ·conv=>whnf
   exact oD
  conv=>whnf
  apply Exists.intro
  apply And.intro
  ·conv=>whnf
   ((conv in (_[_]?)=>tactic=>exact (z.look4 9 H1));(conv=>whnf))
   exact ⟨rfl,sL H1 _ _,trivial⟩
  conv=>whnf
  refine ⟨10,by decide,⟨rfl,rfl,rfl,rfl,trivial⟩,?_,by decide⟩
  subst hz hkk
  rfl
 | 10,_ =>
  conv=>whnf
  refine ⟨fun _=>?_,fun h=>absurd (show ((10:Nat):Int)<16 by decide) h⟩
  conv=>whnf
  generalize hz:wN kk 10=z
  refine dO2 D125_5 [H1++[z.O4 10],H1++[S4.O4 { z with c:=orB z.c ka 16 } 11]] (by kernel_rfl) rfl trivial ?_
  conv=>whnf
  (refine dS ?_;(conv=>whnf))
  apply Exists.intro
  apply And.intro
  ·conv=>whnf
   exact oD
  conv=>whnf
  (refine dS ?_;(conv=>whnf))
  apply Exists.intro
  apply And.intro
  ·conv=>whnf
   exact oD
  conv=>whnf
  apply Exists.intro
  apply And.intro
  ·conv=>whnf
   exact oD
  conv=>whnf
  apply Exists.intro
  apply And.intro
  ·conv=>whnf
   ((conv in (_[_]?)=>tactic=>exact (z.look4 10 H1));(conv=>whnf))
   exact ⟨rfl,rfl,trivial⟩
  conv=>whnf
  (refine dS ?_;(conv=>whnf))
  refine ⟨.elem [bC ka],⟨⟨by decide,by decide⟩,[bC ka],at1' (k:=10) (by rw [hkk];rfl),rfl,rfl,trivial⟩,?_⟩
  conv=>whnf
  iterate 3 (refine dS ?_;(conv=>whnf))
  apply Exists.intro
  apply And.intro
  ·conv=>whnf
   exact oD
  conv=>whnf
  iterate 2 (refine dS ?_;(conv=>whnf))
  apply Exists.intro
  apply And.intro
  ·conv=>whnf
   exact oD
  conv=>whnf
  (refine dS ?_;(conv=>whnf))
  apply Exists.intro
  apply And.intro
  ·conv=>whnf
   exact oD
  conv=>whnf
  apply Exists.intro
  apply And.intro
  ·conv=>whnf
   ((conv in (_[_]?)=>tactic=>exact (z.look4 10 H1));(conv=>whnf))
   exact ⟨rfl,sL H1 _ _,trivial⟩
  conv=>whnf
  refine ⟨11,by decide,⟨rfl,rfl,rfl,rfl,trivial⟩,?_,by decide⟩
  subst hz hkk
  rfl
 | 11,_ =>
  conv=>whnf
  refine ⟨fun _=>?_,fun h=>absurd (show ((11:Nat):Int)<16 by decide) h⟩
  conv=>whnf
  generalize hz:wN kk 11=z
  refine dO2 D125_5 [H1++[z.O4 11],H1++[S4.O4 { z with c:=orB z.c kb 24 } 12]] (by kernel_rfl) rfl trivial ?_
  conv=>whnf
  (refine dS ?_;(conv=>whnf))
  apply Exists.intro
  apply And.intro
  ·conv=>whnf
   exact oD
  conv=>whnf
  (refine dS ?_;(conv=>whnf))
  apply Exists.intro
  apply And.intro
  ·conv=>whnf
   exact oD
  conv=>whnf
  apply Exists.intro
  apply And.intro
  ·conv=>whnf
   exact oD
  conv=>whnf
  apply Exists.intro
  apply And.intro
  ·conv=>whnf
   ((conv in (_[_]?)=>tactic=>exact (z.look4 11 H1));(conv=>whnf))
   exact ⟨rfl,rfl,trivial⟩
  conv=>whnf
  (refine dS ?_;(conv=>whnf))
  refine ⟨.elem [bC kb],⟨⟨by decide,by decide⟩,[bC kb],at1' (k:=11) (by rw [hkk];rfl),rfl,rfl,trivial⟩,?_⟩
  conv=>whnf
  iterate 3 (refine dS ?_;(conv=>whnf))
  apply Exists.intro
  apply And.intro
  ·conv=>whnf
   exact oD
  conv=>whnf
  iterate 2 (refine dS ?_;(conv=>whnf))
  apply Exists.intro
  apply And.intro
  ·conv=>whnf
   exact oD
  conv=>whnf
  (refine dS ?_;(conv=>whnf))
  apply Exists.intro
  apply And.intro
  ·conv=>whnf
   exact oD
  conv=>whnf
  apply Exists.intro
  apply And.intro
  ·conv=>whnf
   ((conv in (_[_]?)=>tactic=>exact (z.look4 11 H1));(conv=>whnf))
   exact ⟨rfl,sL H1 _ _,trivial⟩
  conv=>whnf
  refine ⟨12,by decide,⟨rfl,rfl,rfl,rfl,trivial⟩,?_,by decide⟩
  subst hz hkk
  rfl
 | 12,_ =>
  conv=>whnf
  refine ⟨fun _=>?_,fun h=>absurd (show ((12:Nat):Int)<16 by decide) h⟩
  conv=>whnf
  generalize hz:wN kk 12=z
  refine dO2 D125_5 [H1++[z.O4 12],H1++[S4.O4 { z with d:=orB z.d kc 0 } 13]] (by kernel_rfl) rfl trivial ?_
  conv=>whnf
  (refine dS ?_;(conv=>whnf))
  apply Exists.intro
  apply And.intro
  ·conv=>whnf
   exact oD
  conv=>whnf
  (refine dS ?_;(conv=>whnf))
  apply Exists.intro
  apply And.intro
  ·conv=>whnf
   exact oD
  conv=>whnf
  apply Exists.intro
  apply And.intro
  ·conv=>whnf
   exact oD
  conv=>whnf
  apply Exists.intro
  apply And.intro
  ·conv=>whnf
   ((conv in (_[_]?)=>tactic=>exact (z.look4 12 H1));(conv=>whnf))
   exact ⟨rfl,rfl,trivial⟩
  conv=>whnf
  (refine dS ?_;(conv=>whnf))
  refine ⟨.elem [bC kc],⟨⟨by decide,by decide⟩,[bC kc],at1' (k:=12) (by rw [hkk];rfl),rfl,rfl,trivial⟩,?_⟩
  conv=>whnf
  iterate 3 (refine dS ?_;(conv=>whnf))
  apply Exists.intro
  apply And.intro
  ·conv=>whnf
   exact oD
  conv=>whnf
  iterate 2 (refine dS ?_;(conv=>whnf))
  apply Exists.intro
  apply And.intro
  ·conv=>whnf
   exact oD
  conv=>whnf
  (refine dS ?_;(conv=>whnf))
  apply Exists.intro
  apply And.intro
  ·conv=>whnf
   exact oD
  conv=>whnf
  apply Exists.intro
  apply And.intro
  ·conv=>whnf
   ((conv in (_[_]?)=>tactic=>exact (z.look4 12 H1));(conv=>whnf))
   exact ⟨rfl,sL H1 _ _,trivial⟩
  conv=>whnf
  refine ⟨13,by decide,⟨rfl,rfl,rfl,rfl,trivial⟩,?_,by decide⟩
  subst hz hkk
  rfl
 | 13,_ =>
  conv=>whnf
  refine ⟨fun _=>?_,fun h=>absurd (show ((13:Nat):Int)<16 by decide) h⟩
  conv=>whnf
  generalize hz:wN kk 13=z
  refine dO2 D125_5 [H1++[z.O4 13],H1++[S4.O4 { z with d:=orB z.d kd 8 } 14]] (by kernel_rfl) rfl trivial ?_
  conv=>whnf
  (refine dS ?_;(conv=>whnf))
  apply Exists.intro
  apply And.intro
  ·conv=>whnf
   exact oD
  conv=>whnf
  (refine dS ?_;(conv=>whnf))
  apply Exists.intro
  apply And.intro
  ·conv=>whnf
   exact oD
  conv=>whnf
  apply Exists.intro
  apply And.intro
  ·conv=>whnf
   exact oD
  conv=>whnf
  apply Exists.intro
  apply And.intro
  ·conv=>whnf
   ((conv in (_[_]?)=>tactic=>exact (z.look4 13 H1));(conv=>whnf))
   exact ⟨rfl,rfl,trivial⟩
  conv=>whnf
  (refine dS ?_;(conv=>whnf))
  refine ⟨.elem [bC kd],⟨⟨by decide,by decide⟩,[bC kd],at1' (k:=13) (by rw [hkk];rfl),rfl,rfl,trivial⟩,?_⟩
  conv=>whnf
  iterate 3 (refine dS ?_;(conv=>whnf))
  apply Exists.intro
  apply And.intro
  ·conv=>whnf
   exact oD
  conv=>whnf
  iterate 2 (refine dS ?_;(conv=>whnf))
  apply Exists.intro
  apply And.intro
  ·conv=>whnf
   exact oD
  conv=>whnf
  (refine dS ?_;(conv=>whnf))
  apply Exists.intro
  apply And.intro
  ·conv=>whnf
   exact oD
  conv=>whnf
  apply Exists.intro
  apply And.intro
  ·conv=>whnf
   ((conv in (_[_]?)=>tactic=>exact (z.look4 13 H1));(conv=>whnf))
   exact ⟨rfl,sL H1 _ _,trivial⟩
  conv=>whnf
  refine ⟨14,by decide,⟨rfl,rfl,rfl,rfl,trivial⟩,?_,by decide⟩
  subst hz hkk
  rfl
 | 14,_ =>
  conv=>whnf
  refine ⟨fun _=>?_,fun h=>absurd (show ((14:Nat):Int)<16 by decide) h⟩
  conv=>whnf
  generalize hz:wN kk 14=z
  refine dO2 D125_5 [H1++[z.O4 14],H1++[S4.O4 { z with d:=orB z.d ke 16 } 15]] (by kernel_rfl) rfl trivial ?_
  conv=>whnf
  (refine dS ?_;(conv=>whnf))
  apply Exists.intro
  apply And.intro
  ·conv=>whnf
   exact oD
  conv=>whnf
  (refine dS ?_;(conv=>whnf))
  apply Exists.intro
  apply And.intro
  ·conv=>whnf
   exact oD
  conv=>whnf
  apply Exists.intro
  apply And.intro
  ·conv=>whnf
   exact oD
  conv=>whnf
  apply Exists.intro
  apply And.intro
  ·conv=>whnf
   ((conv in (_[_]?)=>tactic=>exact (z.look4 14 H1));(conv=>whnf))
   exact ⟨rfl,rfl,trivial⟩
  conv=>whnf
  (refine dS ?_;(conv=>whnf))
  refine ⟨.elem [bC ke],⟨⟨by decide,by decide⟩,[bC ke],at1' (k:=14) (by rw [hkk];rfl),rfl,rfl,trivial⟩,?_⟩
  conv=>whnf
  iterate 3 (refine dS ?_;(conv=>whnf))
  apply Exists.intro
  apply And.intro
  ·conv=>whnf
   exact oD
  conv=>whnf
  iterate 2 (refine dS ?_;(conv=>whnf))
  apply Exists.intro
  apply And.intro
  ·conv=>whnf
   exact oD
  conv=>whnf
  (refine dS ?_;(conv=>whnf))
  apply Exists.intro
  apply And.intro
  ·conv=>whnf
   exact oD
  conv=>whnf
  apply Exists.intro
  apply And.intro
  ·conv=>whnf
   ((conv in (_[_]?)=>tactic=>exact (z.look4 14 H1));(conv=>whnf))
   exact ⟨rfl,sL H1 _ _,trivial⟩
  conv=>whnf
  refine ⟨15,by decide,⟨rfl,rfl,rfl,rfl,trivial⟩,?_,by decide⟩
  subst hz hkk
  rfl
 | 15,_ =>
  conv=>whnf
  refine ⟨fun _=>?_,fun h=>absurd (show ((15:Nat):Int)<16 by decide) h⟩
  conv=>whnf
  generalize hz:wN kk 15=z
  refine dO2 D125_5 [H1++[z.O4 15],H1++[S4.O4 { z with d:=orB z.d kf 24 } 16]] (by kernel_rfl) rfl trivial ?_
  conv=>whnf
  (refine dS ?_;(conv=>whnf))
  apply Exists.intro
  apply And.intro
  ·conv=>whnf
   exact oD
  conv=>whnf
  (refine dS ?_;(conv=>whnf))
  apply Exists.intro
  apply And.intro
  ·conv=>whnf
   exact oD
  conv=>whnf
  apply Exists.intro
  apply And.intro
  ·conv=>whnf
   exact oD
  conv=>whnf
  apply Exists.intro
  apply And.intro
  ·conv=>whnf
   ((conv in (_[_]?)=>tactic=>exact (z.look4 15 H1));(conv=>whnf))
   exact ⟨rfl,rfl,trivial⟩
  conv=>whnf
  (refine dS ?_;(conv=>whnf))
  refine ⟨.elem [bC kf],⟨⟨by decide,by decide⟩,[bC kf],at1' (k:=15) (by rw [hkk];rfl),rfl,rfl,trivial⟩,?_⟩
  conv=>whnf
  iterate 3 (refine dS ?_;(conv=>whnf))
  apply Exists.intro
  apply And.intro
  ·conv=>whnf
   exact oD
  conv=>whnf
  iterate 2 (refine dS ?_;(conv=>whnf))
  apply Exists.intro
  apply And.intro
  ·conv=>whnf
   exact oD
  conv=>whnf
  (refine dS ?_;(conv=>whnf))
  apply Exists.intro
  apply And.intro
  ·conv=>whnf
   exact oD
  conv=>whnf
  apply Exists.intro
  apply And.intro
  ·conv=>whnf
   ((conv in (_[_]?)=>tactic=>exact (z.look4 15 H1));(conv=>whnf))
   exact ⟨rfl,sL H1 _ _,trivial⟩
  conv=>whnf
  refine ⟨16,by decide,⟨rfl,rfl,rfl,rfl,trivial⟩,?_,by decide⟩
  subst hz hkk
  rfl
 | 16,_ =>
  conv=>whnf
  refine ⟨fun h=>absurd h (by decide),fun _=>?_⟩
  conv=>whnf
  have hs0:spN kk 0=wN kk 16:=spN_zero kk
  have hl2:(spL2 kk 0).map u32C=[u32C (wN kk 16).b,u32C (wN kk 16).c,u32C (wN kk 16).d]:=by rw [spL2_zero,List.map_cons,List.map_cons,List.map_cons,List.map_nil]
  have hl1':(spL kk z27 (0+1)).map u32C=u32C (wN kk 16).a::(z27.drop 1).map u32C:=by rw [spL_one,List.map_cons]
  generalize wN kk 16=w16 at hs0 hl2 hl1' ⊢
  obtain ⟨H2,hH2⟩:∃H2:PH,H2=H1++[w16.O4 16]:=⟨_,rfl⟩
  have hw2:∀x:PObj,(H2++[x])[H1.length]? = some ⟨268,[.int .u32 w16.a,.int .u32 w16.b,.int .u32 w16.c,.int .u32 w16.d],16⟩:=fun x=>by
   rw [List.getElem?_append_left (by rw [hH2];simp),hH2];exact gL H1 _
  rw [←hH2]
  refine ⟨by decide,?_⟩
  conv=>whnf
  ((conv in (_[_]?)=>tactic=>exact (hw2 _));(conv=>whnf))
  refine ⟨by decide,?_⟩
  conv=>whnf
  ((conv in (_[_]?)=>tactic=>exact (hw2 _));(conv=>whnf))
  refine ⟨by decide,?_⟩
  conv=>whnf
  ((conv in (_[_]?)=>tactic=>exact (hw2 _));(conv=>whnf))
  refine ⟨by decide,?_⟩
  conv=>whnf
  ((conv in (_[_]?)=>tactic=>exact (hw2 _));(conv=>whnf))
  refine ⟨by decide,?_⟩
  conv=>whnf
  ((conv in (_[_]?)=>tactic=>exact (gL H2 _));(conv=>whnf))
  refine lO Nat (fun i=>[(2,.ptr (some (H.length,0))),(5,.ptr (some (H2.length,0))),(6,.slice (i+3) ((spL2 kk i).map u32C) (some 230)),(7,.int .i64 i)]) (fun i=>H2++[PObj.mk 231 ((spL kk z27 (i+1)).map u32C) (i+1)]) (fun i=>i≤26) (fun i=>26 - i) ⟨0,Nat.zero_le _,⟨rfl,rfl,?_,rfl,trivial⟩,?_⟩ ?_
  ·exact congrArg (fun z=>PV.slice 3 z (some 230)) hl2.symm
  ·rw [hl1'];exact sL H2 _ _
  intro i hi
  conv=>whnf
  refine ⟨fun h=>?_,fun h=>?_⟩
  ·have h:(i:Int)<26:=h
   have hlen1:(spL kk z27 (i+1)).length=27:=spL_len kk z27 (i+1) rfl (by omega)
   have g0:=gL H2 (PObj.mk 231 ((spL kk z27 (i+1)).map u32C) (i+1))
   obtain ⟨r0,hr0⟩:=drop_u32 (spL_at kk (i+1) i (by omega) (by omega))
   conv=>whnf
   refine dO2 D125_12 [H2++[PObj.mk 231 ((spL kk z27 (i+1)).map u32C) (i+1)]] (by kernel_rfl) rfl ⟨trivial,trivial⟩ ?_
   conv=>whnf
   apply Exists.intro
   apply And.intro
   ·conv=>whnf
    exact ⟨rfl,rfl,rfl,trivial⟩
   conv=>whnf
   (refine dS ?_;(conv=>whnf))
   apply Exists.intro
   apply And.intro
   ·conv=>whnf
    refine ⟨⟨by show (0:Int)≤(i:Int);omega,by show (i:Int)<((27:Nat):Int);omega⟩,rfl,rfl,trivial⟩
   conv=>whnf
   apply Exists.intro
   apply And.intro
   ·conv=>whnf
    ((conv in (_[_]?)=>tactic=>exact g0);(conv=>whnf))
    ((conv in (dropN _ _)=>tactic=>exact hr0);(conv=>whnf))
    exact ⟨rfl,rfl,trivial⟩
   conv=>whnf
   iterate 2 (refine dS ?_;(conv=>whnf))
   refine ⟨.elem [u32C (spN kk i).b],⟨⟨by show (0:Int)≤(i:Int);omega,by show (i:Int)<((i+3:Nat):Int);omega⟩,[u32C (spN kk i).b],at1' (k:=(i:Int).toNat*1) (by rw [Int.toNat_natCast,Nat.mul_one,List.getElem?_map,spL2_get kk i i (by omega)];rfl),rfl,rfl,trivial⟩,?_⟩
   conv=>whnf
   (refine dS ?_;(conv=>whnf))
   refine ⟨_,cP (c152 _) ⟨rfl,rfl,trivial⟩,?_⟩
   conv=>whnf
   iterate 5 (refine dS ?_;(conv=>whnf))
   apply Exists.intro
   apply And.intro
   ·conv=>whnf
    refine ⟨⟨by show (i+3+1)*4≤_;omega,rfl,rfl⟩,?_⟩
    conv=>whnf
    exact ⟨rfl,rfl,trivial⟩
   conv=>whnf
   (refine dS ?_;(conv=>whnf))
   have hw1:IntKind.i64.wrap ((i:Int)+1)=((i+1:Nat):Int):=by rw [w64 (by omega) (by omega)];omega
   have hw3:IntKind.i64.wrap ((i:Int)+3)=((i+3:Nat):Int):=by rw [w64 (by omega) (by omega)];omega
   have hnx:PV.int .u32 (ibits .xor .u32 (IntKind.u32.wrap ((spN kk i).a+rot32 (spN kk i).b (-8))) (IntKind.u32.wrap (i:Int)))=u32C (spN kk (i+1)).d:=by rw [spN_next];rfl
   refine dO2 D125_13 [H2++[PObj.mk 231 ((spL kk z27 (i+1)).map u32C) (i+1)],H2++[PObj.mk 231 ((spL kk z27 (i+1+1)).map u32C) (i+1+1)]] (by kernel_rfl) rfl trivial ?_
   conv=>whnf
   (refine dS ?_;(conv=>whnf))
   refine ⟨.int .i64 ((i+1:Nat):Int),⟨congrArg (PV.int _) hw1,rfl,trivial⟩,?_⟩
   conv=>whnf
   (refine dS ?_;(conv=>whnf))
   apply Exists.intro
   apply And.intro
   ·conv=>whnf
    refine ⟨⟨by show (0:Int)≤(i:Int);omega,by show (i:Int)<((27:Nat):Int);omega⟩,rfl,rfl,trivial⟩
   conv=>whnf
   apply Exists.intro
   apply And.intro
   ·conv=>whnf
    ((conv in (_[_]?)=>tactic=>exact g0);(conv=>whnf))
    ((conv in (dropN _ _)=>tactic=>exact hr0);(conv=>whnf))
    exact ⟨rfl,rfl,trivial⟩
   conv=>whnf
   refine ⟨_,cP (c153 _) ⟨rfl,rfl,trivial⟩,?_⟩
   conv=>whnf
   iterate 2 (refine dS ?_;(conv=>whnf))
   refine ⟨.int .i64 ((i+3:Nat):Int),⟨congrArg (PV.int _) hw3,rfl,trivial⟩,?_⟩
   conv=>whnf
   refine ⟨.elem [u32C (spN kk (i+1)).d],⟨⟨by show (0:Int)≤((i+3:Nat):Int);omega,by show ((i+3:Nat):Int)<((i+3+1:Nat):Int);omega⟩,[u32C (spN kk (i+1)).d],at1' (k:=((i+3:Nat):Int).toNat*1) (by
    have e:((i+3:Nat):Int).toNat*1=i+3:=by omega
    rw [e,List.getElem?_append_right (by rw [List.length_map,spL2_len];omega),List.length_map,spL2_len,Nat.sub_self]
    exact congrArg some hnx),rfl,rfl,trivial⟩,?_⟩
   conv=>whnf
   iterate 2 (refine dS ?_;(conv=>whnf))
   apply Exists.intro
   apply And.intro
   ·conv=>whnf
    refine ⟨⟨by show (0:Int)≤((i+1:Nat):Int);omega,by show ((i+1:Nat):Int)<((27:Nat):Int);omega⟩,rfl,rfl,trivial⟩
   conv=>whnf
   apply Exists.intro
   apply And.intro
   ·conv=>whnf
    ((conv in (_[_]?)=>tactic=>exact g0);(conv=>whnf))
    ((conv in (Nat.ble _ _)=>tactic=>exact (show Nat.ble (0+((i+1:Nat):Int).toNat*1+1) ((spL kk z27 (i+1)).map u32C).length=true by rw [Nat.ble_eq,List.length_map,hlen1];omega));(conv=>whnf))
    refine ⟨rfl,?_,trivial⟩
    refine (sL H2 _ _).trans (congrArg (fun o=>H2++[o]) ?_)
    show PObj.mk 231 (setCells (0+((i+1:Nat):Int).toNat*1) [u32C (xor32 (rot32 (spN kk i).a 3) (spN kk (i+1)).d)] ((spL kk z27 (i+1)).map u32C)) (i+1+1)=_
    rw [←spN_a]
    have:=setCells_mid [] [] (spL kk z27 (i+1)) (i+1) (0+((i+1:Nat):Int).toNat*1) (spN kk (i+1)).a (by omega) (by simp)
    rw [List.nil_append,List.append_nil,List.nil_append,List.append_nil,spL_set kk z27 (i+1) rfl (by omega)] at this
    rw [this]
   conv=>whnf
   refine ⟨i+1,by omega,⟨rfl,rfl,?_,?_,trivial⟩,rfl,by omega⟩
   ·show PV.slice (i+3+1) ((spL2 kk i).map u32C++[PV.int .u32 (ibits .xor .u32 (IntKind.u32.wrap ((spN kk i).a+rot32 (spN kk i).b (-8))) (IntKind.u32.wrap (i:Int)))]) (some 230)=PV.slice (i+1+3) ((spL2 kk (i+1)).map u32C) (some 230)
    rw [hnx,spL2_succ,List.map_append,spN_d,List.map_cons,List.map_nil,show i+3+1=i+1+3 by omega,show i+1+2=i+3 by omega]
   ·exact congrArg (PV.int _) hw1
  ·have h:¬(i:Int)<26:=h
   have e:i=26:=by omega
   subst e
   have hspl:spL kk z27 (26+1)=spW kk:=by
    unfold spL spW
    rw [List.drop_of_length_le (by show 27≤26+1;omega),List.append_nil]
   rw [hspl]
   conv=>whnf
   ((conv in (_[_]?)=>tactic=>exact (gL H2 _));(conv=>whnf))
   have hR:∀x:PObj,(H2++[x])[H.length]? = some ⟨231,z27.map u32C,0⟩:=fun x=>by
    rw [List.getElem?_append_left (by rw [hH2];simp;omega),hH2,List.getElem?_append_left (by omega)];exact hr1
   ((conv in (_[_]?)=>tactic=>exact (hR _));(conv=>whnf))
   have hW:setCells 0 (((dropN 0 ((spW kk).map u32C)).take 27).map dem) (z27.map u32C)=(spW kk).map u32C:=by
    rw [agg27 _ (spW_len kk),setCells_eq _ _ _ (by rw [List.length_map,List.length_map,spW_len];exact Nat.le_refl _),List.take_zero,List.drop_of_length_le (by rw [List.length_map,List.length_map,spW_len];exact Nat.le_refl _),List.nil_append,List.append_nil]
   have h2:((H2++[PObj.mk 231 ((spW kk).map u32C) (26+1)]).set H.length (PObj.mk 231 (setCells 0 (((dropN 0 ((spW kk).map u32C)).take 27).map dem) (z27.map u32C)) (0+1)))[H.length]? = some (PObj.mk 231 ((spW kk).map u32C) 1):=by
    rw [gS (hR _),hW]
   generalize hh:(setH _ _ _ _)[List.length H]? = X
   rw [show X=some (PObj.mk 231 ((spW kk).map u32C) 1) from hh.symm.trans h2]
   conv=>whnf
   refine ⟨congrArg PV.agg (agg27 _ (spW_len kk)),?_⟩
   refine ext_of ?_ fun j hj=>?_
   ·show H.length≤((H2++[_]).set _ _).length
    rw [List.length_set,List.length_append,hH2,List.length_append];omega
   ·show ((H2++[_]).set H.length _)[j]? = _
    rw [List.getElem?_set_ne (by omega),List.getElem?_append_left (by rw [hH2,List.length_append];omega),hH2,List.getElem?_append_left (by omega),hH1,List.getElem?_append_left hj]
 | j+17,hj=>exact absurd hj (by omega)
theorem oldPs_u32 (l:List Int):oldPs (l.map u32C)=true:=by
 induction l with
 | nil=>rfl
 | cons x l ih=>simp [oldPs,oldP,u32C,ih]
theorem c125 (k:List UInt8) (hk:k.length=16):Pure prog 125 [.agg (k.map bC)] (.agg ((spW k).map u32C)) :=
 Pure.of_gc (by simp [oldR,oldP,oldPs_u32]) fun H=>c125x k hk H
end Go.Proofs.Tryz
