import Derived.Test.YtikacleldnaphaaGreatDoorA2
import Derived.Test.YtikacleldnaphaaGreatDoorProg
import Derived.Test.YtikacleldnaphaaGreatDoorA1
set_option linter.all false
set_option maxRecDepth 100000
namespace Go.Proofs.Tryz
open Go Ps
noncomputable section
noncomputable def tgA:TG:=(.node (.node (.node (.node (.node (.node .nil none (.node (.node .nil (some ⟨.strct [(30,0),(3,2),(24,3),(157,35)],36,80,[.str [],.str [],.int .i64 0]++List.replicate 32 (.int .u8 0)++[.ptr none]⟩) .nil) none (.node (.node .nil (some ⟨.arr 16 350,32,32,List.replicate 32 (.int .u8 0)⟩) .nil) none .nil))) none (.node (.node .nil (some ⟨.slice 82,1,24,[.nilS]⟩) .nil) none (.node .nil none (.node (.node .nil (some ⟨.ptr,1,8,[.ptr none]⟩) .nil) none .nil)))) none (.node (.node (.node .nil none (.node .nil (some ⟨.strct [(140,0),(4,1),(3,2)],3,40,[.nilS,.bool false,.int .i64 0]⟩) .nil)) (some ⟨.int .i64,1,8,[.int .i64 0]⟩) (.node .nil none (.node .nil (some ⟨.arr 27 230,27,108,List.replicate 27 (.int .u32 0)⟩) .nil))) none (.node (.node (.node (.node .nil (some ⟨.strct [(277,0)],1,8,[.ptr none]⟩) .nil) none .nil) (some ⟨.strct [(30,0),(56,2),(84,5),(85,6),(3,7),(3,8)],9,136,[.str [],.str [],.nilS,.nilS,.nilS,.ptr none,.ptr none,.int .i64 0,.int .i64 0]⟩) (.node .nil (some ⟨.arr 16 5,16,16,List.replicate 16 (.int .u8 0)⟩) .nil)) none .nil))) (some ⟨.int .i64,1,8,[.int .i64 0]⟩) (.node (.node (.node .nil (some ⟨.strct [(30,0),(3,2),(3,3)],4,48,[.str [],.str [],.int .i64 0,.int .i64 0]⟩) (.node (.node (.node .nil (some ⟨.ptr,1,8,[.ptr none]⟩) .nil) (some ⟨.strct [(30,0),(3,2),(24,3)],35,72,[.str [],.str [],.int .i64 0]++List.replicate 32 (.int .u8 0)⟩) .nil) none .nil)) none (.node (.node .nil none (.node (.node .nil (some ⟨.fn,1,8,[.nilF]⟩) .nil) none .nil)) none (.node .nil (some ⟨.ptr,1,8,[.ptr none]⟩) .nil))) none (.node (.node .nil none (.node (.node .nil (some ⟨.fn,1,8,[.nilF]⟩) .nil) none .nil)) none (.node (.node (.node .nil (some ⟨.ptr,1,8,[.ptr none]⟩) .nil) (some ⟨.slice 3,1,24,[.nilS]⟩) .nil) none (.node (.node .nil (some ⟨.ptr,1,8,[.ptr none]⟩) .nil) none .nil))))) (some ⟨.fn,1,8,[.nilF]⟩) (.node (.node (.node (.node (.node .nil none (.node .nil (some ⟨.strct [(9,0),(9,1),(36,2)],3,56,[.str [],.str [],.nilS]⟩) .nil)) (some ⟨.strct [(30,0),(24,2),(9,34),(3,35),(3,36)],37,96,[.str [],.str []]++List.replicate 32 (.int .u8 0)++[.str [],.int .i64 0,.int .i64 0]⟩) .nil) none .nil) (some ⟨.str,1,16,[.str []]⟩) (.node (.node (.node .nil none (.node (.node .nil (some ⟨.ptr,1,8,[.ptr none]⟩) .nil) none .nil)) (some ⟨.ptr,1,8,[.ptr none]⟩) .nil) (some ⟨.ptr,1,8,[.ptr none]⟩) (.node (.node .nil none (.node .nil (some ⟨.strct [(213,0),(215,1),(120,17),(120,18),(120,19)],20,48,[.ptr none]++List.replicate 16 (.int .u8 0)++[.int .i64 0,.int .i64 0,.int .i64 0]⟩) .nil)) none .nil))) (some ⟨.int .u8,1,1,[.int .u8 0]⟩) (.node (.node (.node .nil none (.node (.node (.node .nil (some ⟨.strct [(36,0),(9,1),(4,2)],3,48,[.nilS,.str [],.bool false]⟩) .nil) none .nil) none .nil)) (some ⟨.int .i32,1,4,[.int .i32 0]⟩) (.node (.node (.node (.node .nil (some ⟨.ptr,1,8,[.ptr none]⟩) .nil) none .nil) (some ⟨.ptr,1,8,[.ptr none]⟩) (.node .nil (some ⟨.ptr,1,8,[.ptr none]⟩) .nil)) (some ⟨.slice 130,1,24,[.nilS]⟩) .nil)) none (.node (.node (.node (.node (.node .nil (some ⟨.slice 230,1,24,[.nilS]⟩) .nil) none .nil) none (.node (.node .nil (some ⟨.fn,1,8,[.nilF]⟩) .nil) none .nil)) none (.node (.node .nil (some ⟨.int .u64,1,8,[.int .u64 0]⟩) .nil) none .nil)) none (.node (.node (.node .nil (some ⟨.ptr,1,8,[.ptr none]⟩) .nil) none (.node .nil (some ⟨.fn,1,8,[.nilF]⟩) .nil)) none .nil))))) none (.node (.node (.node (.node (.node (.node (.node (.node .nil (some ⟨.strct [(21,0),(230,1)],2,8,[.int .i32 0,.int .u32 0]⟩) .nil) none .nil) (some ⟨.strct [(30,0),(30,2),(3,4),(3,5)],6,80,[.str [],.str [],.str [],.str [],.int .i64 0,.int .i64 0]⟩) .nil) none (.node (.node (.node .nil (some ⟨.fn,1,8,[.nilF]⟩) .nil) none .nil) none .nil)) none (.node (.node (.node (.node .nil (some ⟨.ptr,1,8,[.ptr none]⟩) .nil) none .nil) none .nil) none .nil)) none (.node (.node (.node .nil (some ⟨.strct [(66,0),(22,4)],5,88,[.str [],.str [],.int .i64 0,.nilS,.nilS]⟩) .nil) none (.node .nil (some ⟨.strct [(102,0)],1,24,[.nilS]⟩) .nil)) (some ⟨.arr 32 5,32,32,List.replicate 32 (.int .u8 0)⟩) (.node (.node (.node .nil (some ⟨.slice 159,1,24,[.nilS]⟩) .nil) none .nil) (some ⟨.strct [(36,0),(53,1),(54,2)],3,72,[.nilS,.nilS,.nilS]⟩) (.node .nil (some ⟨.strB [(117,0),(118,0),(2,0)],1,8,[.int .i64 0]⟩) .nil)))) (some ⟨.bool,1,1,[.bool false]⟩) (.node (.node (.node (.node (.node (.node .nil (some ⟨.strB [(252,0),(254,0),(258,1)],3,12,[.int .u32 0,.int .i32 0,.int .u32 0]⟩) .nil) (some ⟨.ptr,1,8,[.ptr none]⟩) .nil) (some ⟨.strct [(66,0),(22,4),(30,5),(3,7),(3,8)],9,136,[.str [],.str [],.int .i64 0,.nilS,.nilS,.str [],.str [],.int .i64 0,.int .i64 0]⟩) (.node (.node .nil (some ⟨.strct [(22,0),(4,1)],2,32,[.nilS,.bool false]⟩) .nil) none .nil)) (some ⟨.slice 9,1,24,[.nilS]⟩) (.node .nil (some ⟨.ptr,1,8,[.ptr none]⟩) (.node (.node .nil (some ⟨.strct [(354,0),(22,1)],2,32,[.ptr none,.nilS]⟩) .nil) none .nil))) none (.node (.node .nil (some ⟨.ptr,1,8,[.ptr none]⟩) (.node .nil (some ⟨.fn,1,8,[.nilF]⟩) .nil)) none .nil)) none (.node (.node (.node (.node (.node .nil (some ⟨.arr 4 230,4,16,[.int .u32 0,.int .u32 0,.int .u32 0,.int .u32 0]⟩) .nil) (some ⟨.slice 35,1,24,[.nilS]⟩) .nil) (some ⟨.strct [(3,0),(64,1),(68,7),(70,16),(72,23),(74,28)],30,448,[.int .i64 0,.str [],.str [],.str [],.str [],.int .i64 0,.int .i64 0,.str [],.str [],.int .i64 0,.nilS,.nilS,.str [],.str [],.int .i64 0,.int .i64 0,.str [],.str [],.str [],.str [],.int .i64 0,.nilS,.nilS,.str [],.str [],.int .i64 0,.nilS,.nilS,.int .i64 0,.int .i64 0]⟩) .nil) (some ⟨.strct [(41,0),(42,1)],2,16,[.ptr none,.ptr none]⟩) (.node .nil none (.node (.node .nil (some ⟨.ptr,1,8,[.ptr none]⟩) .nil) (some ⟨.fn,1,8,[.nilF]⟩) .nil))) none (.node (.node .nil (some ⟨.slice 4,1,24,[.nilS]⟩) (.node (.node .nil (some ⟨.arr 256 5,256,256,List.replicate 256 (.int .u8 0)⟩) .nil) none .nil)) none .nil)))) (some ⟨.int .i64,1,8,[.int .i64 0]⟩) (.node (.node (.node (.node (.node (.node (.node .nil (some ⟨.strB [(252,0),(256,0)],2,8,[.int .i32 0,.int .u32 0]⟩) .nil) (some ⟨.arr 2 9,2,32,[.str [],.str []]⟩) .nil) (some ⟨.strct [(30,0),(3,2),(22,3)],4,64,[.str [],.str [],.int .i64 0,.nilS]⟩) .nil) none (.node (.node (.node .nil (some ⟨.fn,1,8,[.nilF]⟩) .nil) none .nil) none (.node (.node .nil (some ⟨.ptr,1,8,[.ptr none]⟩) .nil) none .nil))) none (.node (.node (.node (.node .nil (some ⟨.arr 4 173,4,32,[.int .u64 0,.int .u64 0,.int .u64 0,.int .u64 0]⟩) .nil) none .nil) (some ⟨.strct [(3,0),(3,1),(33,2),(35,39),(3,43),(5,44),(22,45),(3,46)],47,208,[.int .i64 0,.int .i64 0,.str [],.str []]++List.replicate 32 (.int .u8 0)++[.str [],.int .i64 0,.int .i64 0,.str [],.str [],.int .i64 0,.int .i64 0,.int .i64 0,.int .u8 0,.nilS,.int .i64 0]⟩) (.node .nil (some ⟨.slice 22,1,24,[.nilS]⟩) .nil)) none (.node (.node (.node .nil (some ⟨.ptr,1,8,[.ptr none]⟩) .nil) none .nil) none (.node (.node .nil (some ⟨.other,1,8,[.undef]⟩) .nil) none .nil)))) none (.node (.node (.node .nil (some ⟨.strct [(39,0),(3,1)],2,16,[.int .i64 0,.int .i64 0]⟩) (.node (.node .nil (some ⟨.arr 4 173,4,32,[.int .u64 0,.int .u64 0,.int .u64 0,.int .u64 0]⟩) .nil) none .nil)) (some ⟨.ptr,1,8,[.ptr none]⟩) .nil) none (.node (.node (.node .nil (some ⟨.strct [(152,0)],1,24,[.nilS]⟩) .nil) none .nil) (some ⟨.fn,1,8,[.nilF]⟩) (.node .nil (some ⟨.strct [(30,0),(56,2),(100,5),(115,6),(120,7),(120,8)],9,136,[.str [],.str [],.nilS,.nilS,.nilS,.ptr none,.ptr none,.int .i64 0,.int .i64 0]⟩) .nil)))) none (.node (.node (.node (.node (.node (.node .nil (some ⟨.strct [(215,0),(260,16),(231,19),(254,46)],47,140,List.replicate 16 (.int .u8 0)++[.int .u32 0,.int .i32 0]++List.replicate 29 (.int .u32 0)⟩) .nil) (some ⟨.strct [(22,0),(4,1)],2,32,[.nilS,.bool false]⟩) .nil) (some ⟨.strct [(30,0),(66,2),(22,6)],7,120,[.str [],.str [],.str [],.str [],.int .i64 0,.nilS,.nilS]⟩) .nil) (some ⟨.strct [(30,0),(30,2),(24,4),(36,36),(3,37),(3,38)],39,136,[.str [],.str [],.str [],.str []]++List.replicate 32 (.int .u8 0)++[.nilS,.int .i64 0,.int .i64 0]⟩) (.node .nil (some ⟨.slice 163,1,24,[.nilS]⟩) (.node .nil (some ⟨.int .u32,1,4,[.int .u32 0]⟩) .nil))) (some ⟨.slice 5,1,24,[.nilS]⟩) (.node .nil (some ⟨.slice 193,1,24,[.nilS]⟩) .nil)) none (.node (.node (.node (.node .nil (some ⟨.strct [(140,0),(4,1),(3,2)],3,40,[.nilS,.bool false,.int .i64 0]⟩) .nil) none .nil) none (.node (.node (.node .nil (some ⟨.arr 256 4,256,256,List.replicate 256 (.bool false)⟩) .nil) none .nil) none .nil)) (some ⟨.strct [(9,0),(9,1)],2,32,[.str [],.str []]⟩) (.node (.node .nil (some ⟨.int .u64,1,8,[.int .u64 0]⟩) (.node (.node .nil (some ⟨.strct [(5,0),(5,1)],2,2,[.int .u8 0,.int .u8 0]⟩) .nil) none .nil)) none (.node .nil none (.node .nil (some ⟨.strB [(117,0),(230,0)],1,4,[.int .u32 0]⟩) .nil))))))))
noncomputable def fd3:FD:=⟨Tryz.f3,[],[(11,{ cons:=[(11,[58]),(13,[69])],imp:=[1,5,9],win:=[(0,0,2),(2,0,2),(3,0,2),(4,1,2),(5,1,1),(6,0,2),(7,0,2),(8,2,2),(9,2,2),(10,3,3),(11,3,3),(12,3,3),(13,3,3),(14,3,3)],cnt:=3 }),(13,{ imp:=[7,8,14,17],win:=[(6,0,2),(8,1,1),(9,0,2),(10,0,2),(11,0,2),(12,0,2),(13,2,2),(14,2,2),(15,3,3),(16,3,3),(17,3,3),(18,4,4),(19,4,4)],cnt:=4 })]⟩
noncomputable def fd4:FD:=⟨Tryz.f4,[],[]⟩
noncomputable def fd5:FD:=⟨Tryz.f5,[],[]⟩
noncomputable def fd6:FD:=⟨Tryz.f6,[],[]⟩
noncomputable def fd7:FD:=⟨Tryz.f7,[],[]⟩
noncomputable def fd8:FD:=⟨Tryz.f8,[],[]⟩
noncomputable def fd9:FD:=⟨Tryz.f9,[],[(20,{ cons:=[(13,[102])],imp:=[13],cnt:=1 })]⟩
noncomputable def fd10:FD:=⟨Tryz.f10,[],[]⟩
noncomputable def fd11:FD:=⟨Tryz.f11,[3],[(1,{ imp:=[15,20],win:=[(16,1,1),(17,1,1),(18,1,1),(19,1,2),(20,1,1),(21,2,2),(22,2,2)],cnt:=2 })]⟩
noncomputable def fd12:FD:=⟨Tryz.f12,[],[]⟩
noncomputable def fd13:FD:=⟨Tryz.f13,[4,5,6],[]⟩
noncomputable def fd14:FD:=⟨Tryz.f14,[],[]⟩
noncomputable def fd15:FD:=⟨Tryz.f15,[],[]⟩
noncomputable def fd16:FD:=⟨Tryz.f16,[2,3],[(6,{ cnt:=0 })]⟩
noncomputable def fd17:FD:=⟨Tryz.f17,[],[]⟩
noncomputable def fd18:FD:=⟨Tryz.f18,[],[(8,{ imp:=[9],win:=[(7,0,1),(8,0,1),(10,1,1),(11,1,1),(12,1,1),(13,1,1),(14,1,1),(15,1,1),(16,1,1),(17,1,1),(18,1,1),(19,1,1),(20,1,1),(21,1,1),(22,1,1),(23,1,1),(24,1,1),(25,1,1),(26,1,1)],cnt:=1 })]⟩
noncomputable def fd19:FD:=⟨Tryz.f19,[6],[]⟩
noncomputable def fd20:FD:=⟨Tryz.f20,[6,9],[]⟩
noncomputable def fd21:FD:=⟨Tryz.f21,[4],[]⟩
noncomputable def fd22:FD:=⟨Tryz.f22,[],[]⟩
noncomputable def fd23:FD:=⟨Tryz.f23,[],[(3,{ imp:=[3,7],win:=[(4,0,1),(5,0,1),(6,0,1),(7,1,1),(8,2,2),(9,2,2)],cnt:=2 })]⟩
noncomputable def fd24:FD:=⟨Tryz.f24,[],[]⟩
noncomputable def fd25:FD:=⟨Tryz.f25,[],[(5,{ cnt:=0 })]⟩
noncomputable def fd26:FD:=⟨Tryz.f26,[],[]⟩
noncomputable def fd27:FD:=⟨Tryz.f27,[],[]⟩
noncomputable def fd28:FD:=⟨Tryz.f28,[],[]⟩
noncomputable def fd29:FD:=⟨Tryz.f29,[1],[]⟩
noncomputable def fd30:FD:=⟨Tryz.f30,[1,2],[(6,{ cons:=[(15,[29]),(17,[30])],imp:=[2,5,8,11,13,14],win:=[(3,0,1),(4,0,1),(5,1,1),(6,0,2),(7,0,2),(8,2,2),(9,0,3),(10,0,3),(11,3,3),(12,4,4),(13,4,4),(14,5,5),(15,6,6),(16,6,6),(17,6,6),(18,6,6)],cnt:=6 }),(9,{ cons:=[(18,[53]),(20,[54])],imp:=[2,5,8,11,14,16,17],win:=[(3,0,1),(4,0,1),(5,1,1),(6,0,2),(7,0,2),(8,2,2),(9,0,3),(10,0,3),(11,3,3),(12,0,4),(13,0,4),(14,4,4),(15,5,5),(16,5,5),(17,6,6),(18,7,7),(19,7,7),(20,7,7),(21,7,7)],cnt:=7 }),(11,{ cons:=[(15,[72]),(17,[73])],imp:=[3,7,11,13,14],win:=[(4,0,1),(5,0,1),(6,0,1),(7,1,1),(8,0,2),(9,0,2),(10,0,2),(11,2,2),(12,3,3),(13,3,3),(14,4,4),(15,5,5),(16,5,5),(17,5,5),(18,5,5)],cnt:=5 }),(13,{ cons:=[(11,[87]),(13,[88])],imp:=[3,7,9,10],win:=[(4,0,1),(5,0,1),(6,0,1),(7,1,1),(8,2,2),(9,2,2),(10,3,3),(11,4,4),(12,4,4),(13,4,4),(14,4,4)],cnt:=4 }),(14,{ cons:=[(11,[100]),(13,[101])],imp:=[3,7,9,10],win:=[(4,0,1),(5,0,1),(6,0,1),(7,1,1),(8,2,2),(9,2,2),(10,3,3),(11,4,4),(12,4,4),(13,4,4),(14,4,4)],cnt:=4 })]⟩
noncomputable def fd31:FD:=⟨Tryz.f31,[],[]⟩
noncomputable def fd32:FD:=⟨Tryz.f32,[4,5],[(9,{ cons:=[(15,[49])],imp:=[9,12,15],win:=[(0,0,2),(1,0,1),(2,0,1),(3,0,1),(4,0,1),(5,0,1),(6,0,1),(7,0,1),(10,1,1),(11,1,1),(12,1,1),(13,2,2),(14,2,2),(15,2,2)],lf:=[(4,12)],cnt:=3 })]⟩
noncomputable def fd33:FD:=⟨Tryz.f33,[4,5],[(6,{ cons:=[(14,[36])],imp:=[11,14],win:=[(0,0,1),(12,1,1),(13,1,1),(14,1,1)],lf:=[(4,11)],cnt:=2 })]⟩
noncomputable def fd34:FD:=⟨Tryz.f34,[4,5],[(3,{ imp:=[2,5,7],win:=[(0,0,2),(3,0,2),(4,0,1),(5,1,1),(6,2,2),(7,2,2),(8,3,3),(9,3,3)],cnt:=3 })]⟩
noncomputable def fd35:FD:=⟨Tryz.f35,[4,5],[(3,{ imp:=[4,6],win:=[(0,0,1),(1,0,1),(2,0,1),(5,1,1),(6,1,1),(7,2,2),(8,2,2)],cnt:=2 })]⟩
noncomputable def fd36:FD:=⟨Tryz.f36,[1,2],[(3,{ cons:=[(18,[24]),(20,[25])],imp:=[2,5,8,11,14,16,17],win:=[(3,0,1),(4,0,1),(5,1,1),(6,0,2),(7,0,2),(8,2,2),(9,0,3),(10,0,3),(11,3,3),(12,0,4),(13,0,4),(14,4,4),(15,5,5),(16,5,5),(17,6,6),(18,7,7),(19,7,7),(20,7,7),(21,7,7)],cnt:=7 })]⟩
noncomputable def fd37:FD:=⟨Tryz.f37,[1,2],[(3,{ cons:=[(12,[18]),(14,[19])],imp:=[2,5,8,10,11],win:=[(3,0,1),(4,0,1),(5,1,1),(6,0,2),(7,0,2),(8,2,2),(9,3,3),(10,3,3),(11,4,4),(12,5,5),(13,5,5),(14,5,5),(15,5,5)],cnt:=5 })]⟩
noncomputable def fd38:FD:=⟨Tryz.f38,[4,8],[(3,{ cons:=[(9,[32]),(10,[39])],imp:=[2,8],win:=[(3,0,1),(4,0,1),(5,0,1),(6,0,1),(7,0,1),(8,1,1),(9,2,2),(10,2,2)],cnt:=2 })]⟩
noncomputable def fd39:FD:=⟨Tryz.f39,[],[(14,{ imp:=[6],win:=[(7,1,1)],cnt:=1 }),(17,{ cons:=[(14,[90])],imp:=[14],win:=[(15,1,1)],cnt:=1 })]⟩
noncomputable def fd40:FD:=⟨Tryz.f40,[],[]⟩
noncomputable def fd41:FD:=⟨Tryz.f41,[],[]⟩
noncomputable def fd42:FD:=⟨Tryz.f42,[4,5],[]⟩
noncomputable def fd43:FD:=⟨Tryz.f43,[],[]⟩
noncomputable def fd44:FD:=⟨Tryz.f44,[4,5,7],[]⟩
noncomputable def fd45:FD:=⟨Tryz.f45,[4],[]⟩
noncomputable def fd46:FD:=⟨Tryz.f46,[3,6],[]⟩
noncomputable def fd47:FD:=⟨Tryz.f47,[],[]⟩
noncomputable def fd48:FD:=⟨Tryz.f48,[],[]⟩
noncomputable def fd49:FD:=⟨Tryz.f49,[],[]⟩
noncomputable def fd50:FD:=⟨Tryz.f50,[],[]⟩
noncomputable def fd51:FD:=⟨Tryz.f51,[],[(10,{ imp:=[8,11],win:=[(9,1,2),(10,0,1),(11,1,1),(12,2,2),(13,2,2),(14,2,2)],cnt:=2 })]⟩
noncomputable def fd52:FD:=⟨Tryz.f52,[],[]⟩
noncomputable def fd53:FD:=⟨Tryz.f53,[2],[]⟩
noncomputable def fd54:FD:=⟨Tryz.f54,[],[]⟩
noncomputable def fd55:FD:=⟨Tryz.f55,[],[(7,{ cnt:=0 }),(9,{ cons:=[(15,[62])],imp:=[10,15],win:=[(11,1,1),(12,1,1),(13,1,2),(14,0,1),(15,1,1),(16,2,2)],robs:=[24],res:=[(14,0)],cnt:=2 }),(15,{ cons:=[(12,[83]),(14,[95])],imp:=[10],win:=[(11,1,1),(12,1,1),(13,1,1),(14,1,1),(15,1,1)],cnt:=1 }),(18,{ imp:=[8],win:=[(9,1,1)],cnt:=1 }),(20,{ imp:=[13],win:=[(14,1,1)],cnt:=1 }),(22,{ imp:=[6],win:=[(7,1,1)],cnt:=1 }),(25,{ cons:=[(14,[152])],imp:=[14],win:=[(15,1,1)],cnt:=1 })]⟩
noncomputable def fd56:FD:=⟨Tryz.f56,[],[]⟩
noncomputable def fd57:FD:=⟨Tryz.f57,[1],[(2,{ imp:=[7],win:=[(0,0,1),(1,0,1),(2,0,1),(3,0,1),(8,1,1),(9,1,1),(10,1,1),(11,1,1),(12,1,1),(13,1,1),(14,1,1),(15,1,1),(16,1,1),(17,1,1),(18,1,1),(19,1,1),(20,1,1),(21,1,1),(22,1,1),(23,1,1),(24,1,1),(25,1,1),(26,1,1),(27,1,1),(28,1,1),(29,1,1),(30,1,1),(31,1,1),(32,1,1),(33,1,1),(34,1,1),(35,1,1)],cnt:=1 }),(4,{ imp:=[3],win:=[(4,1,1),(5,1,1),(6,1,1),(7,1,1),(8,1,1),(9,1,1),(10,1,1),(11,0,1),(12,0,1),(13,0,1),(14,0,1),(15,1,1),(16,1,1)],cnt:=1 })]⟩
noncomputable def fd58:FD:=⟨Tryz.f58,[2],[]⟩
noncomputable def fd59:FD:=⟨Tryz.f59,[4,5],[]⟩
noncomputable def fd60:FD:=⟨Tryz.f60,[1,2],[(1,{ cons:=[(8,[10])],imp:=[2,5,7],win:=[(3,0,1),(4,0,1),(5,1,1),(6,2,2),(7,2,2),(8,3,3)],cnt:=3 })]⟩
noncomputable def fd61:FD:=⟨Tryz.f61,[2],[]⟩
noncomputable def fd62:FD:=⟨Tryz.f62,[1,2],[(1,{ cons:=[(11,[13])],imp:=[2,5,8,10],win:=[(3,0,1),(4,0,1),(5,1,1),(6,0,2),(7,0,2),(8,2,2),(9,3,3),(10,3,3),(11,4,4)],cnt:=4 })]⟩
noncomputable def fd63:FD:=⟨Tryz.f63,[2],[]⟩
noncomputable def fd64:FD:=⟨Tryz.f64,[1],[]⟩
noncomputable def fd65:FD:=⟨Tryz.f65,[3],[]⟩
noncomputable def fd66:FD:=⟨Tryz.f66,[1],[(1,{ imp:=[3,8],win:=[(4,0,1),(5,0,1),(6,0,1),(7,1,1),(8,1,1),(9,2,2)],cnt:=2 })]⟩
noncomputable def fd67:FD:=⟨Tryz.f67,[3],[(5,{ cnt:=0 })]⟩
noncomputable def fd68:FD:=⟨Tryz.f68,[1,3],[]⟩
noncomputable def fd69:FD:=⟨Tryz.f69,[],[]⟩
noncomputable def fd70:FD:=⟨Tryz.f70,[],[(1,{ cons:=[(10,[7]),(12,[10]),(14,[13])],imp:=[2,5,8,10,12,14],win:=[(3,0,1),(4,0,1),(5,1,1),(6,0,2),(7,0,2),(8,2,2),(9,1,3),(10,3,3),(11,4,4),(12,4,4),(13,5,5),(14,5,5)],cnt:=6 }),(5,{ cons:=[(8,[30])],imp:=[5,8],win:=[(0,0,1),(1,0,1),(2,0,1),(6,1,1),(7,1,1),(8,1,1)],cnt:=2 })]⟩
noncomputable def fd71:FD:=⟨Tryz.f71,[],[]⟩
noncomputable def fd72:FD:=⟨Tryz.f72,[1],[(12,{ cnt:=0 }),(17,{ imp:=[6],win:=[(7,1,1)],cnt:=1 }),(22,{ cnt:=0 })]⟩
noncomputable def fd73:FD:=⟨Tryz.f73,[],[]⟩
noncomputable def fd74:FD:=⟨Tryz.f74,[1],[]⟩
noncomputable def fd75:FD:=⟨Tryz.f75,[2],[]⟩
noncomputable def fd76:FD:=⟨Tryz.f76,[1],[]⟩
noncomputable def fd77:FD:=⟨Tryz.f77,[2,3],[]⟩
noncomputable def fd78:FD:=⟨Tryz.f78,[4,8,12],[(7,{ cons:=[(11,[12]),(12,[46])],ls:=[(0,11,12)],cnt:=0 })]⟩
noncomputable def fd79:FD:=⟨Tryz.f79,[3,6],[(2,{ cons:=[(5,[17]),(8,[21])],imp:=[6,7],win:=[(7,1,1),(8,2,2)],cnt:=2 })]⟩
noncomputable def fd80:FD:=⟨Tryz.f80,[],[]⟩
noncomputable def fd81:FD:=⟨Tryz.f81,[4],[(1,{ cnt:=0 }),(3,{ imp:=[10],win:=[(11,1,1),(12,1,1),(13,1,1),(14,1,1),(15,1,1)],cnt:=1 })]⟩
noncomputable def fd82:FD:=⟨Tryz.f82,[2],[]⟩
noncomputable def fd83:FD:=⟨Tryz.f83,[3,4],[(1,{ cons:=[(12,[8]),(14,[20])],imp:=[10],win:=[(11,1,1),(12,1,1),(13,1,1),(14,1,1),(15,1,1)],cnt:=1 }),(4,{ imp:=[8],win:=[(9,1,1),(10,1,1)],cnt:=1 }),(6,{ imp:=[13],win:=[(14,1,1),(15,1,1)],cnt:=1 })]⟩
noncomputable def fd84:FD:=⟨Tryz.f84,[4,5],[(3,{ cnt:=0 }),(6,{ imp:=[5],win:=[(6,1,1)],cnt:=1 }),(10,{ cons:=[(10,[69])],imp:=[7,10],win:=[(0,0,1),(8,1,1),(9,1,1),(10,1,1)],lf:=[(4,7)],cnt:=2 })]⟩
noncomputable def fd86:FD:=⟨Tryz.f86,[],[]⟩
noncomputable def fd87:FD:=⟨Tryz.f87,[],[]⟩
noncomputable def fd88:FD:=⟨Tryz.f88,[],[]⟩
noncomputable def fd89:FD:=⟨Tryz.f89,[3],[]⟩
noncomputable def fd91:FD:=⟨Tryz.f91,[4],[(9,{ cnt:=0 })]⟩
noncomputable def fd92:FD:=⟨Tryz.f92,[],[]⟩
noncomputable def fd93:FD:=⟨Tryz.f93,[],[]⟩
noncomputable def fd94:FD:=⟨Tryz.f94,[4],[]⟩
noncomputable def fd95:FD:=⟨Tryz.f95,[4],[(4,{ cnt:=0 })]⟩
noncomputable def fd96:FD:=⟨Tryz.f96,[5],[(16,{ cons:=[(2,[76]),(3,[77])],imp:=[2,3],win:=[(1,0,1),(3,1,1),(4,2,2)],cnt:=2 }),(18,{ cons:=[(2,[84]),(3,[85])],imp:=[2,3],win:=[(1,0,1),(3,1,1),(4,2,2)],cnt:=2 }),(19,{ cons:=[(2,[86]),(3,[87])],imp:=[2,3],win:=[(1,0,1),(3,1,1),(4,2,2)],cnt:=2 })]⟩
noncomputable def fd97:FD:=⟨Tryz.f97,[4,7],[(1,{ cnt:=0 }),(13,{ cnt:=0 }),(17,{ cons:=[(10,[94])],imp:=[7,10],win:=[(0,0,1),(8,1,1),(9,1,1),(10,1,1)],lf:=[(4,7)],cnt:=2 })]⟩
noncomputable def fd98:FD:=⟨Tryz.f98,[1],[]⟩
noncomputable def fd99:FD:=⟨Tryz.f99,[1],[]⟩
noncomputable def fd100:FD:=⟨Tryz.f100,[1],[]⟩
noncomputable def fd101:FD:=⟨Tryz.f101,[1],[]⟩
noncomputable def fd102:FD:=⟨Tryz.f102,[],[]⟩
noncomputable def fd103:FD:=⟨Tryz.f103,[],[]⟩
noncomputable def fd104:FD:=⟨Tryz.f104,[],[]⟩
noncomputable def fd105:FD:=⟨Tryz.f105,[],[]⟩
noncomputable def fd106:FD:=⟨Tryz.f106,[],[]⟩
noncomputable def fd107:FD:=⟨Tryz.f107,[],[]⟩
noncomputable def fd108:FD:=⟨Tryz.f108,[2],[]⟩
noncomputable def fd109:FD:=⟨Tryz.f109,[1],[]⟩
noncomputable def fd110:FD:=⟨Tryz.f110,[],[]⟩
noncomputable def fd111:FD:=⟨Tryz.f111,[],[(4,{ imp:=[4],cnt:=1 })]⟩
noncomputable def fd112:FD:=⟨Tryz.f112,[2,3],[]⟩
noncomputable def fd113:FD:=⟨Tryz.f113,[2],[]⟩
noncomputable def fd114:FD:=⟨Tryz.f114,[],[]⟩
noncomputable def fd115:FD:=⟨Tryz.f115,[],[]⟩
noncomputable def fd116:FD:=⟨Tryz.f116,[],[]⟩
noncomputable def fd117:FD:=⟨Tryz.f117,[],[]⟩
noncomputable def fd118:FD:=⟨Tryz.f118,[2],[]⟩
noncomputable def fd119:FD:=⟨Tryz.f119,[2],[]⟩
noncomputable def fd120:FD:=⟨Tryz.f120,[2],[]⟩
noncomputable def fd121:FD:=⟨Tryz.f121,[],[(4,{ imp:=[4,14],win:=[(5,1,1),(6,1,1),(7,1,1),(8,1,1),(9,1,1),(10,1,1),(11,1,1),(12,1,1),(13,1,1),(14,1,1),(15,2,2),(16,2,2)],cnt:=2 })]⟩
noncomputable def fd122:FD:=⟨Tryz.f122,[2,3],[(6,{ imp:=[7,19],win:=[(8,1,1),(9,1,1),(10,1,1),(11,1,1),(12,1,1),(13,1,1),(14,1,1),(15,1,1),(16,1,1),(17,1,1),(18,1,1),(19,1,1),(20,2,2),(21,2,2),(22,2,2),(23,2,2),(24,2,2),(25,2,2),(26,2,2),(27,2,2),(28,2,2),(29,2,2),(30,2,2),(31,2,2),(32,2,2),(33,2,2),(34,2,2),(35,2,2),(36,2,2),(37,2,2),(38,2,2),(39,2,2),(40,2,2),(41,2,2)],cnt:=2 })]⟩
noncomputable def fd123:FD:=⟨Tryz.f123,[1],[(5,{ cons:=[(10,[15]),(12,[19])],imp:=[10,12],win:=[(1,0,1),(5,0,1),(6,0,1),(7,0,1),(8,0,1),(11,1,1),(12,1,1)],cnt:=2 }),(6,{ cons:=[(2,[22]),(3,[23])],imp:=[2,3],win:=[(1,0,1),(3,1,1)],cnt:=2 })]⟩
noncomputable def fd124:FD:=⟨Tryz.f124,[3,6,7],[]⟩
noncomputable def fd125:FD:=⟨Tryz.f125,[1],[(5,{ cons:=[(17,[27])],imp:=[17],cnt:=1 }),(12,{ cons:=[(14,[6]),(15,[57])],imp:=[8],win:=[(0,0,1),(1,0,1),(2,0,1),(3,0,1),(9,1,1),(10,0,1),(11,0,1),(12,1,1),(13,1,1),(14,1,1),(15,1,1)],ls:=[(0,14,6)],cnt:=1 }),(13,{ cons:=[(13,[69])],imp:=[5,13],win:=[(0,0,1),(1,0,1),(6,0,1),(7,0,1),(8,0,1),(9,0,1),(10,0,1),(11,1,1),(12,1,1),(13,1,1)],cnt:=2 })]⟩
noncomputable def fd126:FD:=⟨Tryz.f126,[2],[(1,{ imp:=[1,3],win:=[(2,0,1),(3,1,1),(4,2,2),(5,2,2)],cnt:=2 }),(8,{ cons:=[(8,[56])],imp:=[8],cnt:=1 }),(13,{ cnt:=0 })]⟩
noncomputable def fd127:FD:=⟨Tryz.f127,[4],[]⟩
noncomputable def fd128:FD:=⟨Tryz.f128,[],[]⟩
noncomputable def fd129:FD:=⟨Tryz.f129,[1,2],[]⟩
noncomputable def fd130:FD:=⟨Tryz.f130,[4,5],[]⟩
noncomputable def fd131:FD:=⟨Tryz.f131,[6],[(4,{ cons:=[(8,[29])],imp:=[7],win:=[(0,0,1),(1,0,1),(2,0,1),(3,0,1),(4,0,1),(8,1,1),(9,1,1)],cnt:=1 }),(5,{ imp:=[6,12],win:=[(7,0,1),(8,0,1),(9,0,1),(10,0,1),(11,0,1),(12,1,1),(13,2,2)],cnt:=2 })]⟩
noncomputable def fd132:FD:=⟨Tryz.f132,[],[]⟩
noncomputable def fd133:FD:=⟨Tryz.f133,[],[]⟩
noncomputable def fd134:FD:=⟨Tryz.f134,[6],[]⟩
noncomputable def fd135:FD:=⟨Tryz.f135,[4],[]⟩
noncomputable def fd136:FD:=⟨Tryz.f136,[4],[]⟩
noncomputable def fd137:FD:=⟨Tryz.f137,[2],[]⟩
noncomputable def fd138:FD:=⟨Tryz.f138,[3],[]⟩
noncomputable def fd139:FD:=⟨Tryz.f139,[],[]⟩
noncomputable def fd140:FD:=⟨Tryz.f140,[2],[]⟩
noncomputable def fd141:FD:=⟨Tryz.f141,[3,6],[(7,{ imp:=[8],win:=[(9,1,1),(10,0,1),(11,0,1),(12,0,1),(13,0,1),(14,1,1),(15,1,1)],cnt:=1 }),(9,{ cons:=[(7,[51])],imp:=[6],win:=[(7,1,1),(8,1,1)],cnt:=1 })]⟩
noncomputable def fd142:FD:=⟨Tryz.f142,[],[]⟩
noncomputable def fd143:FD:=⟨Tryz.f143,[],[]⟩
noncomputable def fd144:FD:=⟨Tryz.f144,[],[]⟩
noncomputable def fd145:FD:=⟨Tryz.f145,[],[]⟩
noncomputable def fd146:FD:=⟨Tryz.f146,[],[(4,{ imp:=[3,6],win:=[(4,0,1),(5,0,1),(6,1,1),(7,2,2)],cnt:=2 })]⟩
noncomputable def fd147:FD:=⟨Tryz.f147,[3],[]⟩
noncomputable def fd148:FD:=⟨Tryz.f148,[],[]⟩
noncomputable def fd149:FD:=⟨Tryz.f149,[],[]⟩
noncomputable def fd150:FD:=⟨Tryz.f150,[],[]⟩
noncomputable def fd151:FD:=⟨Tryz.f151,[3],[(4,{ imp:=[1],win:=[(2,0,1),(3,1,1),(4,0,1),(5,0,1),(6,0,1),(7,1,1),(8,1,1)],cnt:=1 })]⟩
noncomputable def fd152:FD:=⟨Tryz.f152,[],[]⟩
noncomputable def fd153:FD:=⟨Tryz.f153,[],[]⟩
noncomputable def fd154:FD:=⟨Tryz.f154,[],[]⟩
noncomputable def fd155:FD:=⟨Tryz.f155,[],[(0,{ cons:=[(9,[10])],imp:=[9],cnt:=1 }),(3,{ cons:=[(9,[23])],imp:=[9],cnt:=1 })]⟩
noncomputable def fd156:FD:=⟨Tryz.f156,[],[(0,{ cons:=[(12,[11])],imp:=[12],cnt:=1 }),(1,{ cons:=[(13,[24])],imp:=[5,13],win:=[(0,0,1),(6,0,1),(7,0,1),(8,0,1),(9,0,1),(10,1,1),(11,0,1),(12,1,1),(13,1,1)],cnt:=2 }),(2,{ cons:=[(8,[32])],imp:=[5,8],win:=[(0,0,1),(6,0,1),(7,1,1),(8,1,1)],cnt:=2 }),(3,{ cons:=[(12,[44])],imp:=[12],cnt:=1 }),(4,{ cons:=[(13,[57])],imp:=[5,13],win:=[(0,0,1),(6,0,1),(7,0,1),(8,0,1),(9,0,1),(10,1,1),(11,0,1),(12,1,1),(13,1,1)],cnt:=2 }),(5,{ cons:=[(12,[69])],imp:=[12],cnt:=1 }),(6,{ cons:=[(13,[82])],imp:=[5,13],win:=[(0,0,1),(6,0,1),(7,0,1),(8,0,1),(9,0,1),(10,1,1),(11,0,1),(12,1,1),(13,1,1)],cnt:=2 }),(7,{ cons:=[(12,[94])],imp:=[12],cnt:=1 }),(8,{ cons:=[(13,[107])],imp:=[5,13],win:=[(0,0,1),(6,0,1),(7,0,1),(8,0,1),(9,0,1),(10,1,1),(11,0,1),(12,1,1),(13,1,1)],cnt:=2 }),(9,{ cons:=[(8,[115])],imp:=[5,8],win:=[(0,0,1),(6,0,1),(7,1,1),(8,1,1)],cnt:=2 })]⟩
noncomputable def fd157:FD:=⟨Tryz.f157,[],[]⟩
noncomputable def fd158:FD:=⟨Tryz.f158,[],[]⟩
noncomputable def fd159:FD:=⟨Tryz.f159,[1],[]⟩
noncomputable def fd160:FD:=⟨Tryz.f160,[],[]⟩
noncomputable def fd161:FD:=⟨Tryz.f161,[1],[]⟩
noncomputable def fd162:FD:=⟨Tryz.f162,[2],[]⟩
noncomputable def fd163:FD:=⟨Tryz.f163,[1],[]⟩
noncomputable def fd164:FD:=⟨Tryz.f164,[4],[]⟩
noncomputable def fd165:FD:=⟨Tryz.f165,[1,2],[(4,{ cons:=[(14,[24])],imp:=[2,5,8,11,13],win:=[(3,0,1),(4,0,1),(5,1,1),(6,0,2),(7,0,2),(8,2,2),(9,0,3),(10,0,3),(11,3,3),(12,4,4),(13,4,4),(14,5,5)],cnt:=5 }),(7,{ cons:=[(17,[45])],imp:=[2,5,8,11,14,16],win:=[(3,0,1),(4,0,1),(5,1,1),(6,0,2),(7,0,2),(8,2,2),(9,0,3),(10,0,3),(11,3,3),(12,0,4),(13,0,4),(14,4,4),(15,5,5),(16,5,5),(17,6,6)],cnt:=6 }),(9,{ cons:=[(14,[61])],imp:=[3,7,11,13],win:=[(4,0,1),(5,0,1),(6,0,1),(7,1,1),(8,0,2),(9,0,2),(10,0,2),(11,2,2),(12,3,3),(13,3,3),(14,4,4)],cnt:=4 }),(11,{ cons:=[(10,[73])],imp:=[3,7,9],win:=[(4,0,1),(5,0,1),(6,0,1),(7,1,1),(8,2,2),(9,2,2),(10,3,3)],cnt:=3 }),(12,{ cons:=[(10,[83])],imp:=[3,7,9],win:=[(4,0,1),(5,0,1),(6,0,1),(7,1,1),(8,2,2),(9,2,2),(10,3,3)],cnt:=3 })]⟩
noncomputable def fd166:FD:=⟨Tryz.f166,[3],[]⟩
noncomputable def fd167:FD:=⟨Tryz.f167,[],[]⟩
noncomputable def fd168:FD:=⟨Tryz.f168,[],[]⟩
noncomputable def fd169:FD:=⟨Tryz.f169,[],[(6,{ cnt:=0 })]⟩
noncomputable def fd170:FD:=⟨Tryz.f170,[6],[]⟩
noncomputable def fd171:FD:=⟨Tryz.f171,[8,3000013],[]⟩
noncomputable def fd172:FD:=⟨Tryz.f172,[1],[(2,{ imp:=[3,4],win:=[(0,0,1),(4,1,1)],cnt:=2 })]⟩
noncomputable def fd173:FD:=⟨Tryz.f173,[],[]⟩
noncomputable def fd174:FD:=⟨Tryz.f174,[4],[]⟩
noncomputable def fd175:FD:=⟨Tryz.f175,[1,2],[(1,{ cons:=[(34,[37]),(36,[38])],imp:=[2,6,14,18,21,24,27,30,32,33],win:=[(3,1,1),(4,1,1),(5,1,1),(6,1,1),(7,2,2),(8,2,2),(9,2,2),(10,2,2),(11,2,2),(12,2,2),(13,2,2),(14,2,2),(15,3,9),(16,0,3),(17,0,3),(18,3,3),(19,0,4),(20,0,4),(21,4,4),(22,0,5),(23,0,5),(24,5,5),(25,0,6),(26,0,6),(27,6,6),(28,0,7),(29,0,7),(30,7,7),(31,8,8),(32,8,8),(33,9,9),(34,10,10),(35,10,10),(36,10,10),(37,10,10)],cnt:=10 })]⟩
noncomputable def fd176:FD:=⟨Tryz.f176,[4],[]⟩
noncomputable def fd177:FD:=⟨Tryz.f177,[1,2],[(1,{ cons:=[(26,[29]),(28,[30])],imp:=[2,7,12,16,19,22,24,25],win:=[(3,1,1),(4,1,1),(5,1,1),(6,1,1),(7,1,1),(8,2,2),(9,2,2),(10,2,2),(11,2,2),(12,2,2),(13,3,7),(14,0,3),(15,0,3),(16,3,3),(17,0,4),(18,0,4),(19,4,4),(20,0,5),(21,0,5),(22,5,5),(23,6,6),(24,6,6),(25,7,7),(26,8,8),(27,8,8),(28,8,8),(29,8,8)],cnt:=8 })]⟩
noncomputable def fd178:FD:=⟨Tryz.f178,[4],[]⟩
noncomputable def fd179:FD:=⟨Tryz.f179,[],[]⟩
noncomputable def fd180:FD:=⟨Tryz.f180,[],[]⟩
noncomputable def fd181:FD:=⟨Tryz.f181,[],[]⟩
noncomputable def fd182:FD:=⟨Tryz.f182,[3,6],[]⟩
noncomputable def fd183:FD:=⟨Tryz.f183,[],[]⟩
noncomputable def fd184:FD:=⟨Tryz.f184,[],[]⟩
noncomputable def fd185:FD:=⟨Tryz.f185,[3],[(4,{ cnt:=0 })]⟩
noncomputable def fd186:FD:=⟨Tryz.f186,[],[]⟩
noncomputable def fd187:FD:=⟨Tryz.f187,[],[]⟩
noncomputable def fd188:FD:=⟨Tryz.f188,[],[]⟩
noncomputable def fd189:FD:=⟨Tryz.f189,[2],[]⟩
noncomputable def fd190:FD:=⟨Tryz.f190,[],[]⟩
noncomputable def fd191:FD:=⟨Tryz.f191,[],[]⟩
noncomputable def fd192:FD:=⟨Tryz.f192,[],[]⟩
noncomputable def fd193:FD:=⟨Tryz.f193,[],[]⟩
noncomputable def fd194:FD:=⟨Tryz.f194,[],[]⟩
noncomputable def fd195:FD:=⟨Tryz.f195,[],[]⟩
noncomputable def fd196:FD:=⟨Tryz.f196,[],[]⟩
noncomputable def fd197:FD:=⟨Tryz.f197,[3],[(4,{ cnt:=0 })]⟩
noncomputable def fd198:FD:=⟨Tryz.f198,[],[]⟩
noncomputable def fd199:FD:=⟨Tryz.f199,[],[]⟩
noncomputable def fd200:FD:=⟨Tryz.f200,[],[]⟩
noncomputable def fd201:FD:=⟨Tryz.f201,[4],[]⟩
noncomputable def fd202:FD:=⟨Tryz.f202,[],[]⟩
noncomputable def fd203:FD:=⟨Tryz.f203,[2],[]⟩
noncomputable def fd204:FD:=⟨Tryz.f204,[],[]⟩
noncomputable def fd205:FD:=⟨Tryz.f205,[],[]⟩
noncomputable def fd206:FD:=⟨Tryz.f206,[1],[]⟩
noncomputable def fd207:FD:=⟨Tryz.f207,[],[]⟩
noncomputable def fd208:FD:=⟨Tryz.f208,[],[]⟩
noncomputable def fd209:FD:=⟨Tryz.f209,[1],[(1,{ cons:=[(9,[7]),(10,[9]),(11,[11])],imp:=[9,10,11],win:=[(2,0,1),(3,0,1),(4,0,2),(5,0,2),(10,1,1),(11,2,2)],robs:=[68,70,72],res:=[(6,0),(7,1),(8,2)],cnt:=3 })]⟩
noncomputable def fd210:FD:=⟨Tryz.f210,[4],[]⟩
noncomputable def fd211:FD:=⟨Tryz.f211,[1,2],[(1,{ cons:=[(8,[10])],imp:=[2,5,7],win:=[(3,0,1),(4,0,1),(5,1,1),(6,2,2),(7,2,2),(8,3,3)],cnt:=3 })]⟩
noncomputable def fd212:FD:=⟨Tryz.f212,[2,3],[]⟩
noncomputable def fd213:FD:=⟨Tryz.f213,[1,2],[(1,{ cons:=[(11,[13])],imp:=[2,5,8,10],win:=[(3,0,1),(4,0,1),(5,1,1),(6,0,2),(7,0,2),(8,2,2),(9,3,3),(10,3,3),(11,4,4)],cnt:=4 })]⟩
noncomputable def fd214:FD:=⟨Tryz.f214,[2],[]⟩
noncomputable def fd215:FD:=⟨Tryz.f215,[2,5],[]⟩
noncomputable def fd216:FD:=⟨Tryz.f216,[2],[(1,{ imp:=[1,3],win:=[(2,0,1),(3,1,1),(4,2,2),(5,2,2)],cnt:=2 }),(9,{ cons:=[(7,[51])],imp:=[7],cnt:=1 }),(11,{ cnt:=0 })]⟩
noncomputable def fd217:FD:=⟨Tryz.f217,[2],[]⟩
noncomputable def fd218:FD:=⟨Tryz.f218,[6],[]⟩
noncomputable def fd219:FD:=⟨Tryz.f219,[],[]⟩
noncomputable def fd220:FD:=⟨Tryz.f220,[2],[]⟩
noncomputable def fd221:FD:=⟨Tryz.f221,[8,31],[]⟩
noncomputable def fd222:FD:=⟨Tryz.f222,[],[]⟩
noncomputable def fd223:FD:=⟨Tryz.f223,[],[]⟩
noncomputable def fd224:FD:=⟨Tryz.f224,[2,3,4,10],[(6,{ cnt:=0 })]⟩
noncomputable def fd225:FD:=⟨Tryz.f225,[3,4,5,6],[]⟩
noncomputable def fd226:FD:=⟨Tryz.f226,[],[]⟩
noncomputable def fd227:FD:=⟨Tryz.f227,[],[(3,{ cons:=[(13,[21]),(15,[25])],imp:=[13,15],win:=[(2,0,1),(3,0,1),(14,1,1),(15,1,1)],cnt:=2 })]⟩
noncomputable def fd228:FD:=⟨Tryz.f228,[],[]⟩
noncomputable def fd229:FD:=⟨Tryz.f229,[],[]⟩
noncomputable def fd230:FD:=⟨Tryz.f230,[],[]⟩
noncomputable def fd231:FD:=⟨Tryz.f231,[],[]⟩
noncomputable def fd232:FD:=⟨Tryz.f232,[],[]⟩
noncomputable def fd233:FD:=⟨Tryz.f233,[],[]⟩
noncomputable def fd234:FD:=⟨Tryz.f234,[],[(2,{ cnt:=0 }),(4,{ cnt:=0 }),(6,{ cnt:=0 })]⟩
noncomputable def fd235:FD:=⟨Tryz.f235,[1],[]⟩
noncomputable def fd236:FD:=⟨Tryz.f236,[2],[]⟩
noncomputable def fd237:FD:=⟨Tryz.f237,[2],[]⟩
noncomputable def fd238:FD:=⟨Tryz.f238,[],[(3,{ cons:=[(13,[21]),(15,[25])],imp:=[13,15],win:=[(2,0,1),(3,0,1),(14,1,1),(15,1,1)],cnt:=2 })]⟩
noncomputable def fd239:FD:=⟨Tryz.f239,[],[]⟩
noncomputable def fd240:FD:=⟨Tryz.f240,[],[(0,{ cons:=[(8,[9])],imp:=[8],cnt:=1 }),(2,{ cons:=[(8,[19])],imp:=[8],cnt:=1 })]⟩
noncomputable def fd241:FD:=⟨Tryz.f241,[],[(2,{ cons:=[(11,[15])],imp:=[11],cnt:=1 }),(3,{ cons:=[(13,[28])],imp:=[5,13],win:=[(0,0,1),(6,0,1),(7,0,1),(8,0,1),(9,0,1),(10,1,1),(11,0,1),(12,1,1),(13,1,1)],cnt:=2 }),(4,{ cons:=[(8,[36])],imp:=[5,8],win:=[(0,0,1),(6,0,1),(7,1,1),(8,1,1)],cnt:=2 }),(5,{ cons:=[(11,[47])],imp:=[11],cnt:=1 }),(6,{ cons:=[(13,[60])],imp:=[5,13],win:=[(0,0,1),(6,0,1),(7,0,1),(8,0,1),(9,0,1),(10,1,1),(11,0,1),(12,1,1),(13,1,1)],cnt:=2 }),(7,{ cons:=[(11,[71])],imp:=[11],cnt:=1 }),(8,{ cons:=[(13,[84])],imp:=[5,13],win:=[(0,0,1),(6,0,1),(7,0,1),(8,0,1),(9,0,1),(10,1,1),(11,0,1),(12,1,1),(13,1,1)],cnt:=2 }),(9,{ cons:=[(11,[95])],imp:=[11],cnt:=1 }),(10,{ cons:=[(13,[108])],imp:=[5,13],win:=[(0,0,1),(6,0,1),(7,0,1),(8,0,1),(9,0,1),(10,1,1),(11,0,1),(12,1,1),(13,1,1)],cnt:=2 }),(11,{ cons:=[(8,[116])],imp:=[5,8],win:=[(0,0,1),(6,0,1),(7,1,1),(8,1,1)],cnt:=2 })]⟩
noncomputable def fd242:FD:=⟨Tryz.f242,[],[]⟩
noncomputable def fd243:FD:=⟨Tryz.f243,[],[]⟩
noncomputable def fd244:FD:=⟨Tryz.f244,[],[]⟩
noncomputable def fd245:FD:=⟨Tryz.f245,[4,21],[]⟩
noncomputable def fd246:FD:=⟨Tryz.f246,[],[]⟩
noncomputable def fd247:FD:=⟨Tryz.f247,[],[]⟩
noncomputable def fd248:FD:=⟨Tryz.f248,[],[]⟩
noncomputable def fd249:FD:=⟨Tryz.f249,[3000006],[]⟩
noncomputable def fd250:FD:=⟨Tryz.f250,[4],[]⟩
noncomputable def fd251:FD:=⟨Tryz.f251,[],[]⟩
noncomputable def fd252:FD:=⟨Tryz.f252,[],[]⟩
noncomputable def fd253:FD:=⟨Tryz.f253,[3],[]⟩
noncomputable def fd254:FD:=⟨Tryz.f254,[],[]⟩
noncomputable def fd255:FD:=⟨Tryz.f255,[],[(6,{ cnt:=0 }),(7,{ imp:=[7],win:=[(8,1,1)],cnt:=1 }),(14,{ cnt:=0 }),(31,{ cnt:=0 })]⟩
noncomputable def fd256:FD:=⟨Tryz.f256,[],[]⟩
noncomputable def fd257:FD:=⟨Tryz.f257,[4],[]⟩
noncomputable def fd258:FD:=⟨Tryz.f258,[],[]⟩
noncomputable def fd259:FD:=⟨Tryz.f259,[2],[]⟩
noncomputable def fd260:FD:=⟨Tryz.f260,[],[]⟩
noncomputable def fd261:FD:=⟨Tryz.f261,[],[]⟩
noncomputable def fd262:FD:=⟨Tryz.f262,[],[]⟩
noncomputable def fd264:FD:=⟨Tryz.f264,[],[]⟩
noncomputable def fd265:FD:=⟨Tryz.f265,[],[]⟩
noncomputable def fd266:FD:=⟨Tryz.f266,[],[]⟩
noncomputable def fd267:FD:=⟨Tryz.f267,[],[]⟩
noncomputable def fd268:FD:=⟨Tryz.f268,[],[]⟩
noncomputable def fd271:FD:=⟨Tryz.f271,[],[(4,{ cons:=[(12,[27])],imp:=[12],cnt:=1 }),(6,{ cons:=[(4,[32])],cnt:=0 })]⟩
noncomputable def fd272:FD:=⟨Tryz.f272,[],[]⟩
noncomputable def fd273:FD:=⟨Tryz.f273,[],[]⟩
noncomputable def fd274:FD:=⟨Tryz.f274,[],[(3,{ cnt:=0 })]⟩
noncomputable def fd275:FD:=⟨Tryz.f275,[],[]⟩
noncomputable def fd276:FD:=⟨Tryz.f276,[],[(1,{ cnt:=0 })]⟩
noncomputable def fd277:FD:=⟨Tryz.f277,[],[]⟩
noncomputable def fd279:FD:=⟨Tryz.f279,[],[(0,{ imp:=[4,5],win:=[(0,0,1),(1,0,1),(2,0,1),(5,1,1)],cnt:=2 })]⟩
noncomputable def fd281:FD:=⟨Tryz.f281,[],[]⟩
noncomputable def fd282:FD:=⟨Tryz.f282,[],[]⟩
noncomputable def fd283:FD:=⟨Tryz.f283,[],[(0,{ cons:=[(15,[19])],imp:=[8],win:=[(9,0,1),(10,0,1),(11,0,1),(12,0,1),(13,0,1),(14,1,1),(15,1,1)],cnt:=1 })]⟩
noncomputable def fd288:FD:=⟨Tryz.f288,[],[]⟩
noncomputable def fd333:FD:=⟨Tryz.f333,[],[]⟩
noncomputable def ftA:Tr FD:=(.node (.node (.node (.node (.node (.node (.node (.node (.node .nil (some fd255) .nil) (some fd127) .nil) (some fd63) (.node .nil (some fd191) .nil)) (some fd31) (.node (.node .nil (some fd159) .nil) (some fd95) (.node .nil (some fd223) .nil))) (some fd15) (.node (.node (.node (.node .nil (some fd271) .nil) (some fd143) .nil) (some fd79) (.node .nil (some fd207) .nil)) (some fd47) (.node (.node .nil (some fd175) .nil) (some fd111) (.node .nil (some fd239) .nil)))) (some fd7) (.node (.node (.node (.node .nil (some fd135) .nil) (some fd71) (.node .nil (some fd199) .nil)) (some fd39) (.node (.node .nil (some fd167) .nil) (some fd103) (.node .nil (some fd231) .nil))) (some fd23) (.node (.node (.node (.node .nil (some fd279) .nil) (some fd151) .nil) (some fd87) (.node .nil (some fd215) .nil)) (some fd55) (.node (.node .nil (some fd183) .nil) (some fd119) (.node .nil (some fd247) .nil))))) (some fd3) (.node (.node (.node (.node (.node (.node .nil (some fd259) .nil) (some fd131) .nil) (some fd67) (.node .nil (some fd195) .nil)) (some fd35) (.node (.node .nil (some fd163) .nil) (some fd99) (.node .nil (some fd227) .nil))) (some fd19) (.node (.node (.node (.node .nil (some fd275) .nil) (some fd147) .nil) (some fd83) (.node .nil (some fd211) .nil)) (some fd51) (.node (.node .nil (some fd179) .nil) (some fd115) (.node .nil (some fd243) .nil)))) (some fd11) (.node (.node (.node (.node (.node .nil (some fd267) .nil) (some fd139) .nil) (some fd75) (.node .nil (some fd203) .nil)) (some fd43) (.node (.node .nil (some fd171) .nil) (some fd107) (.node .nil (some fd235) .nil))) (some fd27) (.node (.node (.node (.node .nil (some fd283) .nil) (some fd155) .nil) (some fd91) (.node .nil (some fd219) .nil)) (some fd59) (.node (.node .nil (some fd187) .nil) (some fd123) (.node .nil (some fd251) .nil)))))) none (.node (.node (.node (.node (.node (.node (.node .nil (some fd257) .nil) (some fd129) .nil) (some fd65) (.node .nil (some fd193) .nil)) (some fd33) (.node (.node .nil (some fd161) .nil) (some fd97) (.node .nil (some fd225) .nil))) (some fd17) (.node (.node (.node (.node .nil (some fd273) .nil) (some fd145) .nil) (some fd81) (.node .nil (some fd209) .nil)) (some fd49) (.node (.node .nil (some fd177) .nil) (some fd113) (.node .nil (some fd241) .nil)))) (some fd9) (.node (.node (.node (.node (.node .nil (some fd265) .nil) (some fd137) .nil) (some fd73) (.node .nil (some fd201) .nil)) (some fd41) (.node (.node .nil (some fd169) .nil) (some fd105) (.node .nil (some fd233) .nil))) (some fd25) (.node (.node (.node (.node .nil (some fd281) .nil) (some fd153) .nil) (some fd89) (.node .nil (some fd217) .nil)) (some fd57) (.node (.node .nil (some fd185) .nil) (some fd121) (.node .nil (some fd249) .nil))))) (some fd5) (.node (.node (.node (.node (.node (.node .nil (some fd261) .nil) (some fd133) .nil) (some fd69) (.node .nil (some fd197) .nil)) (some fd37) (.node (.node .nil (some fd165) .nil) (some fd101) (.node .nil (some fd229) .nil))) (some fd21) (.node (.node (.node (.node .nil (some fd277) .nil) (some fd149) .nil) none (.node .nil (some fd213) .nil)) (some fd53) (.node (.node .nil (some fd181) .nil) (some fd117) (.node .nil (some fd245) .nil)))) (some fd13) (.node (.node (.node (.node .nil (some fd141) .nil) (some fd77) (.node (.node .nil (some fd333) .nil) (some fd205) .nil)) (some fd45) (.node (.node .nil (some fd173) .nil) (some fd109) (.node .nil (some fd237) .nil))) (some fd29) (.node (.node (.node .nil (some fd157) .nil) (some fd93) (.node .nil (some fd221) .nil)) (some fd61) (.node (.node .nil (some fd189) .nil) (some fd125) (.node .nil (some fd253) .nil))))))) none (.node (.node (.node (.node (.node (.node (.node (.node .nil (some fd256) .nil) (some fd128) .nil) (some fd64) (.node .nil (some fd192) .nil)) (some fd32) (.node (.node (.node .nil (some fd288) .nil) (some fd160) .nil) (some fd96) (.node .nil (some fd224) .nil))) (some fd16) (.node (.node (.node (.node .nil (some fd272) .nil) (some fd144) .nil) (some fd80) (.node .nil (some fd208) .nil)) (some fd48) (.node (.node .nil (some fd176) .nil) (some fd112) (.node .nil (some fd240) .nil)))) (some fd8) (.node (.node (.node (.node (.node .nil (some fd264) .nil) (some fd136) .nil) (some fd72) (.node .nil (some fd200) .nil)) (some fd40) (.node (.node .nil (some fd168) .nil) (some fd104) (.node .nil (some fd232) .nil))) (some fd24) (.node (.node (.node .nil (some fd152) .nil) (some fd88) (.node .nil (some fd216) .nil)) (some fd56) (.node (.node .nil (some fd184) .nil) (some fd120) (.node .nil (some fd248) .nil))))) (some fd4) (.node (.node (.node (.node (.node (.node .nil (some fd260) .nil) (some fd132) .nil) (some fd68) (.node .nil (some fd196) .nil)) (some fd36) (.node (.node .nil (some fd164) .nil) (some fd100) (.node .nil (some fd228) .nil))) (some fd20) (.node (.node (.node (.node .nil (some fd276) .nil) (some fd148) .nil) (some fd84) (.node .nil (some fd212) .nil)) (some fd52) (.node (.node .nil (some fd180) .nil) (some fd116) (.node .nil (some fd244) .nil)))) (some fd12) (.node (.node (.node (.node (.node .nil (some fd268) .nil) (some fd140) .nil) (some fd76) (.node .nil (some fd204) .nil)) (some fd44) (.node (.node .nil (some fd172) .nil) (some fd108) (.node .nil (some fd236) .nil))) (some fd28) (.node (.node (.node .nil (some fd156) .nil) (some fd92) (.node .nil (some fd220) .nil)) (some fd60) (.node (.node .nil (some fd188) .nil) (some fd124) (.node .nil (some fd252) .nil)))))) none (.node (.node (.node (.node (.node (.node (.node .nil (some fd258) .nil) (some fd130) .nil) (some fd66) (.node .nil (some fd194) .nil)) (some fd34) (.node (.node .nil (some fd162) .nil) (some fd98) (.node .nil (some fd226) .nil))) (some fd18) (.node (.node (.node (.node .nil (some fd274) .nil) (some fd146) .nil) (some fd82) (.node .nil (some fd210) .nil)) (some fd50) (.node (.node .nil (some fd178) .nil) (some fd114) (.node .nil (some fd242) .nil)))) (some fd10) (.node (.node (.node (.node (.node .nil (some fd266) .nil) (some fd138) .nil) (some fd74) (.node .nil (some fd202) .nil)) (some fd42) (.node (.node .nil (some fd170) .nil) (some fd106) (.node .nil (some fd234) .nil))) (some fd26) (.node (.node (.node (.node .nil (some fd282) .nil) (some fd154) .nil) none (.node .nil (some fd218) .nil)) (some fd58) (.node (.node .nil (some fd186) .nil) (some fd122) (.node .nil (some fd250) .nil))))) (some fd6) (.node (.node (.node (.node (.node (.node .nil (some fd262) .nil) (some fd134) .nil) (some fd70) (.node .nil (some fd198) .nil)) (some fd38) (.node (.node .nil (some fd166) .nil) (some fd102) (.node .nil (some fd230) .nil))) (some fd22) (.node (.node (.node .nil (some fd150) .nil) (some fd86) (.node .nil (some fd214) .nil)) (some fd54) (.node (.node .nil (some fd182) .nil) (some fd118) (.node .nil (some fd246) .nil)))) (some fd14) (.node (.node (.node (.node .nil (some fd142) .nil) (some fd78) (.node .nil (some fd206) .nil)) (some fd46) (.node (.node .nil (some fd174) .nil) (some fd110) (.node .nil (some fd238) .nil))) (some fd30) (.node (.node (.node .nil (some fd158) .nil) (some fd94) (.node .nil (some fd222) .nil)) (some fd62) (.node (.node .nil (some fd190) .nil) (some fd126) (.node .nil (some fd254) .nil))))))))
end
end Go.Proofs.Tryz
/- order: 3 7 15 31 63 127 255 191 95 159 223 47 79 143 271 207 111 175 239 23 39 71 135 199 103 167 231 55 87 151 279 215 119 183 247 11 19 35 67 131 259 195 99 163 227 51 83 147 275 211 115 179 243 27 43 75 139 267 203 107 171 235 59 91 155 283 219 123 187 251 5 9 17 33 65 129 257 193 97 161 225 49 81 145 273 209 113 177 241 25 41 73 137 265 201 105 169 233 57 89 153 281 217 121 185 249 13 21 37 69 133 261 197 101 165 229 53 149 277 213 117 181 245 29 45 77 141 205 333 109 173 237 61 93 157 221 125 189 253 4 8 16 32 64 128 256 192 96 160 288 224 48 80 144 272 208 112 176 240 24 40 72 136 264 200 104 168 232 56 88 152 216 120 184 248 12 20 36 68 132 260 196 100 164 228 52 84 148 276 212 116 180 244 28 44 76 140 268 204 108 172 236 60 92 156 220 124 188 252 6 10 18 34 66 130 258 194 98 162 226 50 82 146 274 210 114 178 242 26 42 74 138 266 202 106 170 234 58 154 282 218 122 186 250 14 22 38 70 134 262 198 102 166 230 54 86 150 214 118 182 246 30 46 78 142 206 110 174 238 62 94 158 222 126 190 254 -/
/- The words that the walks use at home; export.py writes them out. -/
namespace Ps
open Go
end Ps
namespace Go.Proofs.Tryz
open Go Ps
theorem follows:prog.follows .mixedOrders=true:=by kernel_rfl
theorem zjb:6≤prog.depth:=by
 have h:Nat.ble 6 prog.depth=true:=by kernel_rfl
 exact zqh h
theorem fnS {tt : TT} {imm : List Nat} {f : Nat} {fn : Func} {args : List PV} {H : PH} {Q : PV → PH → Prop} (hT : ttOk prog tt = true) (hf : prog.funcs[f]? = some fn) (h : pFun2 prog tt imm fn args H Q) (hn : (fn.name == "runtime.NumGoroutine") = false := by kernel_rfl) : CK prog f args H Q :=
  zhy follows hT zjb hf hn h
def tt226:TT:=[(3,⟨.int .i64,1,8,[.int .i64 0]⟩),(9,⟨.str,1,16,[.str []]⟩)]
theorem zwc:ttOk prog tt226=true:=by kernel_rfl
def z2e:List Nat:=[]
def tt223:TT:=[(9,⟨.str,1,16,[.str []]⟩)]
theorem zwb:ttOk prog tt223=true:=by kernel_rfl
def z2d:List Nat:=[]
def tt188:TT:=[(4,⟨.bool,1,1,[.bool false]⟩),(9,⟨.str,1,16,[.str []]⟩)]
theorem zv5:ttOk prog tt188=true:=by kernel_rfl
def z1m:List Nat:=[]
def tt144:TT:=[(9,⟨.str,1,16,[.str []]⟩)]
theorem zv0:ttOk prog tt144=true:=by kernel_rfl
def z0o:List Nat:=[]
theorem zco {p s:List UInt8} (h:p.length≤s.length):(s.take p.length=p)↔p.isPrefixOf s=true:=by
 rw [List.isPrefixOf_iff_prefix,List.prefix_iff_eq_take];exact eq_comm
theorem c226 (s p:List UInt8):Pure prog 226 [.str s,.str p] (.bool (p.isPrefixOf s)):=by
 intro H
 (refine fnS (imm:=z2e) zwc func226 ?_;(conv=>whnf))
 refine ⟨fun h=>?_,fun h=>?_⟩
 ·conv=>whnf
  have h:p.length≤s.length:=by omega
  refine ⟨⟨by omega,by omega,by omega⟩,?_⟩
  conv=>whnf
  simp only [Int.toNat_natCast,Int.toNat_zero,List.drop_zero]
  refine ⟨fun h2=>?_,fun h2=>?_⟩
  ·conv=>whnf
   exact ⟨by rw [(zco h).1 h2];rfl,rfl⟩
  ·conv=>whnf
   have:p.isPrefixOf s=false:=by
    cases hb:p.isPrefixOf s with
    | false=>rfl
    | true=>exact absurd ((zco h).2 hb) h2
   exact ⟨by rw [this];rfl,rfl⟩
 ·conv=>whnf
  have:p.isPrefixOf s=false:=by
   cases hb:p.isPrefixOf s with
   | false=>rfl
   | true =>
    have:=(List.isPrefixOf_iff_prefix.1 hb).length_le
    omega
  exact ⟨by rw [this];rfl,rfl⟩
theorem c223 (s p:List UInt8):Pure prog 223 [.str s,.str p] (.bool (p.isPrefixOf s)):=by
 intro H
 (refine fnS (imm:=z2d) zwb func223 ?_;(conv=>whnf))
 (refine cP ((c226 s p)) ?_;try (conv=>whnf))
 exact ⟨rfl,rfl⟩
def cutP (s p:List UInt8):PV:=if p.isPrefixOf s then .tup [.str (s.drop p.length),.bool true] else .tup [.str s,.bool false]
theorem c188 (s p:List UInt8):Pure prog 188 [.str s,.str p] (cutP s p):=by
 intro H
 (refine fnS (imm:=z1m) zv5 func188 ?_;(conv=>whnf))
 refine cP (c226 s p) ?_
 unfold cutP
 cases hb:p.isPrefixOf s
 ·conv=>whnf
  exact ⟨rfl,rfl⟩
 ·conv=>whnf
  have:=(List.isPrefixOf_iff_prefix.1 hb).length_le
  refine ⟨⟨by omega,by omega,by omega⟩,?_⟩
  conv=>whnf
  refine ⟨?_,rfl⟩
  simp [tupOf]
theorem c144 (s p:List UInt8):Pure prog 144 [.str s,.str p] (cutP s p):=by
 intro H
 (refine fnS (imm:=z0o) zv0 func144 ?_;(conv=>whnf))
 refine cP (c188 s p) ?_
 unfold cutP
 cases hb:p.isPrefixOf s
 ·conv=>whnf
  exact ⟨rfl,rfl⟩
 ·conv=>whnf
  exact ⟨rfl,rfl⟩
def tt272:TT:=[(5,⟨.int .u8,1,1,[.int .u8 0]⟩),(9,⟨.str,1,16,[.str []]⟩)]
theorem zwj:ttOk prog tt272=true:=by kernel_rfl
def z2z:List Nat:=[]
def tt264:TT:=[(3,⟨.int .i64,1,8,[.int .i64 0]⟩),(5,⟨.int .u8,1,1,[.int .u8 0]⟩),(9,⟨.str,1,16,[.str []]⟩)]
theorem zwi:ttOk prog tt264=true:=by kernel_rfl
def z2x:List Nat:=[]
def tt247:TT:=[(9,⟨.str,1,16,[.str []]⟩)]
theorem zwh:ttOk prog tt247=true:=by kernel_rfl
def z2s:List Nat:=[]
def tt246:TT:=[(3,⟨.int .i64,1,8,[.int .i64 0]⟩),(5,⟨.int .u8,1,1,[.int .u8 0]⟩),(9,⟨.str,1,16,[.str []]⟩)]
theorem zwg:ttOk prog tt246=true:=by kernel_rfl
def z2r:List Nat:=[]
def tt221:TT:=[(3,⟨.int .i64,1,8,[.int .i64 0]⟩),(9,⟨.str,1,16,[.str []]⟩),(36,⟨.slice 9,1,24,[.slice 0 [] (some 9)]⟩)]
theorem zwa:ttOk prog tt221=true:=by kernel_rfl
def tt178:TT:=[(3,⟨.int .i64,1,8,[.int .i64 0]⟩),(9,⟨.str,1,16,[.str []]⟩),(36,⟨.slice 9,1,24,[.slice 0 [] (some 9)]⟩)]
theorem zv4:ttOk prog tt178=true:=by kernel_rfl
def z1k:List Nat:=[]
theorem c263 (s:List UInt8) (c:UInt8):Pure prog 263 [.str s,bC c] (.int .i64 (Lib.countByte s c)) :=
 zg1 (e:=Extern.BytealgCount.count) func263 (by kernel_rfl) (by kernel_rfl) (by kernel_rfl) (by kernel_rfl) (zti s c)
theorem c280 (s:List UInt8) (c:UInt8):Pure prog 280 [.str s,bC c] (.int .i64 (Lib.indexByte s c)) :=
 zg1 (e:=Extern.BytealgIndexByte.indexByte) func280 (by kernel_rfl) (by kernel_rfl) (by kernel_rfl) (by kernel_rfl) (ztj s c)
theorem c272 (s:List UInt8) (c:UInt8):Pure prog 272 [.str s,bC c] (.int .i64 (Lib.indexByte s c)):=by
 intro H
 (refine fnS (imm:=z2z) zwj func272 ?_;(conv=>whnf))
 (refine cP ((c280 s c)) ?_;try (conv=>whnf))
 exact ⟨rfl,rfl⟩
theorem c264 (s:List UInt8) (c:UInt8):Pure prog 264 [.str s,.str [c]] (.int .i64 (Lib.indexByte s c)):=by
 intro H
 (refine fnS (imm:=z2x) zwi func264 ?_;(conv=>whnf))
 refine ⟨fun h=>absurd h (by simp),fun h=>?_⟩
 conv=>whnf
 refine ⟨fun h=>?_,fun h=>?_⟩
 ·subst h
  conv=>whnf
  exact ⟨by simp [Lib.indexByte,tupOf],rfl⟩
 ·conv=>whnf
  refine ⟨fun h1=>?_,fun h1=>absurd (by simp) h1⟩
  conv=>whnf
  refine ⟨⟨by omega,by simp⟩,c,rfl,?_⟩
  conv=>whnf
  (refine cP ((c272 s c)) ?_;try (conv=>whnf))
  exact ⟨rfl,rfl⟩
theorem c247 (s:List UInt8) (c:UInt8):Pure prog 247 [.str s,.str [c]] (.int .i64 (Lib.indexByte s c)):=by
 intro H
 (refine fnS (imm:=z2s) zwh func247 ?_;(conv=>whnf))
 (refine cP ((c264 s c)) ?_;try (conv=>whnf))
 exact ⟨rfl,rfl⟩
theorem c246 (s:List UInt8) (c:UInt8):Pure prog 246 [.str s,.str [c]] (.int .i64 (Lib.countByte s c)):=by
 intro H
 (refine fnS (imm:=z2r) zwg func246 ?_;(conv=>whnf))
 refine ⟨fun h=>absurd h (by simp),fun h=>?_⟩
 conv=>whnf
 refine ⟨fun h1=>?_,fun h1=>absurd (by simp) h1⟩
 conv=>whnf
 refine ⟨⟨by omega,by simp⟩,c,rfl,?_⟩
 conv=>whnf
 (refine cP ((c263 s c)) ?_;try (conv=>whnf))
 exact ⟨rfl,rfl⟩
def zx5:List Nat:=[31]
theorem c221 (s:List UInt8) (c:UInt8) (H:PH) (hs:s.length≤1099511627776) :
  CK prog 221 [.str s,.str [c],.int .i64 0,.int .i64 (-1)] H fun r H' =>
   r=.sref H.length 0 (zad c s).length (zad c s).length∧∃v,H'=H++[⟨9,(zad c s).map .str,v⟩]:=by
 have hcl:=zem c s
 have hsl:=zb7 c s
 refine zdn (tt:=tt221) (imm:=zx5) follows zwa zjb func221 (by kernel_rfl) ?_
 conv=>whnf
 refine ⟨fun h=>absurd h (by decide),fun h=>?_⟩
 conv=>whnf
 refine ⟨fun h=>absurd h (by simp),fun h=>?_⟩
 conv=>whnf
 refine ⟨fun h=>?_,fun h=>absurd (by decide) h⟩
 conv=>whnf
 refine cP (c246 s c) ?_
 conv=>whnf
 rw [w64 (by omega) (by omega),w64 (by omega) (by omega),Int.min_eq_left (by omega)]
 refine ⟨⟨by omega,by omega,by simp;omega⟩,?_⟩
 conv=>whnf
 refine lO (List UInt8×List (List UInt8)) (fun x=>[(0,.str x.1),(1,.str [c]),(2,.int .i64 0),(3,.int .i64 (Lib.countByte s c)),(9,.sref H.length 0 (zad c s).length (zad c s).length),(10,.int .i64 x.2.length)])
  (fun x=>H++[⟨9,x.2.map .str++List.replicate (Lib.countByte x.1 c+1) (.str []),x.2.length⟩])
  (fun x=>x.2++zad c x.1=zad c s∧x.1.length≤s.length) (fun x=>x.1.length) ⟨(s,[]),⟨rfl,zqn _⟩,?_,?_⟩ ?_
 ·refine ⟨rfl,rfl,rfl,?_,?_,rfl,zqv⟩
  ·show PV.int _ _=PV.int _ _
   rw [w64 (by omega) (by omega)];congr 1;omega
  ·show PV.sref _ _ _ _=PV.sref _ _ _ _
   congr 1 <;> omega
 ·show H++[PObj.mk _ _ _]=H++[PObj.mk _ _ _]
  rw [zed]
  simp
 ·rintro ⟨r,done⟩ ⟨h1,h2⟩
  have hl:done.length+(zad c r).length=(zad c s).length:=by rw [←h1,zqf]
  have hrl:=zb7 c r
  have h1:done++zad c r=zad c s:=h1
  have h2:r.length≤s.length:=h2
  have tail:zad c r=[r]→zaa (0+(done.length:Int).toNat*1) [PV.str r] (done.map .str++List.replicate (Lib.countByte r c+1) (.str []))=(zad c s).map .str:=fun hr=>by
   have hz:Lib.countByte r c=0:=by rw [hr] at hrl;simp at hrl;exact hrl
   rw [hz,←h1,hr]
   exact (zg3 _ _ _ _ _ (by simp)).trans (by simp)
  conv=>whnf
  refine ⟨fun h3=>?_,fun h3=>?_⟩
  ·conv=>whnf
   refine cP (c247 r c) ?_
   conv=>whnf
   refine ⟨fun h4=>?_,fun h4=>?_⟩
   ·conv=>whnf
    rcases zff c r with ⟨i1,i2,i3⟩ | ⟨i,i1,_⟩
    ·have h3:(done.length:Int)<(Lib.countByte s c:Int):=h3
     refine ⟨⟨by omega,by omega⟩,?_⟩
     conv=>whnf
     rw [gL]
     conv=>whnf
     ((conv in (Nat.ble _ _)=>tactic=>exact (show Nat.ble (0+(done.length:Int).toNat*1+1) (done.map PV.str++List.replicate (Lib.countByte r c+1) (PV.str [])).length=true by rw [Nat.ble_eq];simp));(conv=>whnf))
     rw [w64 (by simp;omega) (by simp;omega)]
     refine ⟨⟨by omega,by simp;omega,by simp;omega⟩,fun _=>?_,fun hc=>absurd (by omega) hc⟩
     conv=>whnf
     refine ⟨?_,done.length+1,?_⟩
     ·show PV.sref _ _ _ _=PV.sref _ _ _ _
      congr 1 <;> simp <;> omega
     ·show (H++[_]).set _ _=_
      rw [sL]
      show H++[PObj.mk _ (zaa (0+(done.length:Int).toNat*1) [PV.str r] (done.map .str++List.replicate (Lib.countByte r c+1) (.str []))) _]=_
      rw [tail i2]
    ·omega
   ·conv=>whnf
    rcases zff c r with ⟨i1,_⟩ | ⟨i,i1,i2,i3,i4⟩
    ·omega
    ·have h3:(done.length:Int)<(Lib.countByte s c:Int):=h3
     rw [w64 (by omega) (by omega)]
     refine ⟨⟨by omega,by omega,by show Lib.indexByte r c+0≤(r.length:Int);omega⟩,?_⟩
     conv=>whnf
     refine ⟨⟨by show (0:Int)≤done.length;omega,by show (done.length:Int)<_;omega⟩,?_⟩
     conv=>whnf
     rw [gL]
     conv=>whnf
     ((conv in (Nat.ble _ _)=>tactic=>exact (show Nat.ble (0+(done.length:Int).toNat*1+1) (done.map PV.str++List.replicate (Lib.countByte r c+1) (PV.str [])).length=true by rw [Nat.ble_eq];simp));(conv=>whnf))
     rw [w64 (by simp;omega) (by simp;omega)]
     refine ⟨⟨by simp;omega,by simp;omega,by simp⟩,?_⟩
     conv=>whnf
     have e1:((Lib.indexByte r c+([c].length:Int)).toNat)=i+1:=by rw [i1];simp
     have e2:(Lib.indexByte r c+0).toNat=i:=by rw [i1];simp
     refine ⟨(r.drop (i+1),done++[r.take i]),⟨?_,?_⟩,⟨?_,rfl,rfl,rfl,rfl,?_,zqv⟩,?_,?_⟩
     ·show (done++[r.take i])++zad c (r.drop (i+1))=_
      rw [←h1,i3];simp
     ·show (r.drop (i+1)).length≤_
      rw [List.length_drop];omega
     ·show PV.str ((r.take ((r.length:Int).toNat)).drop ((Lib.indexByte r c+([c].length:Int)).toNat))=PV.str _
      rw [e1];simp
     ·show PV.int _ (IntKind.i64.wrap ((done.length:Int)+1))=PV.int _ _
      rw [w64 (by omega) (by omega)];simp
     ·show (H++[_]).set _ _=_
      rw [sL]
      show H++[PObj.mk _ (zaa (0+(done.length:Int).toNat*1) [PV.str ((r.take (Lib.indexByte r c+0).toNat).drop 0)] (done.map .str++List.replicate (Lib.countByte r c+1) (.str []))) _]=_
      rw [e2,i4,List.replicate_succ,zg3 _ _ _ _ _ (by simp)]
      simp
     ·show (r.drop (i+1)).length<r.length
      rw [List.length_drop];omega
  ·conv=>whnf
   have h3:¬(done.length:Int)<(Lib.countByte s c:Int):=h3
   have i2:zad c r=[r]:=by
    rcases zff c r with ⟨_,i2,_⟩ | ⟨i,_,_,_,i4⟩
    ·exact i2
    ·omega
   have i3:Lib.countByte r c=0:=by rw [i2] at hrl;simp at hrl;exact hrl
   refine ⟨⟨by show (0:Int)≤(done.length:Int);omega,by show (done.length:Int)<_;omega⟩,?_⟩
   conv=>whnf
   rw [gL]
   conv=>whnf
   ((conv in (Nat.ble _ _)=>tactic=>exact (show Nat.ble (0+(done.length:Int).toNat*1+1) (done.map PV.str++List.replicate (Lib.countByte r c+1) (PV.str [])).length=true by rw [Nat.ble_eq];simp));(conv=>whnf))
   rw [w64 (by simp;omega) (by simp;omega)]
   refine ⟨⟨by omega,by simp;omega,by simp;omega⟩,fun _=>?_,fun hc=>absurd (by omega) hc⟩
   conv=>whnf
   refine ⟨?_,done.length+1,?_⟩
   ·show PV.sref _ _ _ _=PV.sref _ _ _ _
    congr 1 <;> simp <;> omega
   ·show (H++[_]).set _ _=_
    rw [sL]
    show H++[PObj.mk _ (zaa (0+(done.length:Int).toNat*1) [PV.str r] (done.map .str++List.replicate (Lib.countByte r c+1) (.str []))) _]=_
    rw [tail i2]
def tt150:TT:=[(3,⟨.int .i64,1,8,[.int .i64 0]⟩),(9,⟨.str,1,16,[.str []]⟩),(36,⟨.slice 9,1,24,[.slice 0 [] (some 9)]⟩)]
theorem zv3:ttOk prog tt150=true:=by kernel_rfl
def z0r:List Nat:=[]
def tt115:TT:=[(3,⟨.int .i64,1,8,[.int .i64 0]⟩),(9,⟨.str,1,16,[.str []]⟩),(36,⟨.slice 9,1,24,[.slice 0 [] (some 9)]⟩),(58,⟨.fn,1,8,[.nilF]⟩)]
theorem zvy:ttOk prog tt115=true:=by kernel_rfl
def zz6:List Nat:=[]
theorem c178 (s:List UInt8) (c:UInt8) (H:PH) (hs:s.length≤1099511627776) :
  CK prog 178 [.str s,.str [c]] H fun r H' =>
   r=.sref H.length 0 (zad c s).length (zad c s).length∧∃v,H'=H++[⟨9,(zad c s).map .str,v⟩]:=by
 (refine fnS (imm:=z1k) zv4 func178 ?_;(conv=>whnf))
 refine cO (c221 s c H hs) ?_
 rintro _ _ ⟨rfl,v,rfl⟩
 conv=>whnf
 exact ⟨rfl,v,rfl⟩
def idxF (p:List UInt8→Bool):List (List UInt8)→Int
 | []=>-1
 | x::l=>if p x then 0 else (if idxF p l<0 then -1 else idxF p l+1)
theorem zr9 (p:List UInt8→Bool) (x:List UInt8) (l:List (List UInt8)):idxF p (x::l)=if p x then 0 else (if idxF p l<0 then -1 else idxF p l+1):=rfl
theorem zj7 (p:List UInt8→Bool):∀l,-1≤idxF p l
 | []=>by simp [idxF]
 | x::l=>by
  have:=zj7 p l
  unfold idxF
  split
  ·omega
  ·split <;> omega
theorem zob (p:List UInt8→Bool):∀l,0≤idxF p l↔l.any p=true
 | []=>by simp [idxF]
 | x::l=>by
  have:=zob p l
  have h2:=zj7 p l
  unfold idxF
  cases hp:p x
  ·simp only [hp,List.any_cons,zq7]
   rw [←this]
   by_cases h:idxF p l<0
   ·simp [h]
   ·simp [h];omega
  ·simp [hp]
theorem c150 (f id n:Nat) (p:List UInt8→Bool) (l:List (List UInt8)) (T v:Nat) (H:PH) (hid:H[id]? = some ⟨T,l.map .str,v⟩) (hn:n=l.length) (hs:l.length≤1099511627776)
  (hp:∀x∈l,Pure prog f [.str x] (.bool (p x))):CK prog 150 [.sref id 0 n n,.func f [] []] H fun r H'=>r=.int .i64 (idxF p l)∧H'=H:=by
 subst hn
 (refine fnS (imm:=z0r) zv3 func150 ?_;(conv=>whnf))
 refine lO Nat (fun i=>[(0,.sref id 0 l.length l.length),(1,.func f [] []),(7,.int .i64 l.length),(8,.int .i64 i)]) (fun _=>H)
  (fun i=>i≤l.length∧idxF p l=if idxF p (l.drop i)<0 then -1 else idxF p (l.drop i)+i) (fun i=>l.length - i) ⟨0,⟨Nat.zero_le _,by have:=zj7 p l;simp;omega⟩,⟨rfl,rfl,rfl,rfl,zqv⟩,rfl⟩ ?_
 rintro i ⟨h1,h2⟩
 conv=>whnf
 refine ⟨fun h3=>?_,fun h3=>?_⟩
 ·conv=>whnf
  have h3:(i:Int)<l.length:=h3
  have hi:i<l.length:=by omega
  have hgi:=zqc hi
  refine ⟨⟨by omega,by omega⟩,?_⟩
  conv=>whnf
  rw [hid]
  conv=>whnf
  generalize hd:dropN _ _=L
  have hL:=zd2 PV.str l hgi
  rw [show L=_ from hd.symm.trans hL]
  conv=>whnf
  refine cP (hp _ (List.getElem_mem hi)) ?_
  have hdr:=List.drop_eq_getElem_cons hi
  have hge:=zj7 p (l.drop (i+1))
  rw [hdr,zr9] at h2
  cases hb:p l[i]
  ·conv=>whnf
   rw [hb] at h2
   refine ⟨i+1,⟨by omega,?_⟩,⟨rfl,rfl,rfl,?_,zqv⟩,rfl,by omega⟩
   ·rw [h2]
    simp only [Bool.false_eq_true,if_false]
    split <;> split <;> (try split) <;> omega
   ·show PV.int _ (IntKind.i64.wrap ((i:Int)+1))=PV.int _ _
    rw [w64 (by omega) (by omega)];simp
  ·conv=>whnf
   rw [hb] at h2
   refine ⟨?_,rfl⟩
   show PV.int _ _=PV.int _ _
   rw [h2];simp
 ·conv=>whnf
  have h3:¬(i:Int)<l.length:=h3
  refine ⟨?_,rfl⟩
  show PV.int _ _=PV.int _ _
  rw [h2,List.drop_eq_nil_of_le (by omega)];simp [idxF]
theorem c115 (f id n:Nat) (p:List UInt8→Bool) (l:List (List UInt8)) (T v:Nat) (H:PH) (hid:H[id]? = some ⟨T,l.map .str,v⟩) (hn:n=l.length) (hs:l.length≤1099511627776)
  (hp:∀x∈l,Pure prog f [.str x] (.bool (p x))):CK prog 115 [.sref id 0 n n,.func f [] []] H fun r H'=>r=.bool (l.any p)∧H'=H:=by
 (refine fnS (imm:=zz6) zvy func115 ?_;(conv=>whnf))
 refine cO (c150 f id n p l T v H hid hn hs hp) ?_
 rintro _ _ ⟨rfl,rfl⟩
 conv=>whnf
 have:=zob p l
 refine ⟨fun h=>?_,fun h=>?_⟩
 ·conv=>whnf
  exact ⟨by rw [this.1 h];rfl,rfl⟩
 ·conv=>whnf
  refine ⟨?_,rfl⟩
  cases hb:l.any p with
  | false=>rfl
  | true=>exact absurd (this.2 hb) h
def tt227:TT:=[(3,⟨.int .i64,1,8,[.int .i64 0]⟩),(9,⟨.str,1,16,[.str []]⟩),(36,⟨.slice 9,1,24,[.slice 0 [] (some 9)]⟩)]
theorem zwd:ttOk prog tt227=true:=by kernel_rfl
def z2f:List Nat:=[]
def D227:Draw:={ imp:=[13,15],win:=[(2,0,1),(3,0,1),(14,1,1),(15,1,1)] }
structure RevS where
 i:Nat
 cur:List (List UInt8)
 v:Nat
theorem c227 (id n:Nat) (l:List (List UInt8)) (T v:Nat) (H:PH) (hid:H[id]? = some ⟨T,l.map .str,v⟩) (hn:n=l.length) (hs:l.length≤1099511627776) :
  CK prog 227 [.sref id 0 n n] H fun r H'=>r=.tup []∧∃v',H'=H.set id ⟨T,l.reverse.map .str,v'⟩:=by
 subst hn
 (refine fnS (imm:=z2f) zwd func227 ?_;(conv=>whnf))
 refine lO RevS (fun x=>[(0,.sref id 0 l.length l.length),(2,.int .i64 x.i),(3,.int .i64 ((l.length:Int) - 1 - x.i))]) (fun x=>H.set id ⟨T,x.cur.map .str,x.v⟩)
  (fun x=>x.i≤l.length∧x.cur.length=l.length∧∀k,k<l.length→x.cur[k]? = if k<x.i∨l.length - x.i≤k then l[l.length - 1 - k]? else l[k]?) (fun x=>l.length - x.i)
  ⟨⟨0,l,v⟩,⟨Nat.zero_le _,rfl,fun k hk=>by rw [zqo (by show ¬(k<0∨l.length - 0≤k);omega)]⟩,⟨rfl,rfl,?_,zqv⟩,(zea hid).symm⟩ ?_
 ·show PV.int _ (IntKind.i64.wrap ((l.length:Int) - 1))=PV.int _ ((l.length:Int) - 1 - 0)
  rw [w64 (by omega) (by omega)];simp
 rintro ⟨i,cur,v⟩ ⟨h1,h2,h3⟩
 conv=>whnf
 refine ⟨fun h4=>?_,fun h4=>?_⟩
 ·conv=>whnf
  have h4:(i:Int)<(l.length:Int) - 1 - i:=h4
  have h2:cur.length=l.length:=h2
  have hi:i<cur.length:=by omega
  have hj:cur.length - 1 - i<cur.length:=by omega
  refine dO2 D227 [H.set id ⟨T,cur.map .str,v⟩,H.set id ⟨T,(cur.set i cur[cur.length - 1 - i]).map .str,v+1⟩,H.set id ⟨T,((cur.set i cur[cur.length - 1 - i]).set (cur.length - 1 - i) cur[i]).map .str,v+1+1⟩] (by kernel_rfl) rfl trivial ?_
  have g0:=gS (o':=⟨T,cur.map .str,v⟩) hid
  have hlen:H.length=H.length:=rfl
  conv=>whnf
  iterate 2 (refine dS ?_;(conv=>whnf))
  iterate 2 (refine dS2 ?_;(conv=>whnf))
  iterate 2 (refine dS ?_;(conv=>whnf))
  apply exA
  ·conv=>whnf
   refine ⟨⟨by omega,by omega⟩,rfl,rfl,zqv⟩
  conv=>whnf
  apply exA
  ·conv=>whnf
   ((conv in (_[_]?)=>tactic=>exact g0);(conv=>whnf))
   have e:((l.length:Int) - 1 - i).toNat=cur.length - 1 - i:=by omega
   have hL:dropN (0+((l.length:Int) - 1 - i).toNat*1) (cur.map PV.str)=PV.str cur[cur.length - 1 - i]::(cur.drop (cur.length - 1 - i+1)).map PV.str:=by rw [e];exact zd2 PV.str cur (zqc hj)
   generalize hd:dropN _ _=L
   rw [show L=_ from hd.symm.trans hL]
   conv=>whnf
   exact ⟨rfl,rfl,zqv⟩
  conv=>whnf
  iterate 2 (refine dS ?_;(conv=>whnf))
  apply exA
  ·conv=>whnf
   refine ⟨⟨by show (0:Int)≤(i:Int);omega,by show (i:Int)<l.length;omega⟩,rfl,rfl,zqv⟩
  conv=>whnf
  apply exA
  ·conv=>whnf
   ((conv in (_[_]?)=>tactic=>exact g0);(conv=>whnf))
   ((conv in (dropN _ _)=>tactic=>exact (zd2 PV.str cur (zqc hi)));(conv=>whnf))
   exact ⟨rfl,rfl,zqv⟩
  conv=>whnf
  apply exA
  ·conv=>whnf
   refine ⟨⟨by show (0:Int)≤(i:Int);omega,by show (i:Int)<l.length;omega⟩,rfl,rfl,zqv⟩
  conv=>whnf
  apply exA
  ·conv=>whnf
   ((conv in (_[_]?)=>tactic=>exact g0);(conv=>whnf))
   ((conv in (Nat.ble _ _)=>tactic=>exact (show Nat.ble (0+(i:Int).toNat*1+1) (cur.map PV.str).length=true by rw [Nat.ble_eq];simp;omega));(conv=>whnf))
   refine ⟨rfl,?_,zqv⟩
   show (H.set id ⟨T,cur.map .str,v⟩).set id ⟨T,zaa (0+(i:Int).toNat*1) [PV.str cur[cur.length - 1 - i]] (cur.map .str),v+1⟩=H.set id ⟨T,(cur.set i cur[cur.length - 1 - i]).map .str,v+1⟩
   rw [List.set_set,←ze1 _ _ _ _ hi]
   simp
  conv=>whnf
  apply exA
  ·conv=>whnf
   refine ⟨⟨by omega,by omega⟩,rfl,rfl,zqv⟩
  conv=>whnf
  apply exA
  ·conv=>whnf
   ((conv in (_[_]?)=>tactic=>exact (gS (o':=⟨T,(cur.set i cur[cur.length - 1 - i]).map .str,v+1⟩) hid));(conv=>whnf))
   ((conv in (Nat.ble _ _)=>tactic=>exact (show Nat.ble (0+((l.length:Int) - 1 - i).toNat*1+1) ((cur.set i cur[cur.length - 1 - i]).map PV.str).length=true by rw [Nat.ble_eq];simp;omega));(conv=>whnf))
   refine ⟨rfl,?_,zqv⟩
   show (H.set id ⟨T,(cur.set i cur[cur.length - 1 - i]).map .str,v+1⟩).set id ⟨T,zaa (0+((l.length:Int) - 1 - i).toNat*1) [PV.str cur[i]] ((cur.set i cur[cur.length - 1 - i]).map .str),v+1+1⟩=H.set id _
   have e:0+((l.length:Int) - 1 - i).toNat*1=cur.length - 1 - i:=by omega
   rw [List.set_set,e,ze1 PV.str (cur.set i cur[cur.length - 1 - i]) (cur.length - 1 - i) cur[i] (by simpa using hj)]
  conv=>whnf
  refine ⟨⟨i+1,(cur.set i cur[cur.length - 1 - i]).set (cur.length - 1 - i) cur[i],v+1+1⟩,⟨?_,?_,?_⟩,⟨rfl,?_,?_,zqv⟩,rfl,?_⟩
  ·show i+1≤l.length;omega
  ·show List.length _=_;simp;exact h2
  ·intro k hk
   show ((cur.set i _).set _ _)[k]? = if k<i+1∨l.length - (i+1)≤k then _ else _
   have h3k:=h3 k hk
   have h3k:cur[k]? = if k<i∨l.length - i≤k then l[l.length - 1 - k]? else l[k]?:=h3k
   have h3i:cur[i]? = if i<i∨l.length - i≤i then l[l.length - 1 - i]? else l[i]?:=h3 i (by omega)
   have h3j:cur[cur.length - 1 - i]? = if cur.length - 1 - i<i∨l.length - i≤cur.length - 1 - i then l[l.length - 1 - (cur.length - 1 - i)]? else l[cur.length - 1 - i]?:=h3 _ (by omega)
   rw [zqo (by omega),zqc hi] at h3i
   rw [zqo (by omega),zqc hj] at h3j
   simp only [List.getElem?_set]
   by_cases e1:cur.length - 1 - i=k
   ·subst e1
    rw [zqp rfl,zqp (by simpa using hj),zqp (by omega),h3i]
    congr 1;omega
   ·rw [zqo e1]
    by_cases e2:i=k
    ·subst e2
     rw [zqp rfl,zqp hi,zqp (by omega),h3j]
     congr 1;omega
    ·rw [zqo e2,h3k]
     by_cases e3:k<i∨l.length - i≤k
     ·rw [zqp e3,zqp (by omega)]
     ·rw [zqo e3,zqo (by omega)]
  ·show PV.int _ (IntKind.i64.wrap ((i:Int)+1))=PV.int _ _
   rw [w64 (by omega) (by omega)];simp
  ·show PV.int _ (IntKind.i64.wrap ((l.length:Int) - 1 - i - 1))=PV.int _ ((l.length:Int) - 1 - ((i+1:Nat):Int))
   rw [w64 (by omega) (by omega)];congr 1;omega
  ·show l.length - (i+1)<l.length - i
   omega
 ·conv=>whnf
  have h2:cur.length=l.length:=h2
  have h4:¬(i:Int)<(l.length:Int) - 1 - i:=h4
  have h1:i≤l.length:=h1
  refine ⟨rfl,v,?_⟩
  have hc:cur=l.reverse:=by
   apply List.ext_getElem?
   intro k
   rcases Nat.lt_or_ge k l.length with hk | hk
   ·have h3k:cur[k]? = if k<i∨l.length - i≤k then l[l.length - 1 - k]? else l[k]?:=h3 k hk
    rw [h3k,List.getElem?_reverse hk]
    by_cases e3:k<i∨l.length - i≤k
    ·rw [zqp e3]
    ·rw [zqo e3];congr 1;omega
   ·rw [List.getElem?_eq_none (by omega),List.getElem?_eq_none (by simpa using hk)]
  show H.set id ⟨T,cur.map PV.str,v⟩=_
  rw [hc]
def tt229:TT:=[(4,⟨.bool,1,1,[.bool false]⟩),(302,⟨.arr 256 4,256,256,List.replicate 256 (.bool false)⟩)]
theorem zwf:ttOk prog tt229=true:=by kernel_rfl
def z2h:List Nat:=[]
def tt192:TT:=[(3,⟨.int .i64,1,8,[.int .i64 0]⟩),(4,⟨.bool,1,1,[.bool false]⟩),(5,⟨.int .u8,1,1,[.int .u8 0]⟩),(9,⟨.str,1,16,[.str []]⟩),(302,⟨.arr 256 4,256,256,List.replicate 256 (.bool false)⟩)]
theorem zv7:ttOk prog tt192=true:=by kernel_rfl
def z1o:List Nat:=[]
def tt193:TT:=[(3,⟨.int .i64,1,8,[.int .i64 0]⟩),(4,⟨.bool,1,1,[.bool false]⟩),(5,⟨.int .u8,1,1,[.int .u8 0]⟩),(9,⟨.str,1,16,[.str []]⟩),(306,⟨.ptr,1,8,[.ptr none]⟩)]
theorem zv8:ttOk prog tt193=true:=by kernel_rfl
def z1p:List Nat:=[]
def tt194:TT:=[(3,⟨.int .i64,1,8,[.int .i64 0]⟩),(4,⟨.bool,1,1,[.bool false]⟩),(5,⟨.int .u8,1,1,[.int .u8 0]⟩),(9,⟨.str,1,16,[.str []]⟩),(306,⟨.ptr,1,8,[.ptr none]⟩)]
theorem zv9:ttOk prog tt194=true:=by kernel_rfl
def z1q:List Nat:=[]
def tt146:TT:=[(3,⟨.int .i64,1,8,[.int .i64 0]⟩),(4,⟨.bool,1,1,[.bool false]⟩),(5,⟨.int .u8,1,1,[.int .u8 0]⟩),(9,⟨.str,1,16,[.str []]⟩),(302,⟨.arr 256 4,256,256,List.replicate 256 (.bool false)⟩),(306,⟨.ptr,1,8,[.ptr none]⟩)]
theorem zv2:ttOk prog tt146=true:=by kernel_rfl
def z0q:List Nat:=[]
def tt106:TT:=[(3,⟨.int .i64,1,8,[.int .i64 0]⟩),(9,⟨.str,1,16,[.str []]⟩)]
theorem zvx:ttOk prog tt106=true:=by kernel_rfl
def zz3:List Nat:=[]
def tabB (p:Nat→Bool):List PV:=(List.range 256).map fun k=>.bool (p k)
theorem zvq (p:Nat→Bool) (c:UInt8):dropN (0+(c.toNat:Int).toNat*1) (tabB p)=.bool (p c.toNat)::(((List.range 256).drop (c.toNat+1)).map fun k=>.bool (p k)):=by
 have hc:c.toNat<256:=c.toNat_lt
 have h:(List.range 256)[c.toNat]? = some c.toNat:=by simp [hc]
 exact zd2 (fun k=>PV.bool (p k)) _ h
theorem c229 (p:Nat→Bool) (id T v:Nat) (c:UInt8) (H:PH) (hid:H[id]? = some ⟨T,tabB p,v⟩):CK prog 229 [.ptr (some (id,0)),bC c] H fun r H'=>r=.bool (p c.toNat)∧H'=H:=by
 have hc:c.toNat<256:=c.toNat_lt
 (refine fnS (imm:=z2h) zwf func229 ?_;(conv=>whnf))
 refine ⟨⟨by omega,by omega⟩,?_⟩
 conv=>whnf
 ((conv in (_[_]?)=>tactic=>exact hid);(conv=>whnf))
 ((conv in (dropN _ _)=>tactic=>exact (zvq p c));(conv=>whnf))
 exact ⟨rfl,rfl⟩
theorem c193 (p:Nat→Bool) (id T v:Nat) (s:List UInt8) (H:PH) (hid:H[id]? = some ⟨T,tabB p,v⟩) (hs:s.length≤1099511627776) :
  CK prog 193 [.str s,.ptr (some (id,0))] H fun r H'=>r=.str (s.dropWhile fun c=>p c.toNat)∧H'=H:=by
 (refine fnS (imm:=z1p) zv8 func193 ?_;(conv=>whnf))
 refine lO (List UInt8) (fun x=>[(0,.str x),(1,.ptr (some (id,0)))]) (fun _=>H) (fun x=>x.dropWhile (fun c=>p c.toNat)=s.dropWhile (fun c=>p c.toNat)) (fun x=>x.length) ⟨s,rfl,⟨rfl,rfl,zqv⟩,rfl⟩ ?_
 intro x hx
 conv=>whnf
 refine ⟨fun h=>?_,fun h=>?_⟩
 ·conv=>whnf
  cases x with
  | nil=>simp at h
  | cons c x =>
   refine ⟨⟨by omega,by simp⟩,c,rfl,?_⟩
   conv=>whnf
   refine cO (c229 p id T v c H hid) ?_
   rintro _ _ ⟨rfl,rfl⟩
   cases hb:p c.toNat
   ·conv=>whnf
    refine ⟨?_,rfl⟩
    rw [←hx];simp [hb,tupOf]
   ·conv=>whnf
    refine ⟨⟨by omega,by simp <;> omega,by simp⟩,?_⟩
    conv=>whnf
    refine ⟨x,?_,⟨?_,rfl,zqv⟩,rfl,by simp⟩
    ·rw [←hx];simp [hb]
    ·show PV.str _=PV.str _
     simp
 ·conv=>whnf
  have:x=[]:=by
   cases x with
   | nil=>rfl
   | cons c x=>exact absurd (by simp <;> omega) h
  subst this
  refine ⟨?_,rfl⟩
  rw [←hx];rfl
def trimR (p:UInt8→Bool) (s:List UInt8):List UInt8:=(s.reverse.dropWhile p).reverse
theorem zmb (p:UInt8→Bool) (x:List UInt8) (c:UInt8):trimR p (x++[c])=if p c then trimR p x else x++[c]:=by
 unfold trimR
 simp only [List.reverse_append,List.reverse_cons,List.reverse_nil,List.nil_append,List.singleton_append,List.dropWhile_cons]
 split <;> simp
theorem c194 (p:Nat→Bool) (id T v:Nat) (s:List UInt8) (H:PH) (hid:H[id]? = some ⟨T,tabB p,v⟩) (hs:s.length≤1099511627776) :
  CK prog 194 [.str s,.ptr (some (id,0))] H fun r H'=>r=.str (trimR (fun c=>p c.toNat) s)∧H'=H:=by
 (refine fnS (imm:=z1q) zv9 func194 ?_;(conv=>whnf))
 refine lO (List UInt8) (fun x=>[(0,.str x),(1,.ptr (some (id,0)))]) (fun _=>H) (fun x=>x.length≤s.length∧trimR (fun c=>p c.toNat) x=trimR (fun c=>p c.toNat) s) (fun x=>x.length) ⟨s,⟨zqn _,rfl⟩,⟨rfl,rfl,zqv⟩,rfl⟩ ?_
 rintro x ⟨hl,hx⟩
 conv=>whnf
 rcases List.eq_nil_or_concat x with rfl | ⟨x,c,rfl⟩
 ·refine ⟨fun h=>absurd h (by simp),fun h=>?_⟩
  conv=>whnf
  refine ⟨?_,rfl⟩
  rw [←hx];rfl
 ·refine ⟨fun h=>?_,fun h=>absurd (by simp <;> omega) h⟩
  simp only [List.concat_eq_append] at *
  have hl':x.length+1≤s.length:=by simpa using hl
  conv=>whnf
  have e:((IntKind.i64.wrap (((x++[c]).length:Int) - 1)))=(x.length:Int):=by
   rw [w64 (by simp <;> omega) (by simp <;> omega)];simp
  refine ⟨by show 0≤IntKind.i64.wrap _∧IntKind.i64.wrap _<_;rw [e];simp;omega,c,?_,?_⟩
  ·show (x++[c])[(IntKind.i64.wrap (((x++[c]).length:Int) - 1)).toNat]? = some c
   rw [e];simp
  conv=>whnf
  refine cO (c229 p id T v c H hid) ?_
  rintro _ _ ⟨rfl,rfl⟩
  rw [zmb] at hx
  cases hb:p c.toNat
  ·conv=>whnf
   refine ⟨?_,rfl⟩
   rw [←hx];simp [hb,tupOf]
  ·conv=>whnf
   refine ⟨by show 0≤0∧0≤IntKind.i64.wrap _∧IntKind.i64.wrap _≤_;rw [e];simp;omega,?_⟩
   conv=>whnf
   refine ⟨x,⟨by omega,?_⟩,⟨?_,rfl,zqv⟩,rfl,by simp⟩
   ·rw [←hx];simp [hb]
   ·show PV.str (((x++[c]).take (IntKind.i64.wrap (((x++[c]).length:Int) - 1)).toNat).drop (Int.toNat 0))=PV.str _
    rw [e];simp
theorem zvr (p:Nat→Bool):(tabB p).length=256:=by simp [tabB]
theorem zvs (p:Nat→Bool) (c:UInt8):zaa (0+(c.toNat:Int).toNat*1) [.bool true] (tabB p)=tabB fun k=>p k||(c.toNat==k):=by
 have hc:c.toNat<256:=c.toNat_lt
 apply List.ext_getElem?
 intro j
 rw [zbw _ _ _ (by simp [tabB];omega)]
 simp only [tabB,List.getElem?_map,List.length_cons,List.length_nil]
 by_cases hj:j<256
 ·rw [List.getElem?_range hj]
  by_cases e:j=c.toNat
  ·subst e;simp
  ·rw [zqo (by omega)]
   have:(c.toNat==j)=false:=by simpa using fun h=>e h.symm
   simp [this]
 ·have hn:(List.range 256)[j]? = none:=List.getElem?_eq_none (by simpa using hj)
  rw [zqo (by omega),hn];rfl
theorem zl9 (p:Nat→Bool):zaa 0 (cellsOf (.agg (((tabB p).take 256).map dem))) (tabB p)=tabB p:=by
 have h:((tabB p).take 256).map dem=tabB p:=by
  rw [List.take_of_length_le (by simp [tabB])]
  simp [tabB,dem]
 rw [h,za3 _ _ _ (by simp [cellsOf])]
 simp [cellsOf]
theorem zvp (p:Nat→Bool):((tabB p).take 256).map dem=tabB p:=by
 rw [List.take_of_length_le (by simp [tabB])]
 simp [tabB,dem]
theorem zs2 (p:Nat→Bool):oldPs (tabB p)=true:=by
 unfold tabB
 generalize List.range 256=l
 induction l with
 | nil=>rfl
 | cons a l ih=>simp [oldPs,oldP,ih]
def inB (s:List UInt8) (k:Nat):Bool:=s.any fun c=>c.toNat==k
theorem c192 (s:List UInt8) (h0:∀c∈s,c.toNat<128) (hs:s.length≤1099511627776):Pure prog 192 [.str s] (.tup [.agg (tabB (inB s)),.bool true]):=by
 refine Pure.of_gc (by simp [oldR,oldPs,oldP,zs2]) fun H=>?_
 (refine fnS (imm:=z1o) zv7 func192 ?_;(conv=>whnf))
 refine lO Nat (fun i=>[(0,.str s),(2,.ptr (some (H.length,0))),(4,.int .i64 i)]) (fun i=>H++[⟨302,tabB (inB (s.take i)),i⟩]) (fun i=>i≤s.length) (fun i=>s.length - i) ⟨0,Nat.zero_le _,⟨rfl,rfl,rfl,zqv⟩,?_⟩ ?_
 ·show H++[PObj.mk _ _ _]=H++[PObj.mk _ _ _]
  congr 3
 rintro i hi
 conv=>whnf
 refine ⟨fun h=>?_,fun h=>?_⟩
 ·conv=>whnf
  have h:(i:Int)<s.length:=h
  have hi':i<s.length:=by omega
  refine ⟨⟨by omega,h⟩,s[i],zqc hi',?_⟩
  conv=>whnf
  have hc:=h0 s[i] (List.getElem_mem hi')
  refine ⟨fun h2=>absurd h2 (by omega),fun _=>?_⟩
  conv=>whnf
  refine ⟨⟨by omega,by omega⟩,?_⟩
  conv=>whnf
  ((conv in (_[_]?)=>tactic=>exact (gL H ⟨302,tabB (inB (s.take i)),i⟩));(conv=>whnf))
  ((conv in (Nat.ble _ _)=>tactic=>exact (show Nat.ble (0+(s[i].toNat:Int).toNat*1+1) (tabB (inB (s.take i))).length=true by rw [Nat.ble_eq,zvr];omega));(conv=>whnf))
  refine ⟨i+1,by omega,⟨rfl,rfl,?_,zqv⟩,?_,by omega⟩
  ·show PV.int _ (IntKind.i64.wrap ((i:Int)+1))=PV.int _ _
   rw [w64 (by omega) (by omega)];simp
  ·show (H++[_]).set _ _=_
   rw [sL]
   show H++[PObj.mk _ (zaa (0+(s[i].toNat:Int).toNat*1) [.bool true] (tabB (inB (s.take i)))) _]=H++[PObj.mk _ _ _]
   rw [zvs]
   have:inB (s.take (i+1))=fun k=>inB (s.take i) k||(s[i].toNat==k):=by
    funext k
    unfold inB
    rw [List.take_succ_eq_append_getElem hi',List.any_append]
    simp only [List.any_cons,List.any_nil,zq8]
   rw [this]
 ·conv=>whnf
  have h:¬(i:Int)<s.length:=h
  have e:s.take i=s:=List.take_of_length_le (by omega)
  rw [e,gL]
  conv=>whnf
  rw [gL]
  conv=>whnf
  have h2:((H++[PObj.mk 302 (tabB (inB s)) i]).set H.length ⟨302,zaa 0 (cellsOf (.agg (((tabB (inB s)).take 256).map dem))) (tabB (inB s)),i+1⟩)[H.length]? = some ⟨302,tabB (inB s),i+1⟩:=by
   rw [sL,zl9,gL]
  generalize hh:(setH _ _ _ _)[List.length H]? = X
  rw [show X=_ from hh.symm.trans h2]
  conv=>whnf
  refine ⟨?_,[⟨302,tabB (inB s),i+1⟩],?_⟩
  ·show PV.tup [.agg (((tabB (inB s)).take 256).map dem),.bool true]=_
   rw [zvp]
  ·show (H++[PObj.mk 302 (tabB (inB s)) i]).set H.length ⟨302,zaa 0 (cellsOf (.agg (((tabB (inB s)).take 256).map dem))) (tabB (inB s)),i+1⟩=_
   rw [sL,zl9]
def trimB (s set:List UInt8):List UInt8:=(trimR (fun c=>inB set c.toNat) s).dropWhile fun c=>inB set c.toNat
theorem c146 (s set:List UInt8) (h0:∀c∈set,c.toNat<128) (h1:2≤set.length) (h2:set.length≤1099511627776) (hs:s.length≤1099511627776) :
  Pure prog 146 [.str s,.str set] (.str (trimB s set)):=by
 refine Pure.of_gc rfl fun H=>?_
 (refine fnS (imm:=z0q) zv2 func146 ?_;(conv=>whnf))
 refine ⟨fun h=>?_,fun h=>?_⟩
 ·have h:s=[]:=h
  subst h
  conv=>whnf
  exact ⟨rfl,[],by simp⟩
 conv=>whnf
 refine ⟨fun h=>?_,fun h=>?_⟩
 ·have h:set=[]:=h
  subst h
  simp at h1
 conv=>whnf
 refine ⟨fun h=>absurd h (by omega),fun h=>?_⟩
 conv=>whnf
 refine cP (c192 set h0 h2) ?_
 conv=>whnf
 rw [gL]
 conv=>whnf
 have hz:zaa 0 (tabB (inB set)) (List.replicate 256 (PV.bool false))=tabB (inB set):=by
  rw [za3 _ _ _ (by simp [tabB])]
  simp [tabB]
 have hone:(tabB (inB set)).all oneP=true:=by simp [tabB,oneP]
 have hH:(H++[PObj.mk 302 (List.replicate 256 (PV.bool false)) 0]).set H.length ⟨302,zaa 0 (tabB (inB set)) (List.replicate 256 (PV.bool false)),0+1⟩=H++[⟨302,tabB (inB set),0+1⟩]:=by
  rw [sL,hz]
 refine cO (Q:=fun r H'=>r=.str (trimR (fun c=>inB set c.toNat) s)∧H'=H++[⟨302,tabB (inB set),0+1⟩]) ?_ ?_
 ·show CK prog 194 _ ((H++[PObj.mk 302 (List.replicate 256 (PV.bool false)) 0]).set H.length ⟨302,zaa 0 (tabB (inB set)) (List.replicate 256 (PV.bool false)),0+1⟩) _
  rw [hH]
  exact c194 (inB set) H.length 302 (0+1) s _ (gL H _) hs
 rintro _ _ ⟨rfl,rfl⟩
 conv=>whnf
 have hl:(trimR (fun c=>inB set c.toNat) s).length≤s.length:=by
  unfold trimR
  rw [List.length_reverse]
  exact Nat.le_trans (List.dropWhile_sublist _).length_le (by simp)
 refine cO (c193 (inB set) H.length 302 (0+1) (trimR (fun c=>inB set c.toNat) s) _ (gL H _) (by omega)) ?_
 rintro _ _ ⟨rfl,rfl⟩
 conv=>whnf
 exact ⟨rfl,_,rfl⟩
theorem zgf {p:UInt8→Bool} {c:UInt8}:∀{l:List UInt8},c∈l.takeWhile p→p c=true
 | [],h=>by simp at h
 | x::l,h=>by
  rw [List.takeWhile_cons] at h
  split at h
  ·rcases List.mem_cons.1 h with rfl | h
   ·assumption
   ·exact zgf h
  ·simp at h
theorem zfh (p:UInt8→Bool):∀l:List UInt8,l.dropWhile p=[]↔∀x∈l,p x=true
 | []=>by simp
 | x::l=>by
  have:=zfh p l
  rw [List.dropWhile_cons]
  cases h:p x
  ·simp [h]
  ·simp [h,this]
theorem zma (s set:List UInt8):trimB s set=[]↔s.all (fun c=>inB set c.toNat)=true:=by
 unfold trimB trimR
 rw [zfh]
 constructor
 ·intro h
  rw [List.all_eq_true]
  intro c hc
  by_cases hd:c∈(s.reverse.dropWhile fun c=>inB set c.toNat).reverse
  ·exact h c hd
  ·have:c∈s.reverse:=by simpa using hc
   rw [←List.takeWhile_append_dropWhile (p:=fun c=>inB set c.toNat) (l:=s.reverse)] at this
   rcases List.mem_append.1 this with h2 | h2
   ·exact zgf h2
   ·exact absurd (by simpa using h2) hd
 ·intro h c hc
  rw [List.all_eq_true] at h
  have hc2:c∈s.reverse:=(List.dropWhile_sublist _).subset (by simpa using hc)
  exact h c (by simpa using hc2)
def tt228:TT:=[(4,⟨.bool,1,1,[.bool false]⟩),(9,⟨.str,1,16,[.str []]⟩)]
theorem zwe:ttOk prog tt228=true:=by kernel_rfl
def z2g:List Nat:=[]
def tt189:TT:=[(3,⟨.int .i64,1,8,[.int .i64 0]⟩),(9,⟨.str,1,16,[.str []]⟩),(36,⟨.slice 9,1,24,[.slice 0 [] (some 9)]⟩),(58,⟨.fn,1,8,[.nilF]⟩)]
theorem zv6:ttOk prog tt189=true:=by kernel_rfl
def z1n:List Nat:=[]
def tt145:TT:=[(9,⟨.str,1,16,[.str []]⟩)]
theorem zv1:ttOk prog tt145=true:=by kernel_rfl
def z0p:List Nat:=[]
def tt105:TT:=[(3,⟨.int .i64,1,8,[.int .i64 0]⟩),(9,⟨.str,1,16,[.str []]⟩)]
theorem zvw:ttOk prog tt105=true:=by kernel_rfl
def zz2:List Nat:=[]
def tt104:TT:=[(4,⟨.bool,1,1,[.bool false]⟩),(9,⟨.str,1,16,[.str []]⟩)]
theorem zvv:ttOk prog tt104=true:=by kernel_rfl
def zz1:List Nat:=[]
def tt64:TT:=[(9,⟨.str,1,16,[.str []]⟩),(30,⟨.strct [(9,0),(9,1)],2,32,[.str [],.str []]⟩)]
theorem zyr:ttOk prog tt64=true:=by kernel_rfl
def imm64:List Nat:=[1]
def za9 (s set:List UInt8):Bool:=decide (s≠[])&&(decide (s.length≤8)&&s.all (fun c=>inB set c.toNat))
theorem c106 (s set:List UInt8) (h0:∀c∈set,c.toNat<128) (h1:2≤set.length) (h2:set.length≤1099511627776):Pure prog 106 [.str s,.str set] (.bool (za9 s set)):=by
 intro H
 (refine fnS (imm:=zz3) zvx func106 ?_;(conv=>whnf))
 refine ⟨fun h=>?_,fun h=>?_⟩
 ·have h:s=[]:=h
  subst h
  conv=>whnf
  exact ⟨rfl,rfl⟩
 conv=>whnf
 have h:¬s=[]:=h
 refine ⟨fun h3=>?_,fun h3=>?_⟩
 ·conv=>whnf
  refine cP (c146 s set h0 h1 h2 (by omega)) ?_
  conv=>whnf
  refine ⟨fun h4=>?_,fun h4=>?_⟩
  ·conv=>whnf
   have:=(zma s set).1 h4
   refine ⟨?_,rfl⟩
   show PV.bool true=_
   unfold za9
   rw [this]
   have:s.length≤8:=by omega
   simp [h,this]
  ·conv=>whnf
   refine ⟨?_,rfl⟩
   show PV.bool false=_
   have:¬s.all (fun c=>inB set c.toNat)=true:=fun e=>h4 ((zma s set).2 e)
   unfold za9
   rw [Bool.not_eq_true] at this
   rw [this]
   simp
 ·conv=>whnf
  refine ⟨?_,rfl⟩
  show PV.bool false=_
  have:¬s.length≤8:=by omega
  unfold za9
  simp [this]
def zcy:List UInt8:=[65,66,67,68,69,70,71,72,73,74,75,76,77,78,79,80,81,82,83,84,85,86,87,88,89,90]
theorem c228 (s:List UInt8):Pure prog 228 [.str s] (.bool (!za9 s zcy)):=by
 intro H
 (refine fnS (imm:=z2g) zwe func228 ?_;(conv=>whnf))
 refine cP (c106 s zcy (by decide) (by decide) (by decide)) ?_
 cases za9 s zcy
 ·conv=>whnf
  exact ⟨rfl,rfl⟩
 ·conv=>whnf
  exact ⟨rfl,rfl⟩
def badL (l:List (List UInt8)):Bool:=decide (4<l.length)||l.any fun s=>!za9 s zcy
def za6 (r:List UInt8):Nat×List (List UInt8):=match r with
 | 47::t=>if badL (zad 47 t) then (0,[]) else (2,zad 47 t)
 | _=>if badL (zad 46 r) then (0,[]) else (1,(zad 46 r).reverse)
def zzg (r:List UInt8) (H:PH) (x:PV) (H':PH):Prop:=∃ext,H'=H++ext ∧
 (((za6 r).1=0∧x=.tup [.slice 0 [] (some 9),.int .i64 0]) ∨
  ((za6 r).1≠0∧∃id v,x=.tup [.sref id 0 (za6 r).2.length (za6 r).2.length,.int .i64 (za6 r).1]∧H'[id]? = some ⟨9,(za6 r).2.map .str,v⟩))
theorem c189 (r : List UInt8) (H : PH) (hs : r.length ≤ 1099511627775) : CK prog 189 [.str r] H (zzg r H) := by
  (refine fnS (imm := z1n) zv6 func189 ?_; (conv => whnf))
  refine cO (c178 r 46 H (by omega)) ?_
  rintro _ _ ⟨rfl, v, rfl⟩
  conv => whnf
  refine cP (c223 r [47]) ?_
  cases hb : [47].isPrefixOf r
  · conv => whnf
    refine cO (c227 H.length _ (zad 46 r) 9 v _ (gL H _) rfl (by have := zem 46 r; have := zb7 46 r; omega)) ?_
    rintro _ _ ⟨rfl, v', rfl⟩
    rw [sL]
    have hlb : za6 r = if badL (zad 46 r) then (0, []) else (1, (zad 46 r).reverse) := by
      unfold za6
      split
      · simp at hb
      · rfl
    have hany : ((zad 46 r).reverse).any (fun s => !za9 s zcy) = (zad 46 r).any (fun s => !za9 s zcy) := by rw [List.any_reverse]
    have hn : (zad 46 r).length = (zad 46 r).reverse.length := by simp
    conv => whnf
    refine ⟨fun h4 => ?_, fun h4 => ?_⟩
    · conv => whnf
      have hbad : badL (zad 46 r) = true := by unfold badL; have : 4 < (zad 46 r).length := by omega
                                               simp [this]
      refine ⟨_, rfl, .inl ⟨by rw [hlb, hbad]; rfl, rfl⟩⟩
    · conv => whnf
      refine cO (c115 228 H.length _ (fun s => !za9 s zcy) (zad 46 r).reverse 9 v' _ (gL H _) hn (by omega) (fun x _ => c228 x)) ?_
      rintro _ _ ⟨rfl, rfl⟩
      rw [hany]
      have h4' : ¬ 4 < (zad 46 r).length := by omega
      cases hany2 : (zad 46 r).any (fun s => !za9 s zcy)
      · conv => whnf
        have hbad : badL (zad 46 r) = false := by unfold badL; rw [hany2]; simp [h4']
        refine ⟨_, rfl, .inr ⟨by rw [hlb, hbad]; simp, H.length, v', ?_, ?_⟩⟩
        · rw [hlb, hbad]
          show PV.tup _ = PV.tup _
          simp
        · rw [gL, hlb, hbad]; rfl
      · conv => whnf
        have hbad : badL (zad 46 r) = true := by unfold badL; rw [hany2]; simp
        refine ⟨_, rfl, .inl ⟨by rw [hlb, hbad]; rfl, rfl⟩⟩
  · obtain ⟨t, rfl⟩ : ∃ t, r = 47 :: t := by
      cases r with
      | nil => simp at hb
      | cons x t => 
        have hx : x = 47 := by simpa using (by simpa using hb : (47 : UInt8) = x).symm
        exact ⟨t, by rw [hx]⟩
    conv => whnf
    refine ⟨⟨by omega, by simp <;> omega, by simp⟩, ?_⟩
    have hst : t.length ≤ 1099511627776 := by simp at hs; omega
    have hc := zem 47 t
    have hc2 := zb7 47 t
    conv => whnf
    refine cO (Q := fun r H' => r = .sref (H ++ [PObj.mk 9 ((zad 46 (47 :: t)).map .str) v]).length 0 (zad 47 t).length (zad 47 t).length ∧ ∃ v2, H' = (H ++ [PObj.mk 9 ((zad 46 (47 :: t)).map .str) v]) ++ [⟨9, (zad 47 t).map .str, v2⟩]) ?_ ?_
    · show CK prog 178 [.str (((47 :: t).take ((47 :: t).length : Int).toNat).drop (1 : Int).toNat), .str [47]] _ _
      have e : ((47 :: t).take ((47 :: t).length : Int).toNat).drop (1 : Int).toNat = t := by simp
      rw [e]
      exact c178 t 47 _ hst
    rintro _ _ ⟨rfl, v2, rfl⟩
    conv => whnf
    have hlb : za6 (47 :: t) = if badL (zad 47 t) then (0, []) else (2, zad 47 t) := rfl
    refine ⟨fun h4 => ?_, fun h4 => ?_⟩
    · conv => whnf
      have hbad : badL (zad 47 t) = true := by
        unfold badL
        have : 4 < (zad 47 t).length := by omega
        simp [this]
      refine ⟨_, List.append_assoc _ _ _, .inl ⟨by rw [hlb, hbad]; rfl, rfl⟩⟩
    · conv => whnf
      refine cO (c115 228 _ _ (fun s => !za9 s zcy) (zad 47 t) 9 v2 _ (gL _ _) rfl (by omega) (fun x _ => c228 x)) ?_
      rintro _ _ ⟨rfl, rfl⟩
      have h4' : ¬ 4 < (zad 47 t).length := by omega
      cases hany2 : (zad 47 t).any (fun s => !za9 s zcy)
      · conv => whnf
        have hbad : badL (zad 47 t) = false := by unfold badL; rw [hany2]; simp [h4']
        refine ⟨_, List.append_assoc _ _ _, .inr ⟨by rw [hlb, hbad]; simp, (H ++ [PObj.mk 9 ((zad 46 (47 :: t)).map .str) v]).length, v2, ?_, ?_⟩⟩
        · rw [hlb, hbad]; rfl
        · rw [gL, hlb, hbad]; rfl
      · conv => whnf
        have hbad : badL (zad 47 t) = true := by unfold badL; rw [hany2]; simp
        refine ⟨_, List.append_assoc _ _ _, .inl ⟨by rw [hlb, hbad]; rfl, rfl⟩⟩
theorem c145 (r:List UInt8) (hs:r.length≤1099511627775):Pure prog 145 [.str r] (.int .i64 (za6 r).1):=by
 refine Pure.of_gc rfl fun H=>?_
 (refine fnS (imm:=z0p) zv1 func145 ?_;(conv=>whnf))
 refine cO (c189 r H hs) ?_
 rintro _ _ ⟨ext,rfl,⟨h1,rfl⟩ | ⟨h1,id,v,rfl,h2⟩⟩
 ·conv=>whnf
  exact ⟨by rw [h1];rfl,ext,rfl⟩
 ·conv=>whnf
  exact ⟨rfl,ext,rfl⟩
theorem c105 (r:List UInt8) (hs:r.length≤1099511627775):Pure prog 105 [.str r] (.bool (decide ((za6 r).1≠0))):=by
 intro H
 (refine fnS (imm:=zz2) zvw func105 ?_;(conv=>whnf))
 refine cP (c145 r hs) ?_
 conv=>whnf
 refine ⟨fun h=>?_,fun h=>?_⟩
 ·conv=>whnf
  have:(za6 r).1=0:=by omega
  exact ⟨by simp [this,tupOf],rfl⟩
 ·conv=>whnf
  have:(za6 r).1≠0:=by omega
  exact ⟨by simp [this,tupOf],rfl⟩
def krbB:List UInt8:=[107,114,98,116,103,116,47]
def ziq:List UInt8:=[97,98,99,100,101,102,103,104,105,106,107,108,109,110,111,112,113,114,115,116,117,118,119,120,121,122,48,49,50,51,52,53,54,55,56,57]
def zb1 (r:List UInt8):Bool:=decide ((za6 r).1≠0)
def zcf (n:List UInt8):List UInt8×Bool:=if krbB.isPrefixOf n&&zb1 (n.drop 7) then (n.drop 7,true) else ([],false)
def zap (realm name:List UInt8):Bool:=zb1 realm&&((zcf name).2||za9 name ziq)
theorem c104 (n:List UInt8) (hs:n.length≤1099511627775):Pure prog 104 [.str n] (.tup [.str (zcf n).1,.bool (zcf n).2]):=by
 intro H
 (refine fnS (imm:=zz1) zvv func104 ?_;(conv=>whnf))
 refine cP (c144 n krbB) ?_
 unfold cutP zcf
 cases hb:krbB.isPrefixOf n
 ·conv=>whnf
  exact ⟨rfl,rfl⟩
 ·conv=>whnf
  refine cP (c105 (n.drop 7) (by rw [List.length_drop];omega)) ?_
  show _
  unfold zb1
  cases hr:decide ((za6 (n.drop 7)).1≠0)
  ·conv=>whnf
   exact ⟨rfl,rfl⟩
  ·conv=>whnf
   exact ⟨rfl,rfl⟩
theorem c64 (realm name:List UInt8) (h1:realm.length≤1099511627775) (h2:name.length≤1099511627775):Pure prog 64 [.agg [.str realm,.str name]] (.bool (zap realm name)):=by
 intro H
 (refine fnS (imm:=imm64) zyr func64 ?_;(conv=>whnf))
 refine cP (c104 name h2) ?_
 conv=>whnf
 refine cP (c105 realm h1) ?_
 unfold zap zb1
 cases hr:decide ((za6 realm).1≠0)
 ·conv=>whnf
  exact ⟨rfl,rfl⟩
 ·cases ht:(zcf name).2
  ·conv=>whnf
   refine cP (c106 name ziq (by decide) (by decide) (by decide)) ?_
   cases za9 name ziq
   ·conv=>whnf
    exact ⟨rfl,rfl⟩
   ·conv=>whnf
    exact ⟨rfl,rfl⟩
  ·conv=>whnf
   exact ⟨rfl,rfl⟩
def tt42:TT:=[(3,⟨.int .i64,1,8,[.int .i64 0]⟩),(5,⟨.int .u8,1,1,[.int .u8 0]⟩),(9,⟨.str,1,16,[.str []]⟩),(36,⟨.slice 9,1,24,[.slice 0 [] (some 9)]⟩)]
theorem zyp:ttOk prog tt42=true:=by kernel_rfl
def imm42:List Nat:=[]
theorem zl7 (c:UInt8):∀(x y:List UInt8),(∀b∈x,b≠c)→zad c (x++c::y)=x::zad c y
 | [],y,_=>by simp [zad]
 | b::x,y,h=>by
  have ih:=zl7 c x y fun b hb=>h b (List.mem_cons_of_mem _ hb)
  simp [zad,h b List.mem_cons_self,ih]
theorem zl8 (c:UInt8):∀(x:List UInt8),(∀b∈x,b≠c)→zad c x=[x]
 | [],_=>rfl
 | b::x,h=>by
  have ih:=zl8 c x fun b hb=>h b (List.mem_cons_of_mem _ hb)
  simp [zad,h b List.mem_cons_self,ih]
structure SpS where
 i:Nat
 fr:Nat
 l:List (List UInt8)
theorem c42 (s:List UInt8) (c:UInt8) (hs:s.length≤1099511627776):Pure prog 42 [.str s,bC c] (.slice (zad c s).length ((zad c s).map .str) (some 9)):=by
 intro H
 (refine fnS (imm:=imm42) zyp func42 ?_;(conv=>whnf))
 refine lO SpS (fun x=>[(0,.str s),(1,bC c),(5,.slice x.l.length (x.l.map .str) (some 9)),(6,.int .i64 x.fr),(7,.int .i64 x.i)]) (fun _=>H)
  (fun x=>x.fr≤x.i∧x.i≤s.length∧x.l.length≤x.i∧(∀b∈(s.drop x.fr).take (x.i - x.fr),b≠c)∧x.l++zad c (s.drop x.fr)=zad c s) (fun x=>s.length - x.i)
  ⟨⟨0,0,[]⟩,⟨zqn _,Nat.zero_le _,Nat.zero_le _,by simp,rfl⟩,⟨rfl,rfl,rfl,rfl,rfl,zqv⟩,rfl⟩ ?_
 rintro ⟨i,fr,l⟩ ⟨h1,h2,h3,h4,h5⟩
 have h1:fr≤i:=h1
 have h2:i≤s.length:=h2
 have h3:l.length≤i:=h3
 have h4:∀b∈(s.drop fr).take (i - fr),b≠c:=h4
 have h5:l++zad c (s.drop fr)=zad c s:=h5
 conv=>whnf
 refine ⟨fun h=>?_,fun h=>?_⟩
 ·conv=>whnf
  have h:(i:Int)<s.length:=h
  have hi:i<s.length:=by omega
  refine ⟨⟨by show (0:Int)≤(i:Int);omega,h⟩,s[i],zqc hi,?_⟩
  conv=>whnf
  refine ⟨fun e=>?_,fun e=>?_⟩
  ·conv=>whnf
   refine ⟨⟨by show (0:Int)≤(fr:Int);omega,by show (fr:Int)≤(i:Int);omega,by show (i:Int)≤_;omega⟩,?_⟩
   conv=>whnf
   refine ⟨⟨by show (l.length+1)*16≤_;omega,rfl,rfl⟩,?_⟩
   conv=>whnf
   have e:s[i]=c:=by
    have e:(s[i].toNat:Int)=(c.toNat:Int):=e
    exact UInt8.toNat_inj.1 (by omega)
   have hseg:s.drop fr=(s.drop fr).take (i - fr)++c::s.drop (i+1):=by
    conv=>lhs;rw [←List.take_append_drop (i - fr) (s.drop fr)]
    rw [List.drop_drop,show fr+(i - fr)=i by omega,List.drop_eq_getElem_cons hi,e]
   refine ⟨⟨i+1,i+1,l++[(s.drop fr).take (i - fr)]⟩,⟨zqn _,hi,by simp;omega,by simp,?_⟩,⟨rfl,rfl,?_,?_,?_,zqv⟩,rfl,?_⟩
   ·show (l++[(s.drop fr).take (i - fr)])++zad c (s.drop (i+1))=_
    rw [←h5]
    conv=>rhs;rw [hseg,zl7 c _ _ h4]
    simp
   ·show PV.slice (l.length+1) (l.map PV.str++[PV.str ((s.take (i:Int).toNat).drop (fr:Int).toNat)]) (some 9)=PV.slice (l++[(s.drop fr).take (i - fr)]).length ((l++[(s.drop fr).take (i - fr)]).map PV.str) (some 9)
    simp [List.drop_take]
   ·show PV.int _ (IntKind.i64.wrap ((i:Int)+1))=PV.int _ ((i+1:Nat):Int)
    rw [w64 (by omega) (by omega)];simp
   ·show PV.int _ (IntKind.i64.wrap ((i:Int)+1))=PV.int _ ((i+1:Nat):Int)
    rw [w64 (by omega) (by omega)];simp
   ·show s.length - (i+1)<s.length - i
    omega
  ·conv=>whnf
   have e:s[i]≠c:=fun h=>e (by rw [h])
   refine ⟨⟨i+1,fr,l⟩,⟨by show fr≤i+1;omega,hi,by show l.length≤i+1;omega,?_,h5⟩,⟨rfl,rfl,rfl,rfl,?_,zqv⟩,rfl,?_⟩
   ·show ∀b∈(s.drop fr).take (i+1 - fr),b≠c
    intro b hb
    rw [show i+1 - fr=(i - fr)+1 by omega,List.take_succ_eq_append_getElem (by rw [List.length_drop];omega)] at hb
    rcases List.mem_append.1 hb with hb | hb
    ·exact h4 b hb
    ·have:b=s[i]:=by
      have:=List.mem_singleton.1 hb
      rw [this,List.getElem_drop];congr 1;omega
     rw [this];exact e
   ·show PV.int _ (IntKind.i64.wrap ((i:Int)+1))=PV.int _ ((i+1:Nat):Int)
    rw [w64 (by omega) (by omega)];simp
   ·show s.length - (i+1)<s.length - i
    omega
 ·conv=>whnf
  have h:¬(i:Int)<s.length:=h
  refine ⟨⟨by show (0:Int)≤(fr:Int);omega,by show (fr:Int)≤_;omega,by omega⟩,?_⟩
  conv=>whnf
  refine ⟨⟨by show (l.length+1)*16≤_;omega,rfl,rfl⟩,?_⟩
  conv=>whnf
  have hno:zad c (s.drop fr)=[s.drop fr]:=zl8 c _ fun b hb=>h4 b (by rw [List.take_of_length_le (by rw [List.length_drop];omega)];exact hb)
  refine ⟨?_,rfl⟩
  show PV.slice (l.length+1) (l.map PV.str++[PV.str ((s.take (s.length:Int).toNat).drop (fr:Int).toNat)]) (some 9)=_
  rw [←h5,hno]
  simp
def tt139:TT:=[(3,⟨.int .i64,1,8,[.int .i64 0]⟩),(5,⟨.int .u8,1,1,[.int .u8 0]⟩),(9,⟨.str,1,16,[.str []]⟩),(36,⟨.slice 9,1,24,[.slice 0 [] (some 9)]⟩)]
theorem zvz:ttOk prog tt139=true:=by kernel_rfl
def z0k:List Nat:=[]
def okC (b:UInt8):Bool:=decide (65≤b.toNat)&&decide (b.toNat≤90)
def okL (s:List UInt8):Bool:=decide (1≤s.length)&&(decide (s.length≤8)&&s.all okC)
theorem zdu (l:List (List UInt8)) {i:Nat} {x:List UInt8} (h:l[i]? = some x):∀(j:Nat) (c:PV),[PV.str x][j]? = some c→(l.map PV.str)[(i:Int).toNat*1+j]? = some c:=by
 intro j c hj
 cases j with
 | zero=>simp at hj;subst hj;simp [h]
 | succ j=>simp at hj
theorem c139 (l : List (List UInt8)) (o : Option Nat) (hs : l.length ≤ 1099511627776) : Pure prog 139 [.slice l.length (l.map .str) o] (.bool (l.all okL && (decide (1 ≤ l.length) && decide (l.length ≤ 4)))) := by
  intro H
  (refine fnS (imm := z0k) zvz func139 ?_; (conv => whnf))
  refine lO Nat (fun i => [(0, .slice l.length (l.map .str) none), (3, .int .i64 i)]) (fun _ => H) (fun i => i ≤ l.length ∧ ∀ j, j < i → (l[j]?.map okL) = some true) (fun i => l.length - i) ⟨0, ⟨Nat.zero_le _, fun j h => by omega⟩, ⟨?_, rfl, trivial⟩, rfl⟩ ?_
  · cases o <;> rfl
  rintro i ⟨h1, h2⟩
  conv => whnf
  refine ⟨fun h => ?_, fun h => ?_⟩
  · conv => whnf
    have h : (i : Int) < l.length := h
    have hi : i < l.length := by omega
    have hg := zqc hi
    refine ⟨⟨by omega, h⟩, [.str l[i]], zdu l hg, ?_⟩
    conv => whnf
    have hbad : okL l[i] = false → (l.all okL && (decide (1 ≤ l.length) && decide (l.length ≤ 4))) = false := fun hb => by
      have : l.all okL = false := by
        cases ha : l.all okL with
        | false => rfl
        | true => rw [List.all_eq_true.1 ha _ (List.getElem_mem hi)] at hb; cases hb
      rw [this]; rfl
    refine ⟨fun h5 => ?_, fun h5 => ?_⟩
    · conv => whnf
      refine ⟨?_, rfl⟩
      rw [hbad (by unfold okL; have : ¬ 1 ≤ l[i].length := by omega
                   simp [this])]; rfl
    conv => whnf
    refine ⟨⟨by omega, h⟩, [.str l[i]], zdu l hg, ?_⟩
    conv => whnf
    refine ⟨fun h6 => ?_, fun h6 => ?_⟩
    · conv => whnf
      refine ⟨?_, rfl⟩
      rw [hbad (by unfold okL; have : ¬ l[i].length ≤ 8 := by omega
                   simp [this])]; rfl
    conv => whnf
    refine lO Nat (fun k => [(0, .slice l.length (l.map .str) none), (3, .int .i64 i), (4, .int .i64 k)]) (fun _ => H) (fun k => k ≤ l[i].length ∧ ∀ j, j < k → (l[i][j]?.map okC) = some true) (fun k => l[i].length - k) ⟨0, ⟨Nat.zero_le _, fun j h => by omega⟩, ⟨rfl, rfl, rfl, trivial⟩, rfl⟩ ?_
    rintro k ⟨k1, k2⟩
    conv => whnf
    refine ⟨⟨by omega, h⟩, [.str l[i]], zdu l hg, ?_⟩
    conv => whnf
    refine ⟨fun h7 => ?_, fun h7 => ?_⟩
    · conv => whnf
      have h7 : (k : Int) < l[i].length := h7
      have hk : k < l[i].length := by omega
      refine ⟨⟨by omega, h⟩, [.str l[i]], zdu l hg, ?_⟩
      conv => whnf
      refine ⟨⟨by omega, h7⟩, l[i][k], zqc hk, ?_⟩
      conv => whnf
      have hbadc : okC l[i][k] = false → okL l[i] = false := fun hb => by
        unfold okL
        have : l[i].all okC = false := by
          cases ha : l[i].all okC with
          | false => rfl
          | true => rw [List.all_eq_true.1 ha _ (List.getElem_mem hk)] at hb; cases hb
        rw [this]; simp
      refine ⟨fun h8 => ?_, fun h8 => ?_⟩
      · conv => whnf
        refine ⟨?_, rfl⟩
        rw [hbad (hbadc (by unfold okC; have : ¬ 65 ≤ l[i][k].toNat := by omega
                            simp [this]))]; rfl
      conv => whnf
      refine ⟨⟨by omega, h⟩, [.str l[i]], zdu l hg, ?_⟩
      conv => whnf
      refine ⟨⟨by omega, h7⟩, l[i][k], zqc hk, ?_⟩
      conv => whnf
      refine ⟨fun h9 => ?_, fun h9 => ?_⟩
      · conv => whnf
        refine ⟨?_, rfl⟩
        rw [hbad (hbadc (by unfold okC; have : ¬ l[i][k].toNat ≤ 90 := by omega
                            simp [this]))]; rfl
      conv => whnf
      refine ⟨k + 1, ⟨hk, fun j hj => ?_⟩, ⟨rfl, rfl, ?_, trivial⟩, rfl, by show l[i].length - (k + 1) < l[i].length - k; omega⟩
      · by_cases e : j = k
        · subst e
          rw [zqc hk]
          have a1 : 65 ≤ l[i][j].toNat := by omega
          have a2 : l[i][j].toNat ≤ 90 := by omega
          simp [okC, a1, a2]
        · exact k2 j (by omega)
      · show PV.int _ (IntKind.i64.wrap ((k : Int) + 1)) = PV.int _ ((k + 1 : Nat) : Int)
        rw [w64 (by omega) (by omega)]; simp
    · conv => whnf
      have h7 : ¬ (k : Int) < l[i].length := h7
      have hok : okL l[i] = true := by
        have ha : l[i].all okC = true := by
          rw [List.all_eq_true]
          intro x hx
          obtain ⟨j, hj, rfl⟩ := List.mem_iff_getElem.1 hx
          have := k2 j (by omega)
          rw [zqc hj] at this
          simpa using this
        have a1 : 1 ≤ l[i].length := by omega
        have a2 : l[i].length ≤ 8 := by omega
        unfold okL
        rw [ha]; simp [a1, a2]
      refine ⟨i + 1, ⟨hi, fun j hj => ?_⟩, ⟨rfl, ?_, trivial⟩, rfl, by omega⟩
      · by_cases e : j = i
        · subst e
          rw [hg]; simp [hok]
        · exact h2 j (by omega)
      · show PV.int _ (IntKind.i64.wrap ((i : Int) + 1)) = PV.int _ ((i + 1 : Nat) : Int)
        rw [w64 (by omega) (by omega)]; simp
  · conv => whnf
    have h : ¬ (i : Int) < l.length := h
    have hall : l.all okL = true := by
      rw [List.all_eq_true]
      intro x hx
      obtain ⟨j, hj, rfl⟩ := List.mem_iff_getElem.1 hx
      have := h2 j (by omega)
      rw [zqc hj] at this
      simpa using this
    rw [hall]
    refine ⟨fun h5 => ?_, fun h5 => ?_⟩
    · conv => whnf
      refine ⟨fun h6 => ?_, fun h6 => ?_⟩
      · conv => whnf
        refine ⟨?_, rfl⟩
        have a1 : 1 ≤ l.length := by omega
        have a2 : l.length ≤ 4 := by omega
        simp [a1, a2, tupOf]
      · conv => whnf
        refine ⟨?_, rfl⟩
        have a2 : ¬ l.length ≤ 4 := by omega
        simp [a2, tupOf]
    · conv => whnf
      refine ⟨?_, rfl⟩
      have a1 : ¬ 1 ≤ l.length := by omega
      simp [a1, tupOf]
def tt86:TT:=[(3,⟨.int .i64,1,8,[.int .i64 0]⟩),(5,⟨.int .u8,1,1,[.int .u8 0]⟩),(9,⟨.str,1,16,[.str []]⟩),(36,⟨.slice 9,1,24,[.slice 0 [] (some 9)]⟩)]
theorem zys:ttOk prog tt86=true:=by kernel_rfl
def imm86:List Nat:=[]
def tt41:TT:=[(3,⟨.int .i64,1,8,[.int .i64 0]⟩),(9,⟨.str,1,16,[.str []]⟩)]
theorem zyo:ttOk prog tt41=true:=by kernel_rfl
def imm41:List Nat:=[]
def labs (l:List (List UInt8)):Bool:=l.all okL&&(decide (1≤l.length)&&decide (l.length≤4))
theorem z3d:∀b:UInt8,inB zcy b.toNat=okC b:=by
 intro b
 have h:∀n:Fin 256,inB zcy n.val=(decide (65≤n.val)&&decide (n.val≤90)):=by decide
 exact h ⟨b.toNat,b.toNat_lt⟩
theorem z3e (s:List UInt8):za9 s zcy=okL s:=by
 unfold za9 okL
 have:(fun c:UInt8=>inB zcy c.toNat)=okC:=funext z3d
 rw [this]
 cases s <;> simp
theorem zsk (c:UInt8) (s:List UInt8):labs (zad c s)=!badL (zad c s):=by
 have h1:=zb7 c s
 unfold labs badL
 have:(fun s=>!za9 s zcy)=fun s=>!okL s:=funext fun s=>by rw [z3e]
 rw [this]
 have h2:decide (1≤(zad c s).length)=true:=by simp;omega
 rw [h2]
 rw [Bool.not_or,List.not_any_eq_all_not,zq5,Bool.and_comm]
 congr 1
 ·by_cases h:4<(zad c s).length
  ·have:¬(zad c s).length≤4:=by omega
   simp [h,this]
  ·have:(zad c s).length≤4:=by omega
   simp [h,this]
 ·simp
theorem zpk (t:List UInt8):labs (zad 46 (47::t))=false:=by
 have h:∃x l,zad 46 (47::t)=(47::x)::l:=by
  simp only [zad]
  rw [zqo (by decide)]
  cases zad 46 t with
  | nil=>exact ⟨[],[],rfl⟩
  | cons a b=>exact ⟨a,b,rfl⟩
 obtain ⟨x,l,h⟩:=h
 have hk:okL (47::x)=false:=by
  have:okC 47=false:=by decide
  simp [okL,this]
 rw [h]
 simp [labs,hk]
theorem c86 (r:List UInt8) (hs:r.length≤1099511627775):Pure prog 86 [.str r] (.int .i64 (za6 r).1):=by
 intro H
 have dot:∀r:List UInt8,r.length≤1099511627775→(zad 46 r).length≤1099511627776:=fun r h=>by have:=zem 46 r;have:=zb7 46 r;omega
 (refine fnS (imm:=imm86) zys func86 ?_;(conv=>whnf))
 refine ⟨fun h=>?_,fun h=>?_⟩
 ·conv=>whnf
  cases r with
  | nil=>simp at h
  | cons x t =>
   refine ⟨⟨by omega,by simp <;> omega⟩,x,rfl,?_⟩
   conv=>whnf
   refine ⟨fun e=>?_,fun e=>?_⟩
   ·have e:x=47:=by
     have e:(x.toNat:Int)=47:=e
     exact UInt8.toNat_inj.1 (by show x.toNat=47;omega)
    subst e
    conv=>whnf
    refine ⟨⟨by omega,by simp <;> omega,by simp⟩,?_⟩
    have ht:((47::t).take ((47::t).length:Int).toNat).drop (1:Int).toNat=t:=by simp
    conv=>whnf
    have htl:t.length≤1099511627775:=by simp at hs;omega
    refine cP (P:=prog) (v:=.slice (zad 47 t).length ((zad 47 t).map .str) (some 9)) ?_ ?_
    ·show Pure prog 42 [.str (((47::t).take ((47::t).length:Int).toNat).drop (1:Int).toNat),bC 47] _
     rw [ht]
     exact c42 t 47 (by omega)
    conv=>whnf
    refine cP (c139 (zad 47 t) none (by have:=zem 47 t;have:=zb7 47 t;omega)) ?_
    have hl:=zsk 47 t
    have hd:=zpk t
    unfold labs at hl hd
    rw [hl]
    cases hb:badL (zad 47 t)
    ·conv=>whnf
     refine ⟨?_,rfl⟩
     simp [za6,hb,tupOf]
    ·conv=>whnf
     refine cP (c42 (47::t) 46 (by omega)) ?_
     conv=>whnf
     refine cP (c139 (zad 46 (47::t)) none (dot _ hs)) ?_
     rw [hd]
     conv=>whnf
     refine ⟨?_,rfl⟩
     simp [za6,hb,tupOf]
   ·have hx:x≠47:=fun h=>e (by rw [h];rfl)
    have hlb:za6 (x::t)=if badL (zad 46 (x::t)) then (0,[]) else (1,(zad 46 (x::t)).reverse):=by
     unfold za6
     split
     ·rename_i h2;cases h2;exact absurd rfl hx
     ·rfl
    conv=>whnf
    refine cP (c42 (x::t) 46 (by omega)) ?_
    conv=>whnf
    refine cP (c139 (zad 46 (x::t)) none (dot _ hs)) ?_
    have hl:=zsk 46 (x::t)
    unfold labs at hl
    rw [hl,hlb]
    cases hb:badL (zad 46 (x::t))
    ·conv=>whnf
     exact ⟨rfl,rfl⟩
    ·conv=>whnf
     exact ⟨rfl,rfl⟩
 ·have hr:r=[]:=by
   cases r with
   | nil=>rfl
   | cons x t=>exact absurd (by simp <;> omega) h
  subst hr
  conv=>whnf
  refine cP (c42 [] 46 (by simp)) ?_
  conv=>whnf
  refine cP (c139 (zad 46 []) none (by simp [zad])) ?_
  have:((zad 46 []).all okL&&(decide (1≤(zad 46 []).length)&&decide ((zad 46 []).length≤4)))=false:=by decide
  rw [this]
  conv=>whnf
  have h0:(za6 []).1=0:=by decide
  exact ⟨by rw [h0];rfl,rfl⟩
theorem c41 (r:List UInt8) (hs:r.length≤1099511627775):Pure prog 41 [.str r] (.bool (zb1 r)):=by
 intro H
 (refine fnS (imm:=imm41) zyo func41 ?_;(conv=>whnf))
 refine cP (c86 r hs) ?_
 conv=>whnf
 refine ⟨fun h=>?_,fun h=>?_⟩
 ·conv=>whnf
  have:(za6 r).1≠0:=by omega
  exact ⟨by simp [zb1,this,tupOf],rfl⟩
 ·conv=>whnf
  have:(za6 r).1=0:=by omega
  exact ⟨by simp [zb1,this,tupOf],rfl⟩
def tt56:TT:=[(3,⟨.int .i64,1,8,[.int .i64 0]⟩),(4,⟨.bool,1,1,[.bool false]⟩),(9,⟨.str,1,16,[.str []]⟩)]
theorem zyq:ttOk prog tt56=true:=by kernel_rfl
def imm56:List Nat:=[]
def tt29:TT:=[(3,⟨.int .i64,1,8,[.int .i64 0]⟩),(4,⟨.bool,1,1,[.bool false]⟩),(5,⟨.int .u8,1,1,[.int .u8 0]⟩),(9,⟨.str,1,16,[.str []]⟩),(30,⟨.strct [(9,0),(9,1)],2,32,[.str [],.str []]⟩)]
theorem zyn:ttOk prog tt29=true:=by kernel_rfl
def imm29:List Nat:=[1]
theorem c56 (n:List UInt8) (hs:n.length≤1099511627775):Pure prog 56 [.str n] (.tup [.str (zcf n).1,.bool (zcf n).2]):=by
 intro H
 (refine fnS (imm:=imm56) zyq func56 ?_;(conv=>whnf))
 refine ⟨fun h=>?_,fun h=>?_⟩
 ·have ht:zcf n=([],false):=by
   unfold zcf
   by_cases hp:krbB.isPrefixOf n=true
   ·have hl:=(List.isPrefixOf_iff_prefix.1 hp).length_le
    have hl:7≤n.length:=hl
    have:n.drop 7=[]:=List.drop_eq_nil_of_le (by omega)
    have h0:zb1 []=false:=by decide
    rw [this,h0];simp
   ·simp [hp]
  rw [ht]
  conv=>whnf
  exact ⟨rfl,rfl⟩
 ·conv=>whnf
  refine ⟨⟨by omega,by omega,by omega⟩,?_⟩
  conv=>whnf
  have hl:krbB.length≤n.length:=by show 7≤_;omega
  refine ⟨fun e=>?_,fun e=>?_⟩
  ·have e:n.take 7=krbB:=e
   have hp:krbB.isPrefixOf n=true:=(zco hl).1 e
   conv=>whnf
   refine ⟨⟨by omega,by omega,by omega⟩,?_⟩
   conv=>whnf
   have hd:(n.take (n.length:Int).toNat).drop (7:Int).toNat=n.drop 7:=by simp
   refine cP (P:=prog) (v:=.bool (zb1 (n.drop 7))) ?_ ?_
   ·show Pure prog 41 [.str ((n.take (n.length:Int).toNat).drop (7:Int).toNat)] _
    rw [hd]
    exact c41 _ (by rw [List.length_drop];omega)
   cases hr:zb1 (n.drop 7)
   ·conv=>whnf
    refine ⟨?_,rfl⟩
    simp [zcf,hp,hr,tupOf]
   ·conv=>whnf
    refine ⟨⟨by omega,by omega,by omega⟩,?_⟩
    conv=>whnf
    refine ⟨?_,rfl⟩
    simp [zcf,hp,hr,tupOf]
  ·have e:¬n.take 7=krbB:=e
   have hp:krbB.isPrefixOf n=false:=by
    cases hb:krbB.isPrefixOf n with
    | false=>rfl
    | true=>exact absurd ((zco hl).2 hb) e
   conv=>whnf
   refine ⟨?_,rfl⟩
   simp [zcf,hp,tupOf]
def okS (b:UInt8):Bool:=(decide (97≤b.toNat)&&decide (b.toNat≤122))||(decide (48≤b.toNat)&&decide (b.toNat≤57))
theorem z3f:∀b:UInt8,inB ziq b.toNat=okS b:=by
 intro b
 have h:∀n:Fin 256,inB ziq n.val=((decide (97≤n.val)&&decide (n.val≤122))||(decide (48≤n.val)&&decide (n.val≤57))):=by decide
 exact h ⟨b.toNat,b.toNat_lt⟩
theorem zpy (s:List UInt8):za9 s ziq=(s.all okS&&(decide (1≤s.length)&&decide (s.length≤8))):=by
 unfold za9
 have:(fun c:UInt8=>inB ziq c.toNat)=okS:=funext z3f
 rw [this]
 cases s with
 | nil=>rfl
 | cons a s =>
  have h1:decide (1≤(a::s).length)=true:=by simp
  have h2:decide (a::s≠[])=true:=by simp
  rw [h1,h2,zq5,zq5,Bool.and_comm]
theorem c29 (realm name : List UInt8) (h1 : realm.length ≤ 1099511627775) (h2 : name.length ≤ 1099511627775) : Pure prog 29 [.agg [.str realm, .str name]] (.bool (zap realm name)) := by
  intro H
  (refine fnS (imm := imm29) zyn func29 ?_; (conv => whnf))
  refine cP (c41 realm h1) ?_
  unfold zap
  cases hr : zb1 realm
  · conv => whnf
    exact ⟨rfl, rfl⟩
  conv => whnf
  refine cP (c56 name h2) ?_
  cases ht : (zcf name).2
  · conv => whnf
    rw [zpy]
    refine lO Nat (fun i => [(1, .elem [.str realm, .str name]), (5, .int .i64 i)]) (fun _ => H) (fun i => i ≤ name.length ∧ ∀ j, j < i → (name[j]?.map okS) = some true) (fun i => name.length - i) ⟨0, ⟨Nat.zero_le _, fun j h => by omega⟩, ⟨rfl, rfl, trivial⟩, rfl⟩ ?_
    rintro i ⟨k1, k2⟩
    conv => whnf
    refine ⟨fun h => ?_, fun h => ?_⟩
    · conv => whnf
      have h : (i : Int) < name.length := h
      have hi : i < name.length := by omega
      refine ⟨⟨by omega, h⟩, name[i], zqc hi, ?_⟩
      conv => whnf
      have hbad : okS name[i] = false → (name.all okS && (decide (1 ≤ name.length) && decide (name.length ≤ 8))) = false := fun hb => by
        have : name.all okS = false := by
          cases ha : name.all okS with
          | false => rfl
          | true => rw [List.all_eq_true.1 ha _ (List.getElem_mem hi)] at hb; cases hb
        rw [this]; rfl
      have go : okS name[i] = true → ∃ s' : Nat, (s' ≤ name.length ∧ ∀ j, j < s' → (name[j]?.map okS) = some true) ∧ PV.int .i64 (IntKind.i64.wrap ((i : Int) + 1)) = PV.int .i64 s' ∧ name.length - s' < name.length - i := fun hok =>
        ⟨i + 1, ⟨hi, fun j hj => by
          by_cases e : j = i
          · subst e; rw [zqc hi]; simp [hok]
          · exact k2 j (by omega)⟩, by rw [w64 (by omega) (by omega)]; simp, by omega⟩
      refine ⟨fun a1 => ?_, fun a1 => ?_⟩
      · conv => whnf
        refine ⟨fun a2 => ?_, fun a2 => ?_⟩
        · conv => whnf
          refine ⟨?_, rfl⟩
          rw [hbad (by unfold okS
                       have e1 : ¬ 97 ≤ name[i].toNat := by omega
                       have e2 : ¬ 48 ≤ name[i].toNat := by omega
                       simp [e1, e2])]; rfl
        · conv => whnf
          refine ⟨fun a3 => ?_, fun a3 => ?_⟩
          · conv => whnf
            refine ⟨?_, rfl⟩
            rw [hbad (by unfold okS
                         have e1 : ¬ 97 ≤ name[i].toNat := by omega
                         have e2 : ¬ name[i].toNat ≤ 57 := by omega
                         simp [e1, e2])]; rfl
          · conv => whnf
            obtain ⟨s', y1, y2, y3⟩ := go (by
              unfold okS
              have e1 : 48 ≤ name[i].toNat := by omega
              have e2 : name[i].toNat ≤ 57 := by omega
              simp [e1, e2])
            exact ⟨s', y1, ⟨rfl, y2, trivial⟩, rfl, y3⟩
      · conv => whnf
        refine ⟨fun a2 => ?_, fun a2 => ?_⟩
        · conv => whnf
          refine ⟨fun a3 => absurd a3 (by omega), fun a3 => ?_⟩
          conv => whnf
          refine ⟨fun a4 => ?_, fun a4 => absurd a4 (by omega)⟩
          conv => whnf
          refine ⟨?_, rfl⟩
          rw [hbad (by unfold okS
                       have e1 : ¬ name[i].toNat ≤ 122 := by omega
                       have e2 : ¬ name[i].toNat ≤ 57 := by omega
                       simp [e1, e2])]; rfl
        · conv => whnf
          obtain ⟨s', y1, y2, y3⟩ := go (by
            unfold okS
            have e1 : 97 ≤ name[i].toNat := by omega
            have e2 : name[i].toNat ≤ 122 := by omega
            simp [e1, e2])
          exact ⟨s', y1, ⟨rfl, y2, trivial⟩, rfl, y3⟩
    · conv => whnf
      have h : ¬ (i : Int) < name.length := h
      have hall : name.all okS = true := by
        rw [List.all_eq_true]
        intro x hx
        obtain ⟨j, hj, rfl⟩ := List.mem_iff_getElem.1 hx
        have := k2 j (by omega)
        rw [zqc hj] at this
        simpa using this
      rw [hall]
      refine ⟨fun a1 => ?_, fun a1 => ?_⟩
      · conv => whnf
        refine ⟨fun a2 => ?_, fun a2 => ?_⟩
        · conv => whnf
          refine ⟨?_, rfl⟩
          have e1 : 1 ≤ name.length := by omega
          have e2 : name.length ≤ 8 := by omega
          simp [e1, e2, tupOf]
        · conv => whnf
          refine ⟨?_, rfl⟩
          have e2 : ¬ name.length ≤ 8 := by omega
          simp [e2, tupOf]
      · conv => whnf
        refine ⟨?_, rfl⟩
        have e1 : ¬ 1 ≤ name.length := by omega
        simp [e1, tupOf]
  · conv => whnf
    exact ⟨rfl, rfl⟩
end Go.Proofs.Tryz
namespace Ps
open Go
theorem CK.nil {P:Program} {f:Nat} {args:List PV} {H:PH} (h:CK P f args H fun r H'=>r=.nilS∧H'=H):CK P f args H fun r H'=>r=.slice 0 [] none∧H'=H:=by
 intro g w vs hs hr
 refine (h g w vs hs hr).mono ?_
 rintro e w' ⟨v,r,H',g',rfl,⟨rfl,rfl⟩,hr',st,ho,hc⟩
 have h0:VC P g' w' v .nilS:=hr'.e 0
 have h0:v=.slice none 0 0:=by
  rcases h0 with h0 | ⟨_,_,_,_,h0,_⟩
  ·exact h0.inv_nilS
  ·cases h0
 subst h0
 have hv:V g' w' (.slice none 0 0) (.slice 0 [] none):=.snil none
 have hno:∀t i b,¬ownAt (one (.slice none 0 0) t) (Env.get [(0,.slice 0 [] none)] t) i b:=fun t i b h=>by
  rw [Env.get_cons] at h
  unfold one at h
  by_cases e:t=0
  ·rw [zqp e,zqp e.symm] at h;exact zat hv i b h
  ·rw [zqo (Ne.symm e)] at h;cases h.2.1
 refine ⟨_,.slice 0 [] none,H',g',rfl,⟨rfl,rfl⟩,⟨hr'.h,fun t=>?_,fun t i t' i' b h _=>absurd h (hno t i b),fun t i b h=>absurd h (hno t i b),hr'.cc⟩,st,fun i b h=>absurd h (zat hv i b),hc⟩
 rw [Env.get_cons]
 unfold one
 by_cases e:t=0
 ·rw [zqp e,zqp e.symm];exact hv.vc
 ·rw [zqo e,zqo (Ne.symm e)];exact (V.undef _).vc
end Ps
namespace Go.Proofs.Tryz
open Go Ps
def ttB:TT:=[(3,⟨.int .i64,1,8,[.int .i64 0]⟩),(5,⟨.int .u8,1,1,[.int .u8 0]⟩),(9,⟨.str,1,16,[.str []]⟩),(22,⟨.slice 5,1,24,[.slice 0 [] (some 5)]⟩),(210,⟨.slice 22,1,24,[.slice 0 [] (some 22)]⟩)]
theorem zg5:ttOk prog ttB=true:=by kernel_rfl
def z2t:List Nat:=[22]
def z2k:List Nat:=[33]
def z13:List Nat:=[]
def z17:List Nat:=[]
def z2c:List Nat:=[]
def z2l:List Nat:=[]
def z15:List Nat:=[3,15,30]
def z2m:List Nat:=[]
def Ext (H H':PH):Prop:=∃ext,H'=H++ext
theorem Ext.refl (H:PH):Ext H H:=⟨[],by simp⟩
theorem Ext.push {H H':PH} (h:Ext H H') (o:PObj):Ext H (H'++[o]):=by
 obtain ⟨e,rfl⟩:=h
 exact ⟨e++[o],by simp⟩
theorem Ext.set {H H':PH} (h:Ext H H') {id:Nat} (hid:H.length≤id) (o:PObj):Ext H (H'.set id o):=by
 obtain ⟨e,rfl⟩:=h
 exact ⟨e.set (id - H.length) o,by rw [List.set_append_right _ _ hid]⟩
theorem Ext.len {H H':PH} (h:Ext H H'):H.length≤H'.length:=by
 obtain ⟨e,rfl⟩:=h
 simp
theorem c257 (n:Nat) (hn:n≤1099511627776) (H:PH):CK prog 257 [.nilS,.int .i64 n] H fun r H'=>(n=0∧r=.nilS∧H'=H)∨(0<n∧∃cap o,n≤cap∧r=.sref H.length 0 0 cap∧H'=H++[o]∧o.cs.length=cap):=by
 (refine fnS (imm:=z2t) zg5 func257 ?_;(conv=>whnf))
 refine ⟨fun h=>absurd (show (n:Int)<0 from h) (by omega),fun _=>?_⟩
 conv=>whnf
 have hw:IntKind.i64.wrap ((n:Int) - IntKind.i64.wrap (0 - 0))=n:=by
  rw [show IntKind.i64.wrap ((0:Int) - 0)=0 from rfl,w64 (by omega) (by omega)];omega
 refine ⟨fun h=>?_,fun h=>?_⟩
 ·conv=>whnf
  have h:IntKind.i64.wrap ((n:Int) - IntKind.i64.wrap (0 - 0)) > 0:=h
  rw [hw] at h
  refine ⟨⟨by omega,by omega,by omega⟩,?_⟩
  conv=>whnf
  rw [hw]
  refine ⟨⟨h,by show (n:Int)*(1:Nat)≤_;omega⟩,fun cap hc=>?_⟩
  conv=>whnf
  have hc:n≤cap:=hc
  refine ⟨⟨by omega,by omega,by show (0:Int)≤n;omega⟩,fun h2=>?_,fun h2=>absurd (show (0:Int)<((n:Int).toNat:Int) by omega) h2⟩
  conv=>whnf
  refine .inr ⟨by omega,cap,_,hc,rfl,rfl,?_⟩
  show (zal [PV.int .u8 0] n++zal [PV.int .u8 0] (cap - n)).length=cap
  rw [zqf,(zcl (z:=[PV.int .u8 0]) (sz:=1) rfl (by omega) n).1,(zcl (z:=[PV.int .u8 0]) (sz:=1) rfl (by omega) (cap - n)).1]
  omega
 ·conv=>whnf
  have h:¬IntKind.i64.wrap ((n:Int) - IntKind.i64.wrap (0 - 0)) > 0:=h
  rw [hw] at h
  exact .inl ⟨by omega,rfl,rfl⟩
def sl (b:List UInt8):PV:=.slice b.length (b.map bC) none
def Rep (H:PH) (c:PV) (b:List UInt8):Prop:=c=sl b∨∃id off cap o,c=.sref id off b.length cap∧H[id]? = some o∧(((o.cs.drop off).take (b.length*1)).map dem)=b.map bC
def Reps (H:PH) (cs:List PV) (ls:List (List UInt8)):Prop:=cs.length=ls.length∧∀(i:Nat) (c:PV) (b:List UInt8),cs[i]? = some c→ls[i]? = some b→Rep H c b
theorem Reps.sl (H:PH) (ls:List (List UInt8)):Reps H (ls.map sl) ls:=⟨by simp,fun i c b hc hb=>by
 rw [List.getElem?_map,hb] at hc
 exact .inl (Option.some.inj hc).symm⟩
theorem Ext.get {H H':PH} (h:Ext H H') {j:Nat} {o:PObj} (hj:H[j]? = some o):H'[j]? = some o:=by
 obtain ⟨e,rfl⟩:=h
 rw [zq2 (zq1.1 hj).1];exact hj
structure CoS where
 k:Nat
structure CoT where
 k:Nat
 H:PH
 v:PV
theorem zhp {a b:List PV} {n:Nat} (h:a.length=n):(a++b).take n=a:=by subst h;simp
theorem zh3 {ls:List (List UInt8)} {k:Nat} (hk:k<ls.length):(ls.take (k+1)).flatten=(ls.take k).flatten++ls[k]:=by
 rw [List.take_succ_eq_append_getElem hk,List.flatten_append,zqk,zql,List.append_nil]
theorem zr5 (ls:List (List UInt8)) (k:Nat):((ls.take k).flatten).length≤ls.flatten.length:=by
 conv=>rhs;rw [←List.take_append_drop k ls]
 rw [List.flatten_append,zqf];omega
theorem zbr (b:List UInt8):(b.map bC).all oneP=true:=List.all_eq_true.2 fun x hx=>by
 obtain ⟨b,_,rfl⟩:=List.mem_map.1 hx
 rfl
def coOk (H0:PH) (ls:List (List UInt8)) (k:Nat) (H:PH) (v:PV):Prop :=
 (ls.flatten.length=0∧v=.nilS∧H=H0)∨(0<ls.flatten.length∧∃id cap o,v=.sref id 0 ((ls.take k).flatten).length cap∧H0.length≤id∧H[id]? = some o∧(o.cs.length=cap∧ls.flatten.length≤cap)∧o.cs.take ((ls.take k).flatten).length=((ls.take k).flatten).map bC)
theorem c236x (ls:List (List UInt8)) (hn:ls.length≤1099511627776) (ht:ls.flatten.length≤1099511627776) (H0:PH) (cs:List PV) (hr:Reps H0 cs ls):CK prog 236 [.slice ls.length cs none] H0 fun r H'=>Ext H0 H'∧coOk H0 ls ls.length H' r:=by
  (refine fnS (imm:=z2k) zg5 func236 ?_;(conv=>whnf))
  refine lO CoS (fun x=>[(0,.slice ls.length cs none),(9,.slice ls.length cs none),(10,.int .i64 ls.length),(11,.int .i64 x.k),(3,.int .i64 ((ls.take x.k).flatten).length)]) (fun _=>H0)
    (fun x=>x.k≤ls.length) (fun x=>ls.length - x.k) ⟨⟨0⟩,Nat.zero_le _,⟨rfl,rfl,rfl,rfl,rfl,zqv⟩,rfl⟩ ?_
  rintro ⟨k⟩ hk
  have hk:k≤ls.length:=hk
  conv=>whnf
  refine ⟨fun h=>?_,fun h=>?_⟩
  · conv=>whnf
    have h:(k:Int)<ls.length:=h
    have hi:k<ls.length:=by omega
    have hic:k<cs.length:=by rw [hr.1];exact hi
    have hrep:=hr.2 k _ _ (zqc hic) (zqc hi)
    refine ⟨⟨by show (0:Int)≤(k:Int);omega,h⟩,[cs[k]],fun j c hj=>?_,?_⟩
    · match j with
      | 0 =>
        have hj:some cs[k]=some c:=hj
        show cs[(k:Int).toNat*1+0]? = _
        rw [←hj]
        simp [hic]
      | j+1=>simp at hj
    have hf:=zh3 hi
    have hl:=zr5 ls (k+1)
    rw [hf,zqf] at hl
    have hw:IntKind.i64.wrap ((((ls.take k).flatten).length:Int)+(ls[k].length:Int))=((((ls.take (k+1)).flatten).length:Nat):Int):=by
      rw [w64 (by omega) (by omega),hf,zqf];rfl
    generalize cs[k]=c at hrep ⊢
    rcases hrep with rfl | ⟨id,off,cap,o,rfl,_,_⟩
    all_goals
     conv=>whnf
     refine ⟨fun h=>absurd (show IntKind.i64.wrap ((((ls.take k).flatten).length:Int)+(ls[k].length:Int))<0 from h) (by rw [hw];omega),fun _=>?_⟩
     conv=>whnf
     refine ⟨⟨k+1⟩,by show k+1≤ls.length;omega,⟨rfl,rfl,rfl,?_,?_,zqv⟩,rfl,by show ls.length - (k+1)<ls.length - k;omega⟩
     · show PV.int _ (IntKind.i64.wrap ((k:Int)+1))=PV.int _ ((k+1:Nat):Int)
       rw [w64 (by omega) (by omega)];rfl
     · exact zqm (PV.int .i64) hw
  · conv=>whnf
    have h:¬(k:Int)<ls.length:=h
    have hkl:k=ls.length:=by omega
    subst hkl
    have htake:ls.take ls.length=ls:=List.take_of_length_le (zqn _)
    refine cA (args':=[.nilS,.int .i64 ls.flatten.length]) (by show [PV.nilS,.int .i64 ((ls.take ls.length).flatten).length]=_;rw [htake]) ?_
    refine cO (c257 ls.flatten.length ht H0) ?_
    rintro r H1 hr1
    have hstart:Ext H0 H1∧coOk H0 ls 0 H1 r:=by
      rcases hr1 with ⟨h1,rfl,rfl⟩ | ⟨h1,cap,o,h2,rfl,rfl,h3⟩
      · exact ⟨Ext.refl _,.inl ⟨h1,rfl,rfl⟩⟩
      · exact ⟨⟨_,rfl⟩,.inr ⟨h1,H0.length,cap,o,rfl,zqn _,by simp,⟨h3,h2⟩,by simp⟩⟩
    obtain ⟨e1,e2⟩:=hstart
    have hcase:(∃(v:PV),r=v∧(v=.nilS∨∃id n cap,v=.sref id 0 n cap)):=by
      rcases e2 with ⟨_,rfl,_⟩ | ⟨_,id,cap,_,rfl,_⟩
      · exact ⟨_,rfl,.inl rfl⟩
      · exact ⟨_,rfl,.inr ⟨id,_,cap,rfl⟩⟩
    have hgo:∀(E:Env),subE [(0,.slice ls.length cs none),(25,.slice ls.length cs none),(26,.int .i64 ls.length),(27,.int .i64 0),(6,r)] E→True:=fun _ _=>trivial
    obtain ⟨v,rfl,hv⟩:=hcase
    rcases hv with rfl | ⟨id,n,cap,rfl⟩
    all_goals
      conv=>whnf
      refine lO CoT (fun x=>[(25,.slice ls.length cs none),(26,.int .i64 ls.length),(27,.int .i64 x.k),(6,x.v)]) (fun x=>x.H)
        (fun x=>x.k≤ls.length∧Ext H0 x.H∧coOk H0 ls x.k x.H x.v) (fun x=>ls.length - x.k) ⟨⟨0,H1,_⟩,⟨Nat.zero_le _,e1,e2⟩,⟨rfl,rfl,rfl,rfl,zqv⟩,rfl⟩ ?_
      clear hgo e1 e2 hr1
      rintro ⟨k,H,v⟩ ⟨g1,g2,g3⟩
      have g1:k≤ls.length:=g1
      have g2:Ext H0 H:=g2
      have g3:coOk H0 ls k H v:=g3
      conv=>whnf
      refine ⟨fun h=>?_,fun h=>?_⟩
      · conv=>whnf
        have h:(k:Int)<ls.length:=h
        have hi:k<ls.length:=by omega
        have hic:k<cs.length:=by rw [hr.1];exact hi
        have hrep:=hr.2 k _ _ (zqc hic) (zqc hi)
        refine ⟨⟨by show (0:Int)≤(k:Int);omega,h⟩,[cs[k]],fun j c hj=>?_,?_⟩
        · match j with
          | 0 =>
            have hj:some cs[k]=some c:=hj
            show cs[(k:Int).toNat*1+0]? = _
            rw [←hj]
            simp [hic]
          | j+1=>simp at hj
        generalize cs[k]=c at hrep ⊢
        have hf:=zh3 hi
        have hl:=zr5 ls (k+1)
        rw [hf,zqf] at hl
        have hlast:∀(E:Env) (H':PH) (v':PV),subE [(25,.slice ls.length cs none),(26,.int .i64 ls.length),(27,.int .i64 (IntKind.i64.wrap ((k:Int)+1))),(6,v')] E→Ext H0 H'→coOk H0 ls (k+1) H' v' →
          ∃s':CoT,(s'.k≤ls.length∧Ext H0 s'.H∧coOk H0 ls s'.k s'.H s'.v)∧subE [(25,.slice ls.length cs none),(26,.int .i64 ls.length),(27,.int .i64 s'.k),(6,s'.v)] E∧H'=s'.H∧ls.length - s'.k<ls.length - k:=by
          intro E H' v' hE hx hy
          rw [w64 (by omega) (by omega)] at hE
          exact ⟨⟨k+1,H',v'⟩,⟨by show k+1≤ls.length;omega,hx,hy⟩,hE,rfl,by show ls.length - (k+1)<ls.length - k;omega⟩
        rcases g3 with ⟨y1,rfl,y3⟩ | ⟨y1,id,cap,o,rfl,hid,hob,⟨hcap,htc⟩,htk⟩
        · have hz:ls[k].length=0:=by omega
          rcases hrep with rfl | ⟨id,off,cap,o,rfl,ho,hbytes⟩
          · conv=>whnf
            refine ⟨⟨by show ls[k].length*1≤_;omega,by rw [zqq,Nat.mul_one],zbr _⟩,fun _=>?_,fun h=>absurd (show 0<ls[k].length from h) (by omega)⟩
            conv=>whnf
            exact hlast _ _ _ ⟨rfl,rfl,rfl,rfl,zqv⟩ g2 (.inl ⟨y1,rfl,y3⟩)
          · have ho':=g2.get ho
            conv=>whnf
            ((conv in (_[_]?)=>tactic=>exact ho');(conv=>whnf))
            refine ⟨⟨by show ls[k].length*1≤_;omega,(zqm List.length hbytes).trans (by rw [zqq];exact (Nat.mul_one _).symm),(zqm (List.all · oneP) hbytes).trans (zbr _)⟩,fun _=>?_,fun h=>absurd (show 0<ls[k].length from h) (by omega)⟩
            conv=>whnf
            exact hlast _ _ _ ⟨rfl,rfl,rfl,rfl,zqv⟩ g2 (.inl ⟨y1,rfl,y3⟩)
        · have hfin:∀(ds:List PV),ds=ls[k].map bC→(zaa (((ls.take k).flatten).length*1) ds o.cs).length=cap∧(zaa (((ls.take k).flatten).length*1) ds o.cs).take ((ls.take (k+1)).flatten).length=((ls.take (k+1)).flatten).map bC:=by
            rintro ds rfl
            have hse:zaa (((ls.take k).flatten).length*1) (ls[k].map bC) o.cs=o.cs.take (((ls.take k).flatten).length*1)++ls[k].map bC++o.cs.drop (((ls.take k).flatten).length*1+(ls[k].map bC).length):=za3 _ _ _ (by rw [zqq];omega)
            refine ⟨by rw [zbh _ _ _ (by rw [zqq];omega)];exact hcap,?_⟩
            rw [hse,hf,Nat.mul_one,htk,zhp (by rw [zqf,zqf,zqq,zqq]),List.map_append]
          rcases hrep with rfl | ⟨id2,off2,cap2,o2,rfl,ho,hbytes⟩
          · obtain ⟨f1,f2⟩:=hfin _ rfl
            conv=>whnf
            ((conv in (_[_]?)=>tactic=>exact hob);(conv=>whnf))
            refine ⟨⟨rfl,by show (((ls.take k).flatten).length+ls[k].length)*1≤_;omega,by rw [zqq,Nat.mul_one],zbr _,by show ((ls.take k).flatten).length*1≤_;omega⟩,fun _=>⟨by show (((ls.take k).flatten).length+ls[k].length)*1≤_;omega,?_⟩,fun h=>absurd h (by omega)⟩
            conv=>whnf
            exact hlast _ _ _ ⟨rfl,rfl,rfl,rfl,zqv⟩ (g2.set hid _) (.inr ⟨y1,id,cap,⟨o.T,zaa (((ls.take k).flatten).length*1) (ls[k].map bC) o.cs,o.ver+1⟩,by rw [hf,zqf];rfl,hid,gS hob,⟨f1,htc⟩,f2⟩)
          · obtain ⟨f1,f2⟩:=hfin _ hbytes
            have ho':=g2.get ho
            conv=>whnf
            ((conv in (_[_]?)=>tactic=>exact ho');(conv=>whnf))
            ((conv in (_[_]?)=>tactic=>exact hob);(conv=>whnf))
            refine ⟨⟨rfl,by show (((ls.take k).flatten).length+ls[k].length)*1≤_;omega,(zqm List.length hbytes).trans (by rw [zqq];exact (Nat.mul_one _).symm),(zqm (List.all · oneP) hbytes).trans (zbr _),by show ((ls.take k).flatten).length*1≤_;omega⟩,fun _=>⟨by show (((ls.take k).flatten).length+ls[k].length)*1≤_;omega,?_⟩,fun h=>absurd h (by omega)⟩
            conv=>whnf
            exact hlast _ _ _ ⟨rfl,rfl,rfl,rfl,zqv⟩ (g2.set hid _) (.inr ⟨y1,id,cap,⟨o.T,zaa (((ls.take k).flatten).length*1) (((o2.cs.drop off2).take (ls[k].length*1)).map dem) o.cs,o.ver+1⟩,by rw [hf,zqf];rfl,hid,gS hob,⟨f1,htc⟩,f2⟩)
      · conv=>whnf
        have h:¬(k:Int)<ls.length:=h
        have hkl:k=ls.length:=by omega
        subst hkl
        rcases g3 with ⟨y1,rfl,y3⟩ | ⟨y1,id,cap,o,rfl,y2⟩
        · conv=>whnf
          exact ⟨g2,.inl ⟨y1,rfl,y3⟩⟩
        · conv=>whnf
          exact ⟨g2,.inr ⟨y1,id,cap,o,rfl,y2⟩⟩
theorem c236 (ls:List (List UInt8)) (hn:ls.length≤1099511627776) (ht:ls.flatten.length≤1099511627776) {H0:PH} {cs:List PV} (hr:Reps H0 cs ls):CK prog 236 [.slice ls.length cs none] H0 fun r H'=>r=sl ls.flatten∧H'=H0:=by
 have htake:ls.take ls.length=ls:=List.take_of_length_le (zqn _)
 rcases Nat.eq_zero_or_pos ls.flatten.length with h0 | h0
 ·have hnil:ls.flatten=[]:=List.length_eq_zero_iff.1 h0
  rw [hnil]
  refine CK.nil ((c236x ls hn ht H0 cs hr).mono fun r H' ⟨_,h⟩=>?_)
  rcases h with ⟨_,h1,h2⟩ | ⟨h1,_⟩
  ·exact ⟨h1,h2⟩
  ·omega
 ·refine CK.frz (c236x ls hn ht H0 cs hr) fun r H' ⟨⟨ext,he⟩,h⟩=>?_
  rcases h with ⟨h1,_⟩ | ⟨_,id,cap,o,h1,h2,h3,⟨h4,h5⟩,h6⟩
  ·omega
  rw [htake] at h1 h6
  refine ⟨ext,id,cap,o,he,h1,h2,h3,by rw [zqq];omega,by rw [zqq];exact h6,?_⟩
  exact List.all_eq_true.2 fun x hx=>by
   obtain ⟨b,_,rfl⟩:=List.mem_map.1 hx
   rfl
set_option maxHeartbeats 1000000
def ttW:TT:=[(3,⟨.int .i64,1,8,[.int .i64 0]⟩),(5,⟨.int .u8,1,1,[.int .u8 0]⟩),(22,⟨.slice 5,1,24,[.slice 0 [] (some 5)]⟩),(215,⟨.arr 16 5,16,16,List.replicate 16 (.int .u8 0)⟩),(173,⟨.int .u64,1,8,[.int .u64 0]⟩),(94,⟨.int .u64,1,8,[.int .u64 0]⟩),(210,⟨.slice 22,1,24,[.slice 0 [] (some 22)]⟩),(329,⟨.ptr,1,8,[.ptr none]⟩),(330,⟨.arr 4 173,4,32,[.int .u64 0,.int .u64 0,.int .u64 0,.int .u64 0]⟩)]
theorem zmd:ttOk prog ttW=true:=by kernel_rfl
def z2u:List Nat:=[]
def z2p:List Nat:=[]
def z2o:List Nat:=[]
def z2n:List Nat:=[]
def z19:List Nat:=[2]
def rotS (k:Int):Int:=ibits .and .u64 (IntKind.u64.wrap k) 63
def rotC (x k:Int):Int:=ibits .or .u64 (ishl .u64 x (rotS k)) (ishr .u64 x (IntKind.u64.wrap (64 - rotS k)))
theorem zck (x:Int):0≤IntKind.u64.wrap x:=by
 show 0≤x % _
 exact Int.emod_nonneg _ (by decide)
theorem c258 (x k:Int):Pure prog 258 [.int .u64 x,.int .i64 k] (.int .u64 (rotC x k)):=by
 intro H
 (refine fnS (imm:=z2u) zmd func258 ?_;(conv=>whnf))
 refine ⟨zck _,?_⟩
 conv=>whnf
 refine ⟨zck _,?_⟩
 conv=>whnf
 exact ⟨rfl,rfl⟩
structure S4 where
 a:Int
 b:Int
 c:Int
 d:Int
def S4.O (s:S4) (v:Nat):PObj:=⟨330,[.int .u64 s.a,.int .u64 s.b,.int .u64 s.c,.int .u64 s.d],v⟩
def addW (x y:Int):Int:=IntKind.u64.wrap (x+y)
def xorW (x y:Int):Int:=ibits .xor .u64 x y
def S4.s0 (s:S4):S4:=⟨addW s.a s.b,s.b,s.c,s.d⟩
def S4.s1 (s:S4):S4:=⟨s.a,xorW (rotC s.b 13) s.a,s.c,s.d⟩
def S4.s2 (s:S4):S4:=⟨rotC s.a 32,s.b,s.c,s.d⟩
def S4.s3 (s:S4):S4:=⟨s.a,s.b,addW s.c s.d,s.d⟩
def S4.s4 (s:S4):S4:=⟨s.a,s.b,s.c,xorW (rotC s.d 16) s.c⟩
def S4.s5 (s:S4):S4:=⟨addW s.a s.d,s.b,s.c,s.d⟩
def S4.s6 (s:S4):S4:=⟨s.a,s.b,s.c,xorW (rotC s.d 21) s.a⟩
def S4.s7 (s:S4):S4:=⟨s.a,s.b,addW s.c s.b,s.d⟩
def S4.s8 (s:S4):S4:=⟨s.a,xorW (rotC s.b 17) s.c,s.c,s.d⟩
def S4.s9 (s:S4):S4:=⟨s.a,s.b,rotC s.c 32,s.d⟩
def S4.rnd (s:S4):S4:=s.s0.s1.s2.s3.s4.s5.s6.s7.s8.s9
def S4.rnds:Nat→S4→S4
 | 0,s=>s
 | n+1,s=>(S4.rnds n s).rnd
theorem S4.look (s:S4) (v:Nat) {id:Nat} {H:PH} {o:PObj} (h:H[id]? = some o):(H.set id (s.O v))[id]? = some ⟨330,[.int .u64 s.a,.int .u64 s.b,.int .u64 s.c,.int .u64 s.d],v⟩:=gS h
def zy8:Draw:={ imp:=[11],win:=[] }
def zy9:Draw:={ imp:=[13],win:=[] }
def zza:Draw:={ imp:=[8],win:=[] }
def zzb:Draw:={ imp:=[11],win:=[] }
def zzc:Draw:={ imp:=[13],win:=[] }
def zzd:Draw:={ imp:=[11],win:=[] }
def zze:Draw:={ imp:=[13],win:=[] }
def zzf:Draw:={ imp:=[11],win:=[] }
def zxh:Draw:={ imp:=[13],win:=[] }
def zxi:Draw:={ imp:=[8],win:=[] }
theorem c241 (n:Nat) (hn:n≤1000) (s:S4) (id v:Nat) (H:PH) (hid:H[id]? = some (s.O v)) :
  CK prog 241 [.ptr (some (id,0)),.int .i64 n] H fun r H'=>r=.tup []∧∃v',H'=H.set id ((S4.rnds n s).O v'):=by
 (refine fnS (imm:=z2p) zmd func241 ?_;(conv=>whnf))
 refine lO (Nat×Nat) (fun x=>[(0,.ptr (some (id,0))),(4,.int .i64 n),(5,.int .i64 x.1)]) (fun x=>H.set id ((S4.rnds x.1 s).O x.2)) (fun x=>x.1≤n) (fun x=>n - x.1) ⟨(0,v),Nat.zero_le _,⟨rfl,rfl,rfl,zqv⟩,(zea hid).symm⟩ ?_
 rintro ⟨i,w⟩ hi
 replace hi:i≤n:=hi
 conv=>whnf
 refine ⟨fun h=>?_,fun h=>?_⟩
 ·have h:(i:Int)<n:=h
  conv=>whnf
  generalize hs:S4.rnds i s=z0
  refine dO2 zy8 [H.set id (z0.O (w+0)),H.set id (z0.s0.O (w+1))] (by kernel_rfl) rfl trivial ?_
  conv=>whnf
  iterate 3 (refine dS ?_;(conv=>whnf))
  apply exA
  ·conv=>whnf
   ((conv in (_[_]?)=>tactic=>exact (z0.look (w+0) hid));(conv=>whnf))
   exact ⟨rfl,rfl,zqv⟩
  conv=>whnf
  iterate 3 (refine dS ?_;(conv=>whnf))
  apply exA
  ·conv=>whnf
   ((conv in (_[_]?)=>tactic=>exact (z0.look (w+0) hid));(conv=>whnf))
   exact ⟨rfl,rfl,zqv⟩
  conv=>whnf
  iterate 3 (refine dS ?_;(conv=>whnf))
  apply exA
  ·conv=>whnf
   ((conv in (_[_]?)=>tactic=>exact (z0.look (w+0) hid));(conv=>whnf))
   exact ⟨rfl,List.set_set ..,zqv⟩
  conv=>whnf
  generalize hs1:S4.s0 z0=z1
  refine dO2 zy9 [H.set id (z1.O (w+1)),H.set id (z1.s1.O (w+2))] (by kernel_rfl) rfl trivial ?_
  conv=>whnf
  iterate 4 (refine dS ?_;(conv=>whnf))
  apply exA
  ·conv=>whnf
   ((conv in (_[_]?)=>tactic=>exact (z1.look (w+1) hid));(conv=>whnf))
   exact ⟨rfl,rfl,zqv⟩
  conv=>whnf
  refine ⟨_,cP (c258 _ _) ⟨rfl,rfl,zqv⟩,?_⟩
  conv=>whnf
  iterate 3 (refine dS ?_;(conv=>whnf))
  apply exA
  ·conv=>whnf
   ((conv in (_[_]?)=>tactic=>exact (z1.look (w+1) hid));(conv=>whnf))
   exact ⟨rfl,rfl,zqv⟩
  conv=>whnf
  iterate 3 (refine dS ?_;(conv=>whnf))
  apply exA
  ·conv=>whnf
   ((conv in (_[_]?)=>tactic=>exact (z1.look (w+1) hid));(conv=>whnf))
   exact ⟨rfl,List.set_set ..,zqv⟩
  conv=>whnf
  generalize hs2:S4.s1 z1=z2
  refine dO2 zza [H.set id (z2.O (w+2)),H.set id (z2.s2.O (w+3))] (by kernel_rfl) rfl trivial ?_
  conv=>whnf
  iterate 4 (refine dS ?_;(conv=>whnf))
  apply exA
  ·conv=>whnf
   ((conv in (_[_]?)=>tactic=>exact (z2.look (w+2) hid));(conv=>whnf))
   exact ⟨rfl,rfl,zqv⟩
  conv=>whnf
  refine ⟨_,cP (c258 _ _) ⟨rfl,rfl,zqv⟩,?_⟩
  conv=>whnf
  iterate 2 (refine dS ?_;(conv=>whnf))
  apply exA
  ·conv=>whnf
   ((conv in (_[_]?)=>tactic=>exact (z2.look (w+2) hid));(conv=>whnf))
   exact ⟨rfl,List.set_set ..,zqv⟩
  conv=>whnf
  generalize hs3:S4.s2 z2=z3
  refine dO2 zzb [H.set id (z3.O (w+3)),H.set id (z3.s3.O (w+4))] (by kernel_rfl) rfl trivial ?_
  conv=>whnf
  iterate 3 (refine dS ?_;(conv=>whnf))
  apply exA
  ·conv=>whnf
   ((conv in (_[_]?)=>tactic=>exact (z3.look (w+3) hid));(conv=>whnf))
   exact ⟨rfl,rfl,zqv⟩
  conv=>whnf
  iterate 3 (refine dS ?_;(conv=>whnf))
  apply exA
  ·conv=>whnf
   ((conv in (_[_]?)=>tactic=>exact (z3.look (w+3) hid));(conv=>whnf))
   exact ⟨rfl,rfl,zqv⟩
  conv=>whnf
  iterate 3 (refine dS ?_;(conv=>whnf))
  apply exA
  ·conv=>whnf
   ((conv in (_[_]?)=>tactic=>exact (z3.look (w+3) hid));(conv=>whnf))
   exact ⟨rfl,List.set_set ..,zqv⟩
  conv=>whnf
  generalize hs4:S4.s3 z3=z4
  refine dO2 zzc [H.set id (z4.O (w+4)),H.set id (z4.s4.O (w+5))] (by kernel_rfl) rfl trivial ?_
  conv=>whnf
  iterate 4 (refine dS ?_;(conv=>whnf))
  apply exA
  ·conv=>whnf
   ((conv in (_[_]?)=>tactic=>exact (z4.look (w+4) hid));(conv=>whnf))
   exact ⟨rfl,rfl,zqv⟩
  conv=>whnf
  refine ⟨_,cP (c258 _ _) ⟨rfl,rfl,zqv⟩,?_⟩
  conv=>whnf
  iterate 3 (refine dS ?_;(conv=>whnf))
  apply exA
  ·conv=>whnf
   ((conv in (_[_]?)=>tactic=>exact (z4.look (w+4) hid));(conv=>whnf))
   exact ⟨rfl,rfl,zqv⟩
  conv=>whnf
  iterate 3 (refine dS ?_;(conv=>whnf))
  apply exA
  ·conv=>whnf
   ((conv in (_[_]?)=>tactic=>exact (z4.look (w+4) hid));(conv=>whnf))
   exact ⟨rfl,List.set_set ..,zqv⟩
  conv=>whnf
  generalize hs5:S4.s4 z4=z5
  refine dO2 zzd [H.set id (z5.O (w+5)),H.set id (z5.s5.O (w+6))] (by kernel_rfl) rfl trivial ?_
  conv=>whnf
  iterate 3 (refine dS ?_;(conv=>whnf))
  apply exA
  ·conv=>whnf
   ((conv in (_[_]?)=>tactic=>exact (z5.look (w+5) hid));(conv=>whnf))
   exact ⟨rfl,rfl,zqv⟩
  conv=>whnf
  iterate 3 (refine dS ?_;(conv=>whnf))
  apply exA
  ·conv=>whnf
   ((conv in (_[_]?)=>tactic=>exact (z5.look (w+5) hid));(conv=>whnf))
   exact ⟨rfl,rfl,zqv⟩
  conv=>whnf
  iterate 3 (refine dS ?_;(conv=>whnf))
  apply exA
  ·conv=>whnf
   ((conv in (_[_]?)=>tactic=>exact (z5.look (w+5) hid));(conv=>whnf))
   exact ⟨rfl,List.set_set ..,zqv⟩
  conv=>whnf
  generalize hs6:S4.s5 z5=z6
  refine dO2 zze [H.set id (z6.O (w+6)),H.set id (z6.s6.O (w+7))] (by kernel_rfl) rfl trivial ?_
  conv=>whnf
  iterate 4 (refine dS ?_;(conv=>whnf))
  apply exA
  ·conv=>whnf
   ((conv in (_[_]?)=>tactic=>exact (z6.look (w+6) hid));(conv=>whnf))
   exact ⟨rfl,rfl,zqv⟩
  conv=>whnf
  refine ⟨_,cP (c258 _ _) ⟨rfl,rfl,zqv⟩,?_⟩
  conv=>whnf
  iterate 3 (refine dS ?_;(conv=>whnf))
  apply exA
  ·conv=>whnf
   ((conv in (_[_]?)=>tactic=>exact (z6.look (w+6) hid));(conv=>whnf))
   exact ⟨rfl,rfl,zqv⟩
  conv=>whnf
  iterate 3 (refine dS ?_;(conv=>whnf))
  apply exA
  ·conv=>whnf
   ((conv in (_[_]?)=>tactic=>exact (z6.look (w+6) hid));(conv=>whnf))
   exact ⟨rfl,List.set_set ..,zqv⟩
  conv=>whnf
  generalize hs7:S4.s6 z6=z7
  refine dO2 zzf [H.set id (z7.O (w+7)),H.set id (z7.s7.O (w+8))] (by kernel_rfl) rfl trivial ?_
  conv=>whnf
  iterate 3 (refine dS ?_;(conv=>whnf))
  apply exA
  ·conv=>whnf
   ((conv in (_[_]?)=>tactic=>exact (z7.look (w+7) hid));(conv=>whnf))
   exact ⟨rfl,rfl,zqv⟩
  conv=>whnf
  iterate 3 (refine dS ?_;(conv=>whnf))
  apply exA
  ·conv=>whnf
   ((conv in (_[_]?)=>tactic=>exact (z7.look (w+7) hid));(conv=>whnf))
   exact ⟨rfl,rfl,zqv⟩
  conv=>whnf
  iterate 3 (refine dS ?_;(conv=>whnf))
  apply exA
  ·conv=>whnf
   ((conv in (_[_]?)=>tactic=>exact (z7.look (w+7) hid));(conv=>whnf))
   exact ⟨rfl,List.set_set ..,zqv⟩
  conv=>whnf
  generalize hs8:S4.s7 z7=z8
  refine dO2 zxh [H.set id (z8.O (w+8)),H.set id (z8.s8.O (w+9))] (by kernel_rfl) rfl trivial ?_
  conv=>whnf
  iterate 4 (refine dS ?_;(conv=>whnf))
  apply exA
  ·conv=>whnf
   ((conv in (_[_]?)=>tactic=>exact (z8.look (w+8) hid));(conv=>whnf))
   exact ⟨rfl,rfl,zqv⟩
  conv=>whnf
  refine ⟨_,cP (c258 _ _) ⟨rfl,rfl,zqv⟩,?_⟩
  conv=>whnf
  iterate 3 (refine dS ?_;(conv=>whnf))
  apply exA
  ·conv=>whnf
   ((conv in (_[_]?)=>tactic=>exact (z8.look (w+8) hid));(conv=>whnf))
   exact ⟨rfl,rfl,zqv⟩
  conv=>whnf
  iterate 3 (refine dS ?_;(conv=>whnf))
  apply exA
  ·conv=>whnf
   ((conv in (_[_]?)=>tactic=>exact (z8.look (w+8) hid));(conv=>whnf))
   exact ⟨rfl,List.set_set ..,zqv⟩
  conv=>whnf
  generalize hs9:S4.s8 z8=z9
  refine dO2 zxi [H.set id (z9.O (w+9)),H.set id (z9.s9.O (w+10))] (by kernel_rfl) rfl trivial ?_
  conv=>whnf
  iterate 4 (refine dS ?_;(conv=>whnf))
  apply exA
  ·conv=>whnf
   ((conv in (_[_]?)=>tactic=>exact (z9.look (w+9) hid));(conv=>whnf))
   exact ⟨rfl,rfl,zqv⟩
  conv=>whnf
  refine ⟨_,cP (c258 _ _) ⟨rfl,rfl,zqv⟩,?_⟩
  conv=>whnf
  iterate 2 (refine dS ?_;(conv=>whnf))
  apply exA
  ·conv=>whnf
   ((conv in (_[_]?)=>tactic=>exact (z9.look (w+9) hid));(conv=>whnf))
   exact ⟨rfl,List.set_set ..,zqv⟩
  conv=>whnf
  refine ⟨(i+1,w+10),by show i+1≤n;omega,⟨rfl,rfl,?_,zqv⟩,?_,by show n - (i+1)<n - i;omega⟩
  ·show PV.int _ (IntKind.i64.wrap ((i:Int)+1))=PV.int _ _
   rw [w64 (by omega) (by omega)];simp
  ·subst hs hs1 hs2 hs3 hs4 hs5 hs6 hs7 hs8 hs9
   rfl
 ·have h:¬(i:Int)<n:=h
  have e:i=n:=by omega
  subst e
  conv=>whnf
  exact ⟨rfl,w,rfl⟩
def leN:List UInt8→Nat
 | []=>0
 | c::l=>c.toNat+256*leN l
theorem zsp:∀l:List UInt8,leN l<256 ^ l.length
 | []=>by decide
 | c::l=>by
  have:=zsp l
  have:=c.toNat_lt
  rw [List.length_cons,Nat.pow_succ]
  show c.toNat+256*leN l<_
  omega
theorem zok:∀(l:List UInt8) (c:UInt8),leN (l++[c])=leN l+256 ^ l.length*c.toNat
 | [],c=>by simp [leN]
 | x::l,c=>by
  show x.toNat+256*leN (l++[c])=x.toNat+256*leN l+_
  rw [zok l c,List.length_cons,Nat.pow_succ,Nat.mul_add,Nat.add_assoc]
  congr 2
  rw [←Nat.mul_assoc,Nat.mul_comm 256]
theorem zda {n:Nat} (h:n<18446744073709551616):IntKind.u64.wrap (n:Int)=(n:Int):=by
 show (n:Int) % _=_
 have:(2 ^ IntKind.u64.bits:Int)=18446744073709551616:=by decide
 rw [this];omega
theorem zs9 {x y:Nat} (hx:x<18446744073709551616) (hy:y<18446744073709551616):ibits .or .u64 x y=((x ||| y:Nat):Int):=by
 show IntKind.u64.wrap ((BitVec.ofInt 64 x ||| BitVec.ofInt 64 y).toNat:Int)=_
 have hb:∀{n:Nat},n<18446744073709551616→(BitVec.ofInt 64 (n:Int)).toNat=n:=fun h=>by
  rw [BitVec.toNat_ofInt];omega
 rw [BitVec.toNat_or,hb hx,hb hy]
 have:x ||| y<2 ^ 64:=Nat.or_lt_two_pow hx hy
 exact zda this
theorem z3n (x c i:Nat) (hx:x<2 ^ i) (hc:c*2 ^ i<18446744073709551616) (h2:2 ^ i≤18446744073709551616) (hi:i≤64) :
  ibits .or .u64 x (ishl .u64 c i)=((x+c*2 ^ i:Nat):Int):=by
 have e:ishl .u64 c i=((c*2 ^ i:Nat):Int):=by
  show IntKind.u64.wrap ((c:Int)*2 ^ (min (i:Int).toNat 64))=_
  rw [Int.toNat_natCast,Nat.min_eq_left hi]
  have:((c:Int)*2 ^ i)=((c*2 ^ i:Nat):Int):=by push_cast;rfl
  rw [this]
  exact zda hc
 rw [e,zs9 (by omega) hc,Nat.or_comm,Nat.mul_comm,←Nat.two_pow_add_eq_or_of_lt hx,Nat.add_comm]
theorem pow8 (i:Nat):256 ^ i=2 ^ (8*i):=by rw [Nat.pow_mul]
theorem zkp {i:Nat} (h:i≤8):2 ^ (8*i)≤18446744073709551616:=by
 have:2 ^ (8*i)≤2 ^ 64:=Nat.pow_le_pow_right (by omega) (by omega)
 exact this
theorem zx9 (l:List UInt8) (c:UInt8) (h:l.length<8) :
  ibits .or .u64 (leN l:Nat) (ishl .u64 (IntKind.u64.wrap c.toNat) (8*(l.length:Int)))=((leN (l++[c]):Nat):Int):=by
 have hc:=c.toNat_lt
 have h1:=zsp l
 rw [pow8] at h1
 have h3:2 ^ (8*(l.length+1))≤18446744073709551616:=zkp (by omega)
 have h4:2 ^ (8*(l.length+1))=256*2 ^ (8*l.length):=by rw [Nat.mul_add,Nat.pow_add];omega
 have h2:c.toNat*2 ^ (8*l.length)<18446744073709551616:=by
  have:c.toNat*2 ^ (8*l.length)<256*2 ^ (8*l.length):=Nat.mul_lt_mul_of_pos_right hc (Nat.pow_pos (by omega))
  omega
 rw [zda (by omega)]
 have:=z3n (leN l) c.toNat (8*l.length) h1 h2 (by omega) (by omega)
 rw [zok,pow8,Nat.mul_comm (2 ^ _)]
 have e:(8*(l.length:Int))=((8*l.length:Nat):Int):=by push_cast;rfl
 rw [e]
 exact this
theorem at1' {cs:List PV} {k:Nat} {x:PV} (h:cs[k]? = some x):∀(j:Nat) (c:PV),[x][j]? = some c→cs[k+j]? = some c:=by
 intro j c hj
 match j with
 | 0=>simpa using h.trans hj
 | j+1=>simp at hj
theorem c239 (b:List UInt8) (hb:b.length≤8):Pure prog 239 [sl b] (.int .u64 (leN b)):=by
 intro H
 (refine fnS (imm:=z2n) zmd func239 ?_;(conv=>whnf))
 refine lO Nat (fun i=>[(6,sl b),(7,.int .i64 b.length),(8,.int .i64 i),(3,.int .u64 (leN (b.take i)))]) (fun _=>H) (fun i=>i≤b.length) (fun i=>b.length - i) ⟨0,Nat.zero_le _,⟨rfl,rfl,rfl,rfl,zqv⟩,rfl⟩ ?_
 intro i hi
 conv=>whnf
 refine ⟨fun h=>?_,fun h=>?_⟩
 ·have h:(i:Int)<b.length:=h
  have hi':i<b.length:=by omega
  conv=>whnf
  refine ⟨⟨by omega,h⟩,[bC b[i]],at1' (k:=(i:Int).toNat*1) (by rw [Int.toNat_natCast,Nat.mul_one,List.getElem?_map,zqc hi'];rfl),?_⟩
  conv=>whnf
  refine ⟨by rw [w64 (by omega) (by omega)];omega,?_⟩
  conv=>whnf
  refine ⟨i+1,by omega,⟨rfl,rfl,?_,?_,zqv⟩,rfl,by omega⟩
  ·show PV.int _ (IntKind.i64.wrap ((i:Int)+1))=PV.int _ _
   rw [w64 (by omega) (by omega)];simp
  ·show PV.int _ (ibits .or .u64 (leN (b.take i):Nat) (ishl .u64 (IntKind.u64.wrap (b[i].toNat:Int)) (IntKind.i64.wrap (8*(i:Int)))))=PV.int _ _
   rw [w64 (by omega) (by omega),List.take_succ_eq_append_getElem hi']
   have hl:(b.take i).length=i:=by rw [zqr];omega
   have:=zx9 (b.take i) b[i] (by omega)
   rw [hl] at this
   rw [this]
 ·have h:¬(i:Int)<b.length:=h
  have e:b.take i=b:=List.take_of_length_le (by omega)
  rw [e]
  conv=>whnf
  exact ⟨rfl,rfl⟩
def S4.takes (s:S4) (m:Int):S4:={ S4.rnds 2 { s with d:=xorW s.d m } with a:=xorW (S4.rnds 2 { s with d:=xorW s.d m }).a m }
def D240:Draw:={ imp:=[8],win:=[] }
theorem c240 (s:S4) (m:Int) (id v:Nat) (H:PH) (hid:H[id]? = some (s.O v)) :
  CK prog 240 [.ptr (some (id,0)),.int .u64 m] H fun r H'=>r=.tup []∧∃v',H'=H.set id ((s.takes m).O v'):=by
 (refine fnS (imm:=z2o) zmd func240 ?_;(conv=>whnf))
 refine dO2 D240 [H,H.set id (S4.O { s with d:=xorW s.d m } (v+1))] (by kernel_rfl) rfl trivial ?_
 have g0:H[id]? = some ⟨330,[.int .u64 s.a,.int .u64 s.b,.int .u64 s.c,.int .u64 s.d],v⟩:=hid
 conv=>whnf
 iterate 3 (refine dS ?_;(conv=>whnf))
 apply exA
 ·conv=>whnf
  ((conv in (_[_]?)=>tactic=>exact g0);(conv=>whnf))
  exact ⟨rfl,rfl,zqv⟩
 conv=>whnf
 iterate 4 (refine dS ?_;(conv=>whnf))
 apply exA
 ·conv=>whnf
  ((conv in (_[_]?)=>tactic=>exact g0);(conv=>whnf))
  exact ⟨rfl,rfl,zqv⟩
 conv=>whnf
 refine cO (Q:=fun r H'=>r=.tup []∧∃v',H'=H.set id ((S4.rnds 2 { s with d:=xorW s.d m }).O v')) ((c241 2 (by omega) { s with d:=xorW s.d m } id (v+1) (H.set id _) (gS hid)).mono fun r H' hh=>?_) ?_
 ·obtain ⟨h1,v',h2⟩:=hh
  exact ⟨h1,v',by rw [h2,List.set_set]⟩
 rintro _ _ ⟨rfl,v',rfl⟩
 conv=>whnf
 generalize hs:S4.rnds 2 { s with d:=xorW s.d m }=z
 refine dO2 D240 [H.set id (z.O v'),H.set id (S4.O { z with a:=xorW z.a m } (v'+1))] (by kernel_rfl) rfl trivial ?_
 conv=>whnf
 iterate 3 (refine dS ?_;(conv=>whnf))
 apply exA
 ·conv=>whnf
  ((conv in (_[_]?)=>tactic=>exact (z.look v' hid));(conv=>whnf))
  exact ⟨rfl,rfl,zqv⟩
 conv=>whnf
 iterate 4 (refine dS ?_;(conv=>whnf))
 apply exA
 ·conv=>whnf
  ((conv in (_[_]?)=>tactic=>exact (z.look v' hid));(conv=>whnf))
  exact ⟨rfl,List.set_set ..,zqv⟩
 conv=>whnf
 refine ⟨rfl,v'+1,?_⟩
 subst hs
 rfl
def sipN (s:S4) (p:List UInt8):Nat→S4
 | 0=>s
 | n+1=>(sipN s p n).takes (leN ((p.drop (8*n)).take 8):Nat)
def sipI (k:List UInt8):S4:=⟨xorW 8317987319222330741 (leN (k.take 8):Nat),xorW 7237128888997146477 (leN (k.drop 8):Nat),xorW 7816392313619706465 (leN (k.take 8):Nat),xorW 8387220255154660723 (leN (k.drop 8):Nat)⟩
def lastW (n:Int):Int:=ishl .u64 (IntKind.u64.wrap (IntKind.u8.wrap n)) 56
def S4.fin (s:S4):S4:=S4.rnds 4 { s with c:=xorW s.c 255 }
def S4.out (s:S4):Int:=xorW (xorW (xorW s.a s.b) s.c) s.d
def sipV (k p:List UInt8):Int:=(((sipN (sipI k) p (p.length / 8)).takes (ibits .or .u64 (lastW p.length) (leN (p.drop (8*(p.length / 8))):Nat))).fin).out
theorem Rep.ext {H H':PH} (e:Ext H H') {c:PV} {b:List UInt8} (h:Rep H c b):Rep H' c b:=by
 rcases h with h | ⟨id,off,cap,o,h1,h2,h3⟩
 ·exact .inl h
 ·exact .inr ⟨id,off,cap,o,h1,e.get h2,h3⟩
theorem Reps.ext {H H':PH} (e:Ext H H') {cs:List PV} {ls:List (List UInt8)} (h:Reps H cs ls):Reps H' cs ls:=⟨h.1,fun i c b hc hb=>(h.2 i c b hc hb).ext e⟩
theorem len16 {k:List UInt8} (h:k.length=16):∃k0 k1 k2 k3 k4 k5 k6 k7 k8 k9 ka kb kc kd ke kf,k=[k0,k1,k2,k3,k4,k5,k6,k7,k8,k9,ka,kb,kc,kd,ke,kf]:=by
 match k,h with
 | [k0,k1,k2,k3,k4,k5,k6,k7,k8,k9,ka,kb,kc,kd,ke,kf],_=>exact ⟨_,_,_,_,_,_,_,_,_,_,_,_,_,_,_,_,rfl⟩
theorem zce (b:List UInt8) (l h:Int) (h0:0≤l∧l≤h∧h≤b.length) :
  PV.slice (h.toNat - l.toNat) (((b.map bC).take (h.toNat*1)).drop (l.toNat*1)) none=sl ((b.take h.toNat).drop l.toNat):=by
 unfold sl
 have:((b.take h.toNat).drop l.toNat).length=h.toNat - l.toNat:=by rw [List.length_drop,zqr];omega
 rw [this,List.map_drop,List.map_take,Nat.mul_one,Nat.mul_one]
structure SipS where
 i:Nat
 v:Nat
def zy7:Draw:={ imp:=[7],win:=[] }
theorem c216x (k:List UInt8) (hk:k.length=16) (ls:List (List UInt8)) (hn:ls.length≤1099511627776) (ht:ls.flatten.length≤1099511627776) (H:PH) (cs:List PV) (hr:Reps H cs ls) :
  CK prog 216 [.agg (k.map bC),.slice ls.length cs none] H fun r H'=>r=.int .u64 (sipV k ls.flatten)∧∃ext,H'=H++ext:=by
 obtain ⟨k0,k1,k2,k3,k4,k5,k6,k7,k8,k9,ka,kb,kc,kd,ke,kf,rfl⟩:=len16 hk
 have hk2:sipI [k0,k1,k2,k3,k4,k5,k6,k7,k8,k9,ka,kb,kc,kd,ke,kf]=⟨xorW 8317987319222330741 (leN [k0,k1,k2,k3,k4,k5,k6,k7]:Nat),xorW 7237128888997146477 (leN [k8,k9,ka,kb,kc,kd,ke,kf]:Nat),xorW 7816392313619706465 (leN [k0,k1,k2,k3,k4,k5,k6,k7]:Nat),xorW 8387220255154660723 (leN [k8,k9,ka,kb,kc,kd,ke,kf]:Nat)⟩:=rfl
 unfold sipV
 generalize hs0:sipI [k0,k1,k2,k3,k4,k5,k6,k7,k8,k9,ka,kb,kc,kd,ke,kf]=s0
 rw [hk2] at hs0
 (refine fnS (imm:=z19) zmd func216 ?_;(conv=>whnf))
 refine dP2 (by kernel_rfl) ?_
 conv=>whnf
 (refine dS ?_;(conv=>whnf))
 refine ⟨_,cA rfl (cP (c239 [k0,k1,k2,k3,k4,k5,k6,k7] (by simp)) ⟨rfl,rfl,zqv⟩),?_⟩
 conv=>whnf
 (refine dS ?_;(conv=>whnf))
 refine ⟨_,cA rfl (cP (c239 [k8,k9,ka,kb,kc,kd,ke,kf] (by simp)) ⟨rfl,rfl,zqv⟩),?_⟩
 conv=>whnf
 iterate 2 (refine dS ?_;(conv=>whnf))
 refine cO (c236 ls hn ht (hr.ext ((Ext.refl H).push _))) ?_
 rintro _ _ ⟨rfl,rfl⟩
 conv=>whnf
 generalize hp:ls.flatten=p at ht ⊢
 have hO:(PObj.mk 330 [.int .u64 (ibits .xor .u64 8317987319222330741 (leN [k0,k1,k2,k3,k4,k5,k6,k7]:Nat)),.int .u64 (ibits .xor .u64 7237128888997146477 (leN [k8,k9,ka,kb,kc,kd,ke,kf]:Nat)),.int .u64 (ibits .xor .u64 7816392313619706465 (leN [k0,k1,k2,k3,k4,k5,k6,k7]:Nat)),.int .u64 (ibits .xor .u64 8387220255154660723 (leN [k8,k9,ka,kb,kc,kd,ke,kf]:Nat))] 0)=s0.O 0:=by subst hs0;rfl
 refine ⟨by decide,?_⟩
 conv=>whnf
 refine lO SipS (fun x=>[(7,.ptr (some (H.length,0))),(8,sl (p.drop (8*x.i))),(9,.int .u64 (lastW p.length))]) (fun x=>H++[(sipN s0 p x.i).O x.v]) (fun x=>x.i≤p.length / 8) (fun x=>p.length / 8 - x.i) ⟨⟨0,0⟩,Nat.zero_le _,⟨rfl,rfl,rfl,zqv⟩,zqm (fun o=>H++[o]) hO⟩ ?_
 rintro ⟨i,v⟩ hi
 replace hi:i≤p.length / 8:=hi
 have hl:(p.drop (8*i)).length=p.length - 8*i:=List.length_drop
 conv=>whnf
 refine ⟨fun h=>?_,fun h=>?_⟩
 ·have h:(8:Int)≤(p.drop (8*i)).length:=h
  conv=>whnf
  refine ⟨⟨by omega,by omega,h⟩,?_⟩
  conv=>whnf
  refine cA (zqm (fun x=>[x]) (zce (p.drop (8*i)) 0 8 ⟨by omega,by omega,h⟩)) (cP (c239 (((p.drop (8*i)).take 8).drop 0) (by rw [List.length_drop,zqr];omega)) ?_)
  conv=>whnf
  refine cO (Q:=fun r H'=>r=.tup []∧∃v',H'=H++[(sipN s0 p (i+1)).O v']) ((c240 (sipN s0 p i) (leN (((p.drop (8*i)).take 8).drop 0):Nat) H.length v _ (gL H _)).mono fun r H' hh=>?_) ?_
  ·obtain ⟨h1,v',h2⟩:=hh
   exact ⟨h1,v',by rw [h2,sL];rfl⟩
  rintro _ _ ⟨rfl,v',rfl⟩
  conv=>whnf
  refine ⟨⟨by omega,h,by omega⟩,?_⟩
  conv=>whnf
  refine ⟨⟨i+1,v'⟩,by show i+1≤p.length / 8;omega,⟨rfl,?_,rfl,zqv⟩,rfl,by show p.length / 8 - (i+1)<p.length / 8 - i;omega⟩
  have e:=zce (p.drop (8*i)) 8 (p.drop (8*i)).length ⟨by omega,h,by omega⟩
  rw [Int.toNat_natCast,List.take_length,List.drop_drop] at e
  exact e
 ·have h:¬(8:Int)≤(p.drop (8*i)).length:=h
  have hi2:i=p.length / 8:=by omega
  rw [←hi2]
  conv=>whnf
  refine cP (c239 (p.drop (8*i)) (by omega)) ?_
  conv=>whnf
  generalize hm:ibits .or .u64 (lastW p.length) (leN (p.drop (8*i)):Nat)=m
  generalize hs1:sipN s0 p i=s1
  refine cO (Q:=fun r H'=>r=.tup []∧∃v',H'=H++[(s1.takes m).O v']) ?_ ?_
  ·refine (c240 s1 m H.length v _ (gL H _)).mono fun r H' hh=>?_
   obtain ⟨h1,v',h2⟩:=hh
   exact ⟨h1,v',by rw [h2,sL]⟩
  rintro _ _ ⟨rfl,v1,rfl⟩
  conv=>whnf
  generalize hs2:s1.takes m=s2
  refine dO2 zy7 [H++[s2.O v1],H++[S4.O { s2 with c:=xorW s2.c 255 } (v1+1)]] (by kernel_rfl) rfl trivial ?_
  have g0:(H++[s2.O v1])[H.length]? = some ⟨330,[.int .u64 s2.a,.int .u64 s2.b,.int .u64 s2.c,.int .u64 s2.d],v1⟩:=gL H _
  conv=>whnf
  iterate 3 (refine dS ?_;(conv=>whnf))
  apply exA
  ·conv=>whnf
   ((conv in (_[_]?)=>tactic=>exact g0);(conv=>whnf))
   exact ⟨rfl,rfl,zqv⟩
  conv=>whnf
  iterate 3 (refine dS ?_;(conv=>whnf))
  apply exA
  ·conv=>whnf
   ((conv in (_[_]?)=>tactic=>exact g0);(conv=>whnf))
   exact ⟨rfl,sL H _ _,zqv⟩
  conv=>whnf
  refine cO (Q:=fun r H'=>r=.tup []∧∃v',H'=H++[s2.fin.O v']) ((c241 4 (by omega) { s2 with c:=xorW s2.c 255 } H.length (v1+1) (H++[_]) (gL H _)).mono fun r H' hh=>?_) ?_
  ·obtain ⟨h1,v',h2⟩:=hh
   exact ⟨h1,v',by rw [h2,sL];rfl⟩
  rintro _ _ ⟨rfl,v2,rfl⟩
  conv=>whnf
  generalize hs3:s2.fin=s3
  have g1:(H++[s3.O v2])[H.length]? = some ⟨330,[.int .u64 s3.a,.int .u64 s3.b,.int .u64 s3.c,.int .u64 s3.d],v2⟩:=gL H _
  refine dP2 (by kernel_rfl) ?_
  conv=>whnf
  iterate 3 (refine dS ?_;(conv=>whnf))
  apply exA
  ·conv=>whnf
   ((conv in (_[_]?)=>tactic=>exact g1);(conv=>whnf))
   exact ⟨rfl,rfl,zqv⟩
  conv=>whnf
  iterate 3 (refine dS ?_;(conv=>whnf))
  apply exA
  ·conv=>whnf
   ((conv in (_[_]?)=>tactic=>exact g1);(conv=>whnf))
   exact ⟨rfl,rfl,zqv⟩
  conv=>whnf
  iterate 4 (refine dS ?_;(conv=>whnf))
  apply exA
  ·conv=>whnf
   ((conv in (_[_]?)=>tactic=>exact g1);(conv=>whnf))
   exact ⟨rfl,rfl,zqv⟩
  conv=>whnf
  iterate 4 (refine dS ?_;(conv=>whnf))
  apply exA
  ·conv=>whnf
   ((conv in (_[_]?)=>tactic=>exact g1);(conv=>whnf))
   exact ⟨rfl,rfl,zqv⟩
  conv=>whnf
  iterate 2 (refine dS ?_;(conv=>whnf))
  exact ⟨rfl,_,rfl⟩
theorem c216 (k:List UInt8) (hk:k.length=16) (ls:List (List UInt8)) (hn:ls.length≤1099511627776) (ht:ls.flatten.length≤1099511627776) {H:PH} {cs:List PV} (hr:Reps H cs ls) :
  CK prog 216 [.agg (k.map bC),.slice ls.length cs none] H fun r H'=>r=.int .u64 (sipV k ls.flatten)∧H'=H:=by
 exact ((c216x k hk ls hn ht H cs hr).gc fun r H' ⟨h1,h2⟩=>by subst h1;exact ⟨rfl,h2⟩).mono fun r H' ⟨h1,_,h2,_⟩=>⟨h2,h1⟩
def ttR:TT:=[(3,⟨.int .i64,1,8,[.int .i64 0]⟩),(4,⟨.bool,1,1,[.bool false]⟩),(5,⟨.int .u8,1,1,[.int .u8 0]⟩),(9,⟨.str,1,16,[.str []]⟩),(30,⟨.strct [(9,0),(9,1)],2,32,[.str [],.str []]⟩),(100,⟨.ptr,1,8,[.ptr none]⟩),(39,⟨.int .i64,1,8,[.int .i64 0]⟩),(24,⟨.arr 32 5,32,32,List.replicate 32 (.int .u8 0)⟩),(157,⟨.ptr,1,8,[.ptr none]⟩),(76,⟨.strct [(3,0),(64,1),(68,7),(70,16),(72,23),(74,28)],30,448,[.int .i64 0,.str [],.str [],.str [],.str [],.int .i64 0,.int .i64 0,.str [],.str [],.int .i64 0,.slice 0 [] (some 5),.slice 0 [] (some 5),.str [],.str [],.int .i64 0,.int .i64 0,.str [],.str [],.str [],.str [],.int .i64 0,.slice 0 [] (some 5),.slice 0 [] (some 5),.str [],.str [],.int .i64 0,.slice 0 [] (some 5),.slice 0 [] (some 5),.int .i64 0,.int .i64 0]⟩),(152,⟨.slice 159,1,24,[.slice 0 [] (some 159)]⟩),(154,⟨.strct [(152,0)],1,24,[.slice 0 [] (some 159)]⟩),(155,⟨.ptr,1,8,[.ptr none]⟩),(159,⟨.strct [(30,0),(3,2),(24,3),(157,35)],36,80,[.str [],.str [],.int .i64 0]++List.replicate 32 (.int .u8 0)++[.ptr none]⟩),(212,⟨.fn,1,8,[.nilF]⟩),(213,⟨.ptr,1,8,[.ptr none]⟩),(215,⟨.arr 16 5,16,16,List.replicate 16 (.int .u8 0)⟩),(217,⟨.strct [(213,0),(215,1),(120,17),(120,18),(120,19)],20,48,[.ptr none]++List.replicate 16 (.int .u8 0)++[.int .i64 0,.int .i64 0,.int .i64 0]⟩),(230,⟨.int .u32,1,4,[.int .u32 0]⟩),(231,⟨.arr 27 230,27,108,List.replicate 27 (.int .u32 0)⟩),(262,⟨.strct [(215,0),(260,16),(231,19),(254,46)],47,140,List.replicate 16 (.int .u8 0)++[.int .u32 0,.int .i32 0]++List.replicate 29 (.int .u32 0)⟩)]
theorem zmc:ttOk prog ttR=true:=by kernel_rfl
def zz5:List Nat:=[1]
def imm66:List Nat:=[1]
def zz4:List Nat:=[]
def z0h:List Nat:=[4,5]
def z08:List Nat:=[3]
def zej (k:List UInt8):PObj:=⟨262,k.map bC++([.int .u32 0,.int .i32 0]++List.replicate 29 (.int .u32 0)),0⟩
theorem c109 (k:List UInt8) (hk:k.length=16) (H:PH):CK prog 109 [.agg (k.map bC)] H fun r H'=>r=.ptr (some (H.length,0))∧H'=H++[zej k]:=by
 match k,hk with
 | [a0,a1,a2,a3,a4,a5,a6,a7,a8,a9,a10,a11,a12,a13,a14,a15],_ =>
  (refine fnS (imm:=zz5) zmc func109 ?_;(conv=>whnf))
  exact ⟨rfl,rfl⟩
def boxO (k:List UInt8) (n:Nat):PObj:=⟨217,[.ptr (some (n,0))]++(k.drop 16).map bC++[.int .i64 0,.int .i64 0,.int .i64 0],0⟩
def D66:Draw:={ imp:=[3,8],win:=[(4,0,1),(5,0,1),(6,0,1),(7,1,1),(8,1,1),(9,2,2)] }
theorem c66 (k:List UInt8) (hk:k.length=32) (H:PH):CK prog 66 [.agg (k.map bC)] H fun r H'=>r=.ptr (some (H.length+1,0))∧H'=H++[zej (k.take 16),boxO k H.length]:=by
 match k,hk with
 | [a0,a1,a2,a3,a4,a5,a6,a7,a8,a9,a10,a11,a12,a13,a14,a15,b0,b1,b2,b3,b4,b5,b6,b7,b8,b9,b10,b11,b12,b13,b14,b15],_ =>
  (refine fnS (imm:=imm66) zmc func66 ?_;(conv=>whnf))
  refine dO2 D66 [H,H++[zej [a0,a1,a2,a3,a4,a5,a6,a7,a8,a9,a10,a11,a12,a13,a14,a15]],H++[zej [a0,a1,a2,a3,a4,a5,a6,a7,a8,a9,a10,a11,a12,a13,a14,a15],boxO [a0,a1,a2,a3,a4,a5,a6,a7,a8,a9,a10,a11,a12,a13,a14,a15,b0,b1,b2,b3,b4,b5,b6,b7,b8,b9,b10,b11,b12,b13,b14,b15] H.length]] (by kernel_rfl) rfl trivial ?_
  conv=>whnf
  iterate 3 (refine dS ?_;(conv=>whnf))
  apply exA
  ·conv=>whnf
   refine cO (c109 [a0,a1,a2,a3,a4,a5,a6,a7,a8,a9,a10,a11,a12,a13,a14,a15] rfl H) ?_
   rintro r H' ⟨rfl,rfl⟩
   conv=>whnf
   exact ⟨rfl,rfl,zqv⟩
  conv=>whnf
  iterate 3 (refine dS2 ?_;(conv=>whnf))
  (refine dS ?_;(conv=>whnf))
  apply exA
  ·conv=>whnf
   refine ⟨rfl,?_,zqv⟩
   exact List.append_assoc _ _ _
  conv=>whnf
  (refine dS ?_;(conv=>whnf))
  refine ⟨?_,rfl⟩
  show PV.ptr (some ((H++[_]).length,0))=_
  rw [zqf];rfl
def ttS:TT:=[(2,⟨.int .i64,1,8,[.int .i64 0]⟩),(3,⟨.int .i64,1,8,[.int .i64 0]⟩),(4,⟨.bool,1,1,[.bool false]⟩),(5,⟨.int .u8,1,1,[.int .u8 0]⟩),(22,⟨.slice 5,1,24,[.slice 0 [] (some 5)]⟩),(157,⟨.ptr,1,8,[.ptr none]⟩),(213,⟨.ptr,1,8,[.ptr none]⟩),(215,⟨.arr 16 5,16,16,List.replicate 16 (.int .u8 0)⟩),(120,⟨.strB [(117,0),(118,0),(2,0)],1,8,[.int .i64 0]⟩),(217,⟨.strct [(213,0),(215,1),(120,17),(120,18),(120,19)],20,48,[.ptr none]++List.replicate 16 (.int .u8 0)++[.int .i64 0,.int .i64 0,.int .i64 0]⟩),(173,⟨.int .u64,1,8,[.int .u64 0]⟩),(210,⟨.slice 22,1,24,[.slice 0 [] (some 22)]⟩),(187,⟨.ptr,1,8,[.ptr none]⟩),(230,⟨.int .u32,1,4,[.int .u32 0]⟩),(269,⟨.slice 230,1,24,[.slice 0 [] (some 230)]⟩)]
theorem zdm:ttOk prog ttS=true:=by kernel_rfl
def imm40:List Nat:=[]
def z09:List Nat:=[]
def z18:List Nat:=[5]
def z1a:List Nat:=[]
def z1d:List Nat:=[]
def zwt:List Nat:=[]
def zws:List Nat:=[]
def zsc:List Nat:=[]
def zx4:List Nat:=[]
theorem c85 {H:PH} {id off:Nat} {o:PObj} {n:Int} (m:Int) (ho:H[id]? = some o) (hc:o.cs[off]? = some (.int .i64 n)) :
  CK prog 85 [.ptr (some (id,off)),.int .i64 m] H fun r H'=>r=.int .i64 (IntKind.i64.wrap (n+m))∧H'=H.set id ⟨o.T,zaa off [.int .i64 (IntKind.i64.wrap (n+m))] o.cs,o.ver+1⟩ :=
 zja func85 (by kernel_rfl) (by kernel_rfl) (by kernel_rfl) .i64 (by kernel_rfl) m ho hc
theorem c40 {H:PH} {id off:Nat} {o:PObj} {n:Int} (m:Int) (ho:H[id]? = some o) (hc:o.cs[off]? = some (.int .i64 n)) :
  CK prog 40 [.ptr (some (id,off)),.int .i64 m] H fun r H'=>r=.int .i64 (IntKind.i64.wrap (n+m))∧H'=H.set id ⟨o.T,zaa off [.int .i64 (IntKind.i64.wrap (n+m))] o.cs,o.ver+1⟩:=by
 (refine fnS (imm:=imm40) zdm func40 ?_;(conv=>whnf))
 refine cO (c85 m ho hc) ?_
 rintro _ _ ⟨rfl,rfl⟩
 conv=>whnf
 exact ⟨rfl,rfl⟩
def zde (u:Int):Bool:=decide (0≤u)&&decide (u≤255)
theorem c167 (u:Int):Pure prog 167 [.int .i64 u] (.bool (zde u)):=by
 intro H
 (refine fnS (imm:=z09) zdm func167 ?_;(conv=>whnf))
 refine ⟨fun h=>?_,fun h=>?_⟩
 ·conv=>whnf
  refine ⟨fun h2=>?_,fun h2=>?_⟩
  ·conv=>whnf
   exact ⟨zqm PV.bool (by unfold zde;rw [zqe h,zqe h2];rfl),rfl⟩
  ·conv=>whnf
   exact ⟨zqm PV.bool (by unfold zde;rw [zqe h,zqd h2];rfl),rfl⟩
 ·conv=>whnf
  exact ⟨zqm PV.bool (by unfold zde;rw [zqd h];rfl),rfl⟩
def byteI (x:Int):UInt8:=UInt8.ofNat (x % 256).toNat
theorem zba (x:Int):PV.int .u8 (IntKind.u8.wrap x)=bC (byteI x):=by
 show PV.int .u8 (x % (2 ^ IntKind.u8.bits:Int))=PV.int .u8 (((byteI x).toNat:Nat):Int)
 have:(2 ^ IntKind.u8.bits:Int)=256:=by decide
 rw [this]
 unfold byteI
 rw [UInt8.toNat_ofNat']
 congr 1
 omega
def bigV (n:Int):List UInt8:=[byteI (ishr .u64 n 56),byteI (ishr .u64 n 48),byteI (ishr .u64 n 40),byteI (ishr .u64 n 32),byteI (ishr .u64 n 24),byteI (ishr .u64 n 16),byteI (ishr .u64 n 8),byteI (ishr .u64 n 0)]
def bigC (n:Int) (i:Nat):List PV:=List.replicate (8 - i) (.int .u8 0)++((bigV n).map bC).drop (8 - i)
theorem c215x (n:Int) (H:PH):CK prog 215 [.int .u64 n] H fun r H'=>r=.sref H.length 0 8 8∧∃v,H'=H++[⟨5,(bigV n).map bC,v⟩]:=by
 (refine fnS (imm:=z18) zdm func215 ?_;(conv=>whnf))
 refine ⟨by decide,?_⟩
 conv=>whnf
 refine lO Nat (fun i=>[(0,.int .u64 n),(3,.sref H.length 0 8 8),(7,.int .i64 8),(8,.int .i64 i)]) (fun i=>H++[⟨5,bigC n i,i⟩]) (fun i=>i≤8) (fun i=>8 - i) ⟨0,Nat.zero_le _,⟨rfl,rfl,rfl,rfl,zqv⟩,rfl⟩ ?_
 intro i hi
 match i,hi with
 | 0,_ =>
  conv=>whnf
  refine ⟨fun _=>?_,fun h=>absurd (show ((0:Nat):Int)<8 by decide) h⟩
  conv=>whnf
  refine ⟨by decide,?_⟩
  conv=>whnf
  refine ⟨⟨by decide,by decide⟩,?_⟩
  conv=>whnf
  ((conv in (_[_]?)=>tactic=>exact (gL H _));(conv=>whnf))
  refine ⟨1,by decide,⟨rfl,rfl,rfl,rfl,zqv⟩,?_,by decide⟩
  refine (sL H _ _).trans (zqm (fun o=>H++[o]) ?_)
  show PObj.mk 5 (zaa 7 [.int .u8 (IntKind.u8.wrap (ishr .u64 n 0))] (bigC n 0)) 1=PObj.mk 5 (bigC n 1) 1
  rw [zba]
  rfl
 | 1,_ =>
  conv=>whnf
  refine ⟨fun _=>?_,fun h=>absurd (show ((1:Nat):Int)<8 by decide) h⟩
  conv=>whnf
  refine ⟨by decide,?_⟩
  conv=>whnf
  refine ⟨⟨by decide,by decide⟩,?_⟩
  conv=>whnf
  ((conv in (_[_]?)=>tactic=>exact (gL H _));(conv=>whnf))
  refine ⟨2,by decide,⟨rfl,rfl,rfl,rfl,zqv⟩,?_,by decide⟩
  refine (sL H _ _).trans (zqm (fun o=>H++[o]) ?_)
  show PObj.mk 5 (zaa 6 [.int .u8 (IntKind.u8.wrap (ishr .u64 n 8))] (bigC n 1)) 2=PObj.mk 5 (bigC n 2) 2
  rw [zba]
  rfl
 | 2,_ =>
  conv=>whnf
  refine ⟨fun _=>?_,fun h=>absurd (show ((2:Nat):Int)<8 by decide) h⟩
  conv=>whnf
  refine ⟨by decide,?_⟩
  conv=>whnf
  refine ⟨⟨by decide,by decide⟩,?_⟩
  conv=>whnf
  ((conv in (_[_]?)=>tactic=>exact (gL H _));(conv=>whnf))
  refine ⟨3,by decide,⟨rfl,rfl,rfl,rfl,zqv⟩,?_,by decide⟩
  refine (sL H _ _).trans (zqm (fun o=>H++[o]) ?_)
  show PObj.mk 5 (zaa 5 [.int .u8 (IntKind.u8.wrap (ishr .u64 n 16))] (bigC n 2)) 3=PObj.mk 5 (bigC n 3) 3
  rw [zba]
  rfl
 | 3,_ =>
  conv=>whnf
  refine ⟨fun _=>?_,fun h=>absurd (show ((3:Nat):Int)<8 by decide) h⟩
  conv=>whnf
  refine ⟨by decide,?_⟩
  conv=>whnf
  refine ⟨⟨by decide,by decide⟩,?_⟩
  conv=>whnf
  ((conv in (_[_]?)=>tactic=>exact (gL H _));(conv=>whnf))
  refine ⟨4,by decide,⟨rfl,rfl,rfl,rfl,zqv⟩,?_,by decide⟩
  refine (sL H _ _).trans (zqm (fun o=>H++[o]) ?_)
  show PObj.mk 5 (zaa 4 [.int .u8 (IntKind.u8.wrap (ishr .u64 n 24))] (bigC n 3)) 4=PObj.mk 5 (bigC n 4) 4
  rw [zba]
  rfl
 | 4,_ =>
  conv=>whnf
  refine ⟨fun _=>?_,fun h=>absurd (show ((4:Nat):Int)<8 by decide) h⟩
  conv=>whnf
  refine ⟨by decide,?_⟩
  conv=>whnf
  refine ⟨⟨by decide,by decide⟩,?_⟩
  conv=>whnf
  ((conv in (_[_]?)=>tactic=>exact (gL H _));(conv=>whnf))
  refine ⟨5,by decide,⟨rfl,rfl,rfl,rfl,zqv⟩,?_,by decide⟩
  refine (sL H _ _).trans (zqm (fun o=>H++[o]) ?_)
  show PObj.mk 5 (zaa 3 [.int .u8 (IntKind.u8.wrap (ishr .u64 n 32))] (bigC n 4)) 5=PObj.mk 5 (bigC n 5) 5
  rw [zba]
  rfl
 | 5,_ =>
  conv=>whnf
  refine ⟨fun _=>?_,fun h=>absurd (show ((5:Nat):Int)<8 by decide) h⟩
  conv=>whnf
  refine ⟨by decide,?_⟩
  conv=>whnf
  refine ⟨⟨by decide,by decide⟩,?_⟩
  conv=>whnf
  ((conv in (_[_]?)=>tactic=>exact (gL H _));(conv=>whnf))
  refine ⟨6,by decide,⟨rfl,rfl,rfl,rfl,zqv⟩,?_,by decide⟩
  refine (sL H _ _).trans (zqm (fun o=>H++[o]) ?_)
  show PObj.mk 5 (zaa 2 [.int .u8 (IntKind.u8.wrap (ishr .u64 n 40))] (bigC n 5)) 6=PObj.mk 5 (bigC n 6) 6
  rw [zba]
  rfl
 | 6,_ =>
  conv=>whnf
  refine ⟨fun _=>?_,fun h=>absurd (show ((6:Nat):Int)<8 by decide) h⟩
  conv=>whnf
  refine ⟨by decide,?_⟩
  conv=>whnf
  refine ⟨⟨by decide,by decide⟩,?_⟩
  conv=>whnf
  ((conv in (_[_]?)=>tactic=>exact (gL H _));(conv=>whnf))
  refine ⟨7,by decide,⟨rfl,rfl,rfl,rfl,zqv⟩,?_,by decide⟩
  refine (sL H _ _).trans (zqm (fun o=>H++[o]) ?_)
  show PObj.mk 5 (zaa 1 [.int .u8 (IntKind.u8.wrap (ishr .u64 n 48))] (bigC n 6)) 7=PObj.mk 5 (bigC n 7) 7
  rw [zba]
  rfl
 | 7,_ =>
  conv=>whnf
  refine ⟨fun _=>?_,fun h=>absurd (show ((7:Nat):Int)<8 by decide) h⟩
  conv=>whnf
  refine ⟨by decide,?_⟩
  conv=>whnf
  refine ⟨⟨by decide,by decide⟩,?_⟩
  conv=>whnf
  ((conv in (_[_]?)=>tactic=>exact (gL H _));(conv=>whnf))
  refine ⟨8,by decide,⟨rfl,rfl,rfl,rfl,zqv⟩,?_,by decide⟩
  refine (sL H _ _).trans (zqm (fun o=>H++[o]) ?_)
  show PObj.mk 5 (zaa 0 [.int .u8 (IntKind.u8.wrap (ishr .u64 n 56))] (bigC n 7)) 8=PObj.mk 5 (bigC n 8) 8
  rw [zba]
  rfl
 | 8,_ =>
  conv=>whnf
  refine ⟨fun h=>absurd h (by decide),fun _=>?_⟩
  conv=>whnf
  exact ⟨rfl,8,rfl⟩
theorem c215 (n:Int):Pure prog 215 [.int .u64 n] (sl (bigV n)):=fun H=>by
 refine CK.frz (nn:=8) (cs:=(bigV n).map bC) (c215x n H) fun r H' hh=>?_
 obtain ⟨rfl,v,rfl⟩:=hh
 exact ⟨_,H.length,8,_,rfl,rfl,zqn _,gL H _,zqn _,rfl,rfl⟩
def beN (l:List UInt8):Nat:=l.foldl (fun n c=>n*256+c.toNat) 0
theorem zju (l:List UInt8) (c:UInt8):beN (l++[c])=beN l*256+c.toNat:=by simp [beN]
theorem zwm (l:List UInt8):∀{n:Nat},l.length=n→beN l<256 ^ n:=by
 intro n
 induction n generalizing l with
 | zero=>intro h;rw [List.length_eq_zero_iff.1 h];decide
 | succ n ih =>
  intro h
  have hne:l≠[]:=by rintro rfl;simp at h
  have hd:=List.dropLast_concat_getLast hne
  rw [←hd,zju,Nat.pow_succ]
  have:=ih l.dropLast (by simp [h])
  have:=(l.getLast hne).toNat_lt
  omega
theorem zxl (l:List UInt8) (c:UInt8) (h:l.length<8):IntKind.u64.wrap (ishl .u64 (beN l:Nat) 8+IntKind.u64.wrap c.toNat)=((beN (l++[c]):Nat):Int):=by
 have hc:=c.toNat_lt
 have h1:=zwm l rfl
 rw [pow8] at h1
 have h3:2 ^ (8*(l.length+1))≤18446744073709551616:=zkp (by omega)
 have h4:2 ^ (8*(l.length+1))=256*2 ^ (8*l.length):=by rw [Nat.mul_add,Nat.pow_add];omega
 have h5:beN l*256<18446744073709551616:=by omega
 have e:ishl .u64 (beN l:Nat) 8=((beN l*256:Nat):Int):=by
  show IntKind.u64.wrap ((beN l:Int)*2 ^ (min (8:Int).toNat 64))=_
  have:((beN l:Int)*2 ^ (min (8:Int).toNat 64))=((beN l*256:Nat):Int):=by push_cast;rfl
  rw [this]
  exact zda h5
 rw [e,zda (by omega),zju,←zda (n:=beN l*256+c.toNat) (by omega)]
 congr 1
theorem c168 (b:List UInt8) (hb:b.length≤8):Pure prog 168 [sl b] (.int .u64 (beN b)):=by
 intro H
 (refine fnS (imm:=z1a) zdm func168 ?_;(conv=>whnf))
 refine lO Nat (fun i=>[(6,sl b),(7,.int .i64 b.length),(8,.int .i64 i),(3,.int .u64 (beN (b.take i)))]) (fun _=>H) (fun i=>i≤b.length) (fun i=>b.length - i) ⟨0,Nat.zero_le _,⟨rfl,rfl,rfl,rfl,zqv⟩,rfl⟩ ?_
 intro i hi
 conv=>whnf
 refine ⟨fun h=>?_,fun h=>?_⟩
 ·have h:(i:Int)<b.length:=h
  have hi':i<b.length:=by omega
  conv=>whnf
  refine ⟨⟨by omega,h⟩,[bC b[i]],at1' (k:=(i:Int).toNat*1) (by rw [Int.toNat_natCast,Nat.mul_one,List.getElem?_map,zqc hi'];rfl),?_⟩
  conv=>whnf
  refine ⟨by decide,?_⟩
  conv=>whnf
  refine ⟨i+1,by omega,⟨rfl,rfl,?_,?_,zqv⟩,rfl,by omega⟩
  ·show PV.int _ (IntKind.i64.wrap ((i:Int)+1))=PV.int _ _
   rw [w64 (by omega) (by omega)];simp
  ·show PV.int _ (IntKind.u64.wrap (ishl .u64 (beN (b.take i):Nat) 8+IntKind.u64.wrap (b[i].toNat:Int)))=PV.int _ _
   rw [List.take_succ_eq_append_getElem hi']
   have hl:(b.take i).length=i:=by rw [zqr];omega
   rw [zxl (b.take i) b[i] (by omega)]
 ·have h:¬(i:Int)<b.length:=h
  have e:b.take i=b:=List.take_of_length_le (by omega)
  rw [e]
  conv=>whnf
  exact ⟨rfl,rfl⟩
theorem zfz (cs:List UInt8) (rest:List PV) {i:Nat} {x:UInt8} (h:cs[i]? = some x):dropN (0+(i:Int).toNat*1) (cs.map bC++rest)=bC x::((cs.drop (i+1)).map bC++rest):=by
 have hl:=(zq1.1 h).1
 rw [za2]
 simp only [Nat.zero_add,Int.toNat_natCast,Nat.mul_one]
 rw [List.drop_append_of_le_length (by rw [zqq];omega),←List.map_drop,List.drop_eq_getElem_cons hl,List.map_cons,List.cons_append]
 congr 2
 exact (zq1.1 h).2
theorem zdl (cs:List UInt8) (rest:List PV) (i:Nat) (x:UInt8) (h:i<cs.length):zaa i [bC x] (cs.map bC++rest)=(cs.set i x).map bC++rest:=by
 induction cs generalizing i with
 | nil=>simp at h
 | cons y cs ih =>
  cases i with
  | zero=>simp [zaa]
  | succ i =>
   have:=ih i (by simpa using h)
   simp [zaa,this]
def D238:Draw:={ imp:=[13,15],win:=[(2,0,1),(3,0,1),(14,1,1),(15,1,1)] }
structure RevB where
 i:Nat
 cur:List UInt8
 v:Nat
theorem c238 (id n cap:Nat) (l:List UInt8) (rest:List PV) (T v:Nat) (H:PH) (hid:H[id]? = some ⟨T,l.map bC++rest,v⟩) (hn:n=l.length) (hs:l.length≤1099511627776) :
  CK prog 238 [.sref id 0 n cap] H fun r H'=>r=.tup []∧∃v',H'=H.set id ⟨T,l.reverse.map bC++rest,v'⟩:=by
 subst hn
 (refine fnS (imm:=z2m) zg5 func238 ?_;(conv=>whnf))
 refine lO RevB (fun x=>[(0,.sref id 0 l.length cap),(2,.int .i64 x.i),(3,.int .i64 ((l.length:Int) - 1 - x.i))]) (fun x=>H.set id ⟨T,x.cur.map bC++rest,x.v⟩)
  (fun x=>x.i≤l.length∧x.cur.length=l.length∧∀k,k<l.length→x.cur[k]? = if k<x.i∨l.length - x.i≤k then l[l.length - 1 - k]? else l[k]?) (fun x=>l.length - x.i)
  ⟨⟨0,l,v⟩,⟨Nat.zero_le _,rfl,fun k hk=>by rw [zqo (by show ¬(k<0∨l.length - 0≤k);omega)]⟩,⟨rfl,rfl,?_,zqv⟩,(zea hid).symm⟩ ?_
 ·show PV.int _ (IntKind.i64.wrap ((l.length:Int) - 1))=PV.int _ ((l.length:Int) - 1 - 0)
  rw [w64 (by omega) (by omega)];simp
 rintro ⟨i,cur,v⟩ ⟨h1,h2,h3⟩
 conv=>whnf
 refine ⟨fun h4=>?_,fun h4=>?_⟩
 ·conv=>whnf
  have h4:(i:Int)<(l.length:Int) - 1 - i:=h4
  have h2:cur.length=l.length:=h2
  have hi:i<cur.length:=by omega
  have hj:cur.length - 1 - i<cur.length:=by omega
  refine dO2 D238 [H.set id ⟨T,cur.map bC++rest,v⟩,H.set id ⟨T,(cur.set i cur[cur.length - 1 - i]).map bC++rest,v+1⟩,H.set id ⟨T,((cur.set i cur[cur.length - 1 - i]).set (cur.length - 1 - i) cur[i]).map bC++rest,v+1+1⟩] (by kernel_rfl) rfl trivial ?_
  have g0:=gS (o':=⟨T,cur.map bC++rest,v⟩) hid
  have hlen:H.length=H.length:=rfl
  conv=>whnf
  iterate 2 (refine dS ?_;(conv=>whnf))
  iterate 2 (refine dS2 ?_;(conv=>whnf))
  iterate 2 (refine dS ?_;(conv=>whnf))
  apply exA
  ·conv=>whnf
   refine ⟨⟨by omega,by omega⟩,rfl,rfl,zqv⟩
  conv=>whnf
  apply exA
  ·conv=>whnf
   ((conv in (_[_]?)=>tactic=>exact g0);(conv=>whnf))
   have e:((l.length:Int) - 1 - i).toNat=cur.length - 1 - i:=by omega
   have hL:dropN (0+((l.length:Int) - 1 - i).toNat*1) (cur.map bC++rest)=bC cur[cur.length - 1 - i]::((cur.drop (cur.length - 1 - i+1)).map bC++rest):=by rw [e];exact zfz cur rest (zqc hj)
   generalize hd:dropN _ _=L
   rw [show L=_ from hd.symm.trans hL]
   conv=>whnf
   exact ⟨rfl,rfl,zqv⟩
  conv=>whnf
  iterate 2 (refine dS ?_;(conv=>whnf))
  apply exA
  ·conv=>whnf
   refine ⟨⟨by show (0:Int)≤(i:Int);omega,by show (i:Int)<l.length;omega⟩,rfl,rfl,zqv⟩
  conv=>whnf
  apply exA
  ·conv=>whnf
   ((conv in (_[_]?)=>tactic=>exact g0);(conv=>whnf))
   ((conv in (dropN _ _)=>tactic=>exact (zfz cur rest (zqc hi)));(conv=>whnf))
   exact ⟨rfl,rfl,zqv⟩
  conv=>whnf
  apply exA
  ·conv=>whnf
   refine ⟨⟨by show (0:Int)≤(i:Int);omega,by show (i:Int)<l.length;omega⟩,rfl,rfl,zqv⟩
  conv=>whnf
  apply exA
  ·conv=>whnf
   ((conv in (_[_]?)=>tactic=>exact g0);(conv=>whnf))
   ((conv in (Nat.ble _ _)=>tactic=>exact (show Nat.ble (0+(i:Int).toNat*1+1) (cur.map bC++rest).length=true by rw [Nat.ble_eq];simp;omega));(conv=>whnf))
   refine ⟨rfl,?_,zqv⟩
   show (H.set id ⟨T,cur.map bC++rest,v⟩).set id ⟨T,zaa (0+(i:Int).toNat*1) [bC cur[cur.length - 1 - i]] (cur.map bC++rest),v+1⟩=H.set id ⟨T,(cur.set i cur[cur.length - 1 - i]).map bC++rest,v+1⟩
   rw [List.set_set,←zdl _ _ _ _ hi]
   simp
  conv=>whnf
  apply exA
  ·conv=>whnf
   refine ⟨⟨by omega,by omega⟩,rfl,rfl,zqv⟩
  conv=>whnf
  apply exA
  ·conv=>whnf
   ((conv in (_[_]?)=>tactic=>exact (gS (o':=⟨T,(cur.set i cur[cur.length - 1 - i]).map bC++rest,v+1⟩) hid));(conv=>whnf))
   ((conv in (Nat.ble _ _)=>tactic=>exact (show Nat.ble (0+((l.length:Int) - 1 - i).toNat*1+1) ((cur.set i cur[cur.length - 1 - i]).map bC++rest).length=true by rw [Nat.ble_eq];simp;omega));(conv=>whnf))
   refine ⟨rfl,?_,zqv⟩
   show (H.set id ⟨T,(cur.set i cur[cur.length - 1 - i]).map bC++rest,v+1⟩).set id ⟨T,zaa (0+((l.length:Int) - 1 - i).toNat*1) [bC cur[i]] ((cur.set i cur[cur.length - 1 - i]).map bC++rest),v+1+1⟩=H.set id _
   have e:0+((l.length:Int) - 1 - i).toNat*1=cur.length - 1 - i:=by omega
   rw [List.set_set,e,zdl (cur.set i cur[cur.length - 1 - i]) rest (cur.length - 1 - i) cur[i] (by simpa using hj)]
  conv=>whnf
  refine ⟨⟨i+1,(cur.set i cur[cur.length - 1 - i]).set (cur.length - 1 - i) cur[i],v+1+1⟩,⟨?_,?_,?_⟩,⟨rfl,?_,?_,zqv⟩,rfl,?_⟩
  ·show i+1≤l.length;omega
  ·show List.length _=_;simp;exact h2
  ·intro k hk
   show ((cur.set i _).set _ _)[k]? = if k<i+1∨l.length - (i+1)≤k then _ else _
   have h3k:=h3 k hk
   have h3k:cur[k]? = if k<i∨l.length - i≤k then l[l.length - 1 - k]? else l[k]?:=h3k
   have h3i:cur[i]? = if i<i∨l.length - i≤i then l[l.length - 1 - i]? else l[i]?:=h3 i (by omega)
   have h3j:cur[cur.length - 1 - i]? = if cur.length - 1 - i<i∨l.length - i≤cur.length - 1 - i then l[l.length - 1 - (cur.length - 1 - i)]? else l[cur.length - 1 - i]?:=h3 _ (by omega)
   rw [zqo (by omega),zqc hi] at h3i
   rw [zqo (by omega),zqc hj] at h3j
   simp only [List.getElem?_set]
   by_cases e1:cur.length - 1 - i=k
   ·subst e1
    rw [zqp rfl,zqp (by simpa using hj),zqp (by omega),h3i]
    congr 1;omega
   ·rw [zqo e1]
    by_cases e2:i=k
    ·subst e2
     rw [zqp rfl,zqp hi,zqp (by omega),h3j]
     congr 1;omega
    ·rw [zqo e2,h3k]
     by_cases e3:k<i∨l.length - i≤k
     ·rw [zqp e3,zqp (by omega)]
     ·rw [zqo e3,zqo (by omega)]
  ·show PV.int _ (IntKind.i64.wrap ((i:Int)+1))=PV.int _ _
   rw [w64 (by omega) (by omega)];simp
  ·show PV.int _ (IntKind.i64.wrap ((l.length:Int) - 1 - i - 1))=PV.int _ ((l.length:Int) - 1 - ((i+1:Nat):Int))
   rw [w64 (by omega) (by omega)];congr 1;omega
  ·show l.length - (i+1)<l.length - i
   omega
 ·conv=>whnf
  have h2:cur.length=l.length:=h2
  have h4:¬(i:Int)<(l.length:Int) - 1 - i:=h4
  have h1:i≤l.length:=h1
  refine ⟨rfl,v,?_⟩
  have hc:cur=l.reverse:=by
   apply List.ext_getElem?
   intro k
   rcases Nat.lt_or_ge k l.length with hk | hk
   ·have h3k:cur[k]? = if k<i∨l.length - i≤k then l[l.length - 1 - k]? else l[k]?:=h3 k hk
    rw [h3k,List.getElem?_reverse hk]
    by_cases e3:k<i∨l.length - i≤k
    ·rw [zqp e3]
    ·rw [zqo e3];congr 1;omega
   ·rw [List.getElem?_eq_none (by omega),List.getElem?_eq_none (by simpa using hk)]
  show H.set id ⟨T,cur.map bC++rest,v⟩=_
  rw [hc]
def ow (b:List UInt8):PV:=.slice b.length (b.map bC) (some 5)
theorem zw5:psize prog 5=1:=by kernel_rfl
theorem zp2 (b:List UInt8):(b.map bC).all flatP=true:=List.all_eq_true.2 fun x hx=>by
 obtain ⟨b,_,rfl⟩:=List.mem_map.1 hx
 rfl
theorem zjy (b:List UInt8) (hb:b.length≤140737488355328):Pure prog 217 [sl b] (ow b):=by
 intro H
 (refine fnS (imm:=zx4) zdm func217 ?_;(conv=>whnf))
 have happ:(0+b.length)*1≤140737488355328∧(b.map bC).length=b.length*1∧(b.map bC).all oneP=true:=⟨by omega,by simp,zbr b⟩
 refine ⟨fun h=>?_,fun h=>⟨?_,?_⟩⟩
 ·conv=>whnf
  refine ⟨happ,?_⟩
  conv=>whnf
  exact ⟨by rw [Nat.zero_add];rfl,rfl⟩
 ·conv=>whnf
  have e:b=[]:=List.length_eq_zero_iff.1 h
  subst e
  exact ⟨rfl,rfl⟩
 ·conv=>whnf
  refine ⟨happ,?_⟩
  conv=>whnf
  exact ⟨by rw [Nat.zero_add];rfl,rfl⟩
theorem c217o (b:List UInt8) (hb:b.length≤140737488355328) (h0:0<b.length) (H:PH) :
  CK prog 217 [sl b] H fun r H'=>∃cap k,r=.sref H.length 0 b.length cap∧b.length+k=cap∧H'=H++[⟨5,b.map bC++List.replicate k PV.undef,0⟩]:=by
 refine (CK.obj (n:=b.length) (cs:=b.map bC) (zjy b hb H) h0 zw5 (zp2 b)).mono fun r H' hh=>?_
 obtain ⟨cap,k,h1,h2,h3,h4⟩:=hh
 rw [zqq] at h2
 exact ⟨cap,k,h3,by omega,h4⟩
def boxS (sid:Nat) (sp:List UInt8) (s o r:Int) (v:Nat):PObj:=⟨217,[.ptr (some (sid,0))]++sp.map bC++[.int .i64 s,.int .i64 o,.int .i64 r],v⟩
def tagV (sp:List UInt8) (u:Int) (ahead:List UInt8):List UInt8:=bigV (sipV sp (byteI u::ahead))
theorem zcm (n:Int):(bigV n).length=8:=rfl
theorem c170 (sid:Nat) (sp:List UInt8) (hsp:sp.length=16) (s o r:Int) (v:Nat) (u:Int) (ahead:List UInt8) (ha:ahead.length≤1000000) (bid:Nat) (H:PH) (hb:H[bid]? = some (boxS sid sp s o r v)) :
  CK prog 170 [.ptr (some (bid,0)),.int .i64 u,sl ahead] H fun x H'=>x=sl (tagV sp u ahead)∧H'=H:=by
 obtain ⟨k0,k1,k2,k3,k4,k5,k6,k7,k8,k9,ka,kb,kc,kd,ke,kf,rfl⟩:=len16 hsp
 (refine fnS (imm:=z1d) zdm func170 ?_;(conv=>whnf))
 ((conv in (_[_]?)=>tactic=>exact hb);(conv=>whnf))
 have hfl:[[byteI u],ahead].flatten=byteI u::ahead:=by simp
 have hc:=c216 [k0,k1,k2,k3,k4,k5,k6,k7,k8,k9,ka,kb,kc,kd,ke,kf] (by simp) [[byteI u],ahead] (by simp) (by rw [hfl];simp;omega) (Reps.sl H [[byteI u],ahead])
 rw [hfl] at hc
 refine cA (args':=[.agg ([k0,k1,k2,k3,k4,k5,k6,k7,k8,k9,ka,kb,kc,kd,ke,kf].map bC),.slice 2 ([[byteI u],ahead].map sl) none]) ?_ (cO hc ?_)
 ·have:=zba u
  show [PV.agg _,PV.slice 2 [.slice 1 [.int .u8 (IntKind.u8.wrap u)] none,sl ahead] none]=[PV.agg _,PV.slice 2 [.slice 1 [bC (byteI u)] none,sl ahead] none]
  rw [this]
  rfl
 rintro _ _ ⟨rfl,rfl⟩
 conv=>whnf
 refine cP (c215 _) ?_
 conv=>whnf
 exact ⟨rfl,rfl⟩
def xorL (p st:List UInt8):List UInt8:=List.zipWith (· ^^^ ·) p st
theorem zbp (p st:List UInt8) (h:st.length=p.length):(xorL p st).length=p.length:=by
 unfold xorL;rw [List.length_zipWith];omega
theorem xor8 (c d:UInt8):PV.int .u8 (ibits .xor .u8 (c.toNat:Int) (d.toNat:Int))=bC (c ^^^ d):=by
 show PV.int .u8 (IntKind.u8.wrap ((BitVec.ofInt 8 (c.toNat:Int) ^^^ BitVec.ofInt 8 (d.toNat:Int)).toNat:Int))=PV.int .u8 (((c ^^^ d).toNat:Nat):Int)
 have hb:∀{x:UInt8},BitVec.ofInt 8 (x.toNat:Int)=x.toBitVec:=fun {x}=>by
  apply BitVec.eq_of_toNat_eq
  rw [BitVec.toNat_ofInt]
  have:=x.toNat_lt
  show _=x.toNat
  omega
 rw [hb,hb]
 have:((c.toBitVec ^^^ d.toBitVec).toNat)=(c ^^^ d).toNat:=rfl
 rw [this]
 congr 1
 have:=(c ^^^ d).toNat_lt
 show (((c ^^^ d).toNat:Nat):Int) % (2 ^ IntKind.u8.bits:Int)=_
 have e:(2 ^ IntKind.u8.bits:Int)=256:=by decide
 rw [e];omega
def curX (p st:List UInt8) (i:Nat):List UInt8:=(xorL p st).take i++p.drop i
theorem zui (p st:List UInt8) (i:Nat) (h:st.length=p.length) (hi:i≤p.length):(curX p st i).length=p.length:=by
 unfold curX
 rw [zqf,zqr,List.length_drop,zbp p st h];omega
theorem zuh (p st:List UInt8) (i:Nat) (h:st.length=p.length) (hi:i<p.length):(curX p st i)[i]? = some p[i]:=by
 unfold curX
 rw [zqi (by rw [zqr,zbp p st h];omega),zqr,zbp p st h,zqt]
 have:i+(i - min i p.length)=i:=by omega
 rw [this];exact zqc hi
theorem zuj (p st:List UInt8) (i:Nat) (h:st.length=p.length) (hi:i<p.length):(curX p st i).set i (p[i] ^^^ st[i])=curX p st (i+1):=by
 unfold curX
 have hx:i<(xorL p st).length:=by rw [zbp p st h];exact hi
 rw [List.set_append_right _ _ (by rw [zqr];omega),zqr,Nat.min_eq_left (by omega),Nat.sub_self,List.drop_eq_getElem_cons hi,List.set_cons_zero,List.take_succ_eq_append_getElem hx,List.append_assoc,List.singleton_append]
 congr 2
 have:∀(a b:List UInt8) (h:i<(List.zipWith (· ^^^ ·) a b).length) (ha:i<a.length) (hb:i<b.length),a[i] ^^^ b[i]=(List.zipWith (· ^^^ ·) a b)[i]:=fun a b h ha hb=>by simp
 exact this p st hx hi (by omega)
def mixN (nn u:Int):Int:=IntKind.u64.wrap (ishl .u64 nn 8+IntKind.u64.wrap u)
structure MixS where
 i:Nat
theorem c171x (OkS:PObj→Prop) (so:PObj) (sid:Nat) (nn u:Int) (p st:List UInt8) (hl:st.length=p.length) (hp:0<p.length) (hp2:p.length≤1000000)
  (hst:∀H:PH,H[sid]? = some so→CK prog 218 [.ptr (some (sid,0)),.int .u64 (mixN nn u),.int .i64 p.length] H fun r H'=>r=sl st∧∃o',OkS o'∧H'=H.set sid o')
  (sp:List UInt8) (hsp:sp.length=16) (s o r:Int) (v:Nat) (bid:Nat) (H:PH) (hb:H[bid]? = some (boxS sid sp s o r v)) (hs:H[sid]? = some so) :
  CK prog 171 [.ptr (some (bid,0)),.int .i64 u,.int .u64 nn,sl p] H fun x H'=>∃cap k o' vv,x=.sref H.length 0 p.length cap∧p.length+k=cap∧OkS o'∧H'=H.set sid o'++[⟨5,(xorL p st).map bC++List.replicate k PV.undef,vv⟩]:=by
 obtain ⟨k0,k1,k2,k3,k4,k5,k6,k7,k8,k9,ka,kb,kc,kd,ke,kf,rfl⟩:=len16 hsp
 have hsl:sid<H.length:=(zq1.1 hs).1
 (refine fnS (imm:=zwt) zdm func171 ?_;(conv=>whnf))
 refine cO (c217o p (by omega) hp H) ?_
 rintro _ _ ⟨cap,k,rfl,hk,rfl⟩
 conv=>whnf
 have hb':(H++[(⟨5,p.map bC++List.replicate k PV.undef,0⟩:PObj)])[bid]? = some (boxS sid [k0,k1,k2,k3,k4,k5,k6,k7,k8,k9,ka,kb,kc,kd,ke,kf] s o r v):=by
  rw [zq2 (zq1.1 hb).1];exact hb
 ((conv in (_[_]?)=>tactic=>exact hb');(conv=>whnf))
 refine ⟨by decide,?_⟩
 conv=>whnf
 refine cO (Q:=fun r H'=>r=sl st∧∃o',OkS o'∧H'=H.set sid o'++[⟨5,(curX p st 0).map bC++List.replicate k PV.undef,0⟩]) ((hst (H++[_]) (by rw [zq2 hsl];exact hs)).mono fun r H' hh=>?_) ?_
 ·obtain ⟨h1,o',h2,h3⟩:=hh
  exact ⟨h1,o',h2,by rw [h3,List.set_append_left _ _ hsl];rfl⟩
 rintro _ _ ⟨rfl,o',ho',rfl⟩
 conv=>whnf
 have hKl:(H.set sid o').length=H.length:=List.length_set
 generalize hK:H.set sid o'=K at hKl
 refine lO MixS (fun x=>[(9,.sref H.length 0 p.length cap),(25,sl st),(26,.int .i64 st.length),(27,.int .i64 x.i)]) (fun x=>K++[⟨5,(curX p st x.i).map bC++List.replicate k PV.undef,x.i⟩]) (fun x=>x.i≤p.length) (fun x=>p.length - x.i) ⟨⟨0⟩,Nat.zero_le _,⟨rfl,rfl,rfl,rfl,zqv⟩,rfl⟩ ?_
 rintro ⟨i⟩ hi
 replace hi:i≤p.length:=hi
 have gx:∀x:PObj,(K++[x])[H.length]? = some x:=fun x=>by rw [←hKl];exact gL K x
 conv=>whnf
 refine ⟨fun h=>?_,fun h=>?_⟩
 ·have h:(i:Int)<st.length:=h
  have hi':i<p.length:=by omega
  have his:i<st.length:=by omega
  have hcl:=zui p st i hl hi
  conv=>whnf
  refine ⟨⟨by omega,h⟩,[bC st[i]],at1' (k:=(i:Int).toNat*1) (by rw [Int.toNat_natCast,Nat.mul_one,List.getElem?_map,zqc his];rfl),?_⟩
  conv=>whnf
  refine ⟨⟨by omega,by show (i:Int)<(p.length:Int);omega⟩,?_⟩
  conv=>whnf
  ((conv in (_[_]?)=>tactic=>exact (gx _));(conv=>whnf))
  ((conv in (dropN _ _)=>tactic=>exact (zfz (curX p st i) (List.replicate k PV.undef) (zuh p st i hl hi')));(conv=>whnf))
  refine ⟨⟨by omega,by show (i:Int)<(p.length:Int);omega⟩,?_⟩
  conv=>whnf
  ((conv in (_[_]?)=>tactic=>exact (gx _));(conv=>whnf))
  ((conv in (Nat.ble _ _)=>tactic=>exact (show Nat.ble (0+(i:Int).toNat*1+1) ((curX p st i).map bC++List.replicate k PV.undef).length=true by rw [Nat.ble_eq];simp [hcl];omega));(conv=>whnf))
  refine ⟨⟨i+1⟩,by show i+1≤p.length;omega,⟨rfl,rfl,rfl,?_,zqv⟩,?_,by show p.length - (i+1)<p.length - i;omega⟩
  ·show PV.int _ (IntKind.i64.wrap ((i:Int)+1))=PV.int _ _
   rw [w64 (by omega) (by omega)];simp
  ·show (K++[_]).set H.length ⟨5,zaa (0+(i:Int).toNat*1) [.int .u8 (ibits .xor .u8 (p[i].toNat:Int) (st[i].toNat:Int))] ((curX p st i).map bC++List.replicate k PV.undef),i+1⟩=K++[⟨5,(curX p st (i+1)).map bC++List.replicate k PV.undef,i+1⟩]
   rw [←hKl,sL,xor8]
   have e:0+(i:Int).toNat*1=i:=by omega
   rw [e,zdl _ _ _ _ (by omega),zuj p st i hl hi']
 ·have h:¬(i:Int)<st.length:=h
  have e:curX p st i=xorL p st:=by
   unfold curX
   rw [List.take_of_length_le (by rw [zbp p st hl];omega),List.drop_eq_nil_of_le (by omega),List.append_nil]
  rw [e]
  conv=>whnf
  exact ⟨cap,k,o',i,rfl,hk,ho',by rw [hK]⟩
theorem zx3 {K:PH} {n:Nat} (h:K.length=n) (x:PObj):(K++[x])[n]? = some x:=by subst h;exact gL K x
theorem zoj {H:PH} {sid:Nat} {o':PObj} (hs:sid<H.length) (hf:∀c∈o'.cs,flatP c=true∨c∈H[sid].cs):Kept H (H.set sid o'):=⟨List.length_set,fun id o h=>by
 by_cases e:id=sid
 ·subst e
  rw [List.getElem?_set_self hs] at h
  cases h
  exact ⟨H[id],zqc hs,hf⟩
 ·rw [zqj (Ne.symm e)] at h
  exact ⟨o,h,fun c hc=>.inr hc⟩⟩
theorem c171 (OkS:PObj→Prop) (hOk:∀o',OkS o'→o'.cs.all flatP=true) (so:PObj) (sid:Nat) (nn u:Int) (p st:List UInt8) (hl:st.length=p.length) (hp2:p.length≤1000000)
  (hst:∀H:PH,H[sid]? = some so→CK prog 218 [.ptr (some (sid,0)),.int .u64 (mixN nn u),.int .i64 p.length] H fun r H'=>r=sl st∧∃o',OkS o'∧H'=H.set sid o')
  (sp:List UInt8) (hsp:sp.length=16) (s o r:Int) (v:Nat) (bid:Nat) (H:PH) (hb:H[bid]? = some (boxS sid sp s o r v)) (hs:H[sid]? = some so) :
  CK prog 171 [.ptr (some (bid,0)),.int .i64 u,.int .u64 nn,sl p] H fun x H'=>x=sl (xorL p st)∧∃o',OkS o'∧H'=H.set sid o':=by
 have hsl:sid<H.length:=(zq1.1 hs).1
 rcases Nat.eq_zero_or_pos p.length with hp | hp
 ·have hp':p=[]:=List.length_eq_zero_iff.1 hp
  have hst':st=[]:=List.length_eq_zero_iff.1 (by omega)
  subst hp' hst'
  obtain ⟨k0,k1,k2,k3,k4,k5,k6,k7,k8,k9,ka,kb,kc,kd,ke,kf,rfl⟩:=len16 hsp
  (refine fnS (imm:=zwt) zdm func171 ?_;(conv=>whnf))
  refine cP (zjy [] (by simp)) ?_
  conv=>whnf
  ((conv in (_[_]?)=>tactic=>exact hb);(conv=>whnf))
  refine ⟨by decide,?_⟩
  conv=>whnf
  refine cO (hst H hs) ?_
  rintro _ _ ⟨rfl,o',ho',rfl⟩
  conv=>whnf
  refine lO MixS (fun x=>[(9,ow []),(25,sl []),(26,.int .i64 0),(27,.int .i64 0)]) (fun x=>H.set sid o') (fun x=>True) (fun x=>0) ⟨⟨0⟩,trivial,⟨rfl,rfl,rfl,rfl,zqv⟩,rfl⟩ ?_
  rintro ⟨i⟩ _
  conv=>whnf
  refine ⟨fun h=>absurd h (by decide),fun _=>?_⟩
  conv=>whnf
  exact ⟨rfl,o',ho',rfl⟩
 ·have h:=c171x OkS so sid nn u p st hl hp hp2 hst sp hsp s o r v bid H hb hs
  refine (CK.own (nn:=p.length) (cs:=(xorL p st).map bC) (R:=fun H'=>∃o',OkS o'∧H'=H.set sid o') h zw5 (by decide) (by rw [zqq,zbp p st hl,Nat.mul_one]) (zp2 _) (fun x H' hh=>?_)).dem fun x H' hh=>?_
  ·obtain ⟨cap,k,o',vv,rfl,hk,ho',rfl⟩:=hh
   refine ⟨H.set sid o',_,H.length,cap,_,rfl,zoj hsl fun c hc=>.inl (List.all_eq_true.1 (hOk o' ho') c hc),⟨o',ho',rfl⟩,rfl,zqn _,zx3 List.length_set _,rfl,?_,?_⟩
   ·show ((xorL p st).map bC++List.replicate k PV.undef).length=_
    rw [zqf,zqq,List.length_replicate,zbp p st hl];omega
   ·show List.take _ ((xorL p st).map bC++List.replicate k PV.undef)=_
    rw [List.take_left]
  ·obtain ⟨rfl,hh⟩:=hh
   refine ⟨fun cs hx=>(by cases hx),?_,hh⟩
   unfold sl
   rw [zbp p st hl];rfl
theorem Kept.refl (H:PH):Kept H H:=⟨rfl,fun id o h=>⟨o,h,fun c hc=>.inr hc⟩⟩
theorem c218z (sid:Nat) (nn n:Int) (hn:n<1) (H:PH):CK prog 218 [.ptr (some (sid,0)),.int .u64 nn,.int .i64 n] H fun r H'=>r=sl []∧H'=H:=by
 refine CK.dem (Q:=fun r H'=>r=ow []∧H'=H) ?_ fun r H' hh=>⟨fun cs hx=>(by rw [hh.1] at hx;cases hx),(by rw [hh.1];rfl),hh.2⟩
 (refine fnS (imm:=zsc) zdm func218 ?_;(conv=>whnf))
 refine ⟨fun _=>?_,fun h=>absurd hn h⟩
 conv=>whnf
 exact ⟨rfl,rfl⟩
def sealV (sp:List UInt8) (u nn:Int) (p st:List UInt8):List UInt8:=(bigV nn++xorL p st)++tagV sp u (bigV nn++xorL p st)
theorem ztb (a b:List UInt8):PV.slice (a.length+b.length) (a.map bC++b.map bC) (some 5)=ow (a++b):=by
 unfold ow
 rw [zqf,List.map_append]
theorem c131z (u:Int) (hu:zde u=true) (b:List UInt8) (hb16:b.length<16∨800<b.length) (sid:Nat) (sp:List UInt8) (hsp:sp.length=16) (s o r:Int) (v bid:Nat) (H:PH) (hb:H[bid]? = some (boxS sid sp s o r v)) :
  CK prog 131 [.ptr (some (bid,0)),.int .i64 u,sl b] H fun x H'=>x=.tup [ow [],.int .i64 3]∧H'=H.set bid (boxS sid sp s o (IntKind.i64.wrap (r+1)) (v+1)):=by
 (refine fnS (imm:=zws) zdm func131 ?_;(conv=>whnf))
 have hb':(H.set bid (boxS sid sp s o (IntKind.i64.wrap (r+1)) (v+1)))[bid]? = some (boxS sid sp s o (IntKind.i64.wrap (r+1)) (v+1)):=gS hb
 have hc93:CK prog 40 [.ptr (some (bid,0+19)),.int .i64 1] H fun x H'=>H'=H.set bid (boxS sid sp s o (IntKind.i64.wrap (r+1)) (v+1)):=by
  obtain ⟨k0,k1,k2,k3,k4,k5,k6,k7,k8,k9,ka,kb,kc,kd,ke,kf,rfl⟩:=len16 hsp
  exact (c40 (off:=19) (n:=r) 1 hb rfl).mono fun x H' hh=>hh.2
 refine cP (c167 u) ?_
 rw [hu]
 conv=>whnf
 refine ⟨fun h=>?_,fun h=>?_⟩
 ·conv=>whnf
  have h:(16:Int)≤b.length:=h
  refine ⟨fun h2=>?_,fun h2=>?_⟩
  ·have h2:(b.length:Int)≤800:=h2
   omega
  ·conv=>whnf
   refine cO hc93 ?_
   rintro x _ rfl
   conv=>whnf
   exact ⟨rfl,rfl⟩
 ·conv=>whnf
  refine cO hc93 ?_
  rintro x _ rfl
  conv=>whnf
  exact ⟨rfl,rfl⟩
structure Ent where
 r:List UInt8
 n:List UInt8
 kv:Nat
 key:List UInt8
 box:Nat
def Ent.cells (e:Ent):List PV:=[.str e.r,.str e.n,.int .i64 e.kv]++e.key.map bC++[.ptr (some (e.box,0))]
def ringO (l:List Ent) (v:Nat):PObj:=⟨154,[.slice l.length (l.flatMap Ent.cells) (some 159)],v⟩
def lastE (f:Ent→Bool) (l:List Ent):Option Ent:=l.reverse.find? f
def entP:Option Ent→PV
 | none=>.ptr none
 | some e=>.elem e.cells
theorem fitPr (a b:List UInt8):FitP ttR 6 30 [.str a,.str b]:=⟨rfl,⟨by show 1≤2;omega,a,rfl⟩,rfl,⟨by show 1≤1;omega,b,rfl⟩,rfl⟩
theorem zpl (f:Ent→Bool) (l:List Ent) (e:Ent):lastE f (l++[e])=if f e then some e else lastE f l:=by
 unfold lastE
 rw [List.reverse_append]
 simp only [List.reverse_cons,List.reverse_nil,List.nil_append,List.cons_append,List.find?_cons]
 cases f e <;> rfl
theorem zrm {e:Ent} (h:e.key.length=32):e.cells.length=36:=by simp [Ent.cells,h]
theorem zr4 {l:List Ent} (hk:∀e∈l,e.key.length=32) {i:Nat} (hi:i<l.length) (j:Nat) (c:PV) (h:l[i].cells[j]? = some c):(l.flatMap Ent.cells)[i*36+j]? = some c:=by
 induction l generalizing i with
 | nil=>simp at hi
 | cons e l ih =>
  rw [List.flatMap_cons]
  have he:=zrm (hk e List.mem_cons_self)
  cases i with
  | zero =>
   have hj:j<e.cells.length:=(zq1.1 h).1
   rw [Nat.zero_mul,Nat.zero_add,zq2 hj];exact h
  | succ i =>
   rw [zqi (by omega),show (i+1)*36+j - e.cells.length=i*36+j by omega]
   exact ih (fun e he=>hk e (List.mem_cons_of_mem _ he)) (by simpa using hi) h
structure FiS where
 k:Nat
theorem c107 {H:PH} {rid v:Nat} {l:List Ent} (hid:H[rid]? = some (ringO l v)) (hl:l.length≤1000) (hk:∀e∈l,e.key.length=32) (f:Ent→Bool) (cf:Nat) (a b:List PV)
  (hc:∀e∈l,CK prog cf (a++[.agg e.cells]++b) H fun x H'=>x=.bool (f e)∧H'=H) :
  CK prog 107 [.ptr (some (rid,0)),.func cf a b] H fun r H'=>r=entP (lastE f l)∧H'=H:=by
 (refine fnS (imm:=zz4) zmc func107 ?_;(conv=>whnf))
 rw [hid]
 conv=>whnf
 refine lO FiS (fun x=>[(0,.ptr (some (rid,0))),(1,.func cf a b),(5,.int .i64 ((x.k:Int) - 1))]) (fun _=>H) (fun x=>x.k≤l.length∧lastE f (l.take x.k)=lastE f l) (fun x=>x.k)
  ⟨⟨l.length⟩,⟨zqn _,by simp⟩,⟨rfl,rfl,?_,zqv⟩,rfl⟩ ?_
 ·show PV.int _ (IntKind.i64.wrap ((l.length:Int) - 1))=_
  rw [w64 (by omega) (by omega)]
 rintro ⟨k⟩ ⟨h1,h2⟩
 have h1:k≤l.length:=h1
 have h2:lastE f (l.take k)=lastE f l:=h2
 conv=>whnf
 refine ⟨fun h=>?_,fun h=>?_⟩
 ·conv=>whnf
  have h:(0:Int)≤(k:Int) - 1:=h
  rw [hid]
  conv=>whnf
  have hi:k - 1<l.length:=by omega
  refine ⟨⟨h,by show (k:Int) - 1<l.length;omega⟩,l[k - 1].cells,fun j c hj=>?_,?_⟩
  ·have:=zr4 hk hi j c hj
   rw [←this]
   show (l.flatMap Ent.cells)[((k:Int) - 1).toNat*36+j]? = _
   congr 2;congr 1;omega
  have hkey:=hk _ (List.getElem_mem hi)
  have hce:=hc _ (List.getElem_mem hi)
  have hlast:lastE f (l.take k)=if f l[k - 1] then some l[k - 1] else lastE f (l.take (k - 1)):=by
   conv=>lhs;rw [show k=(k - 1)+1 by omega,List.take_succ_eq_append_getElem hi]
   exact zpl f _ _
  have hat:=fun j c hj=>zr4 hk hi j c hj
  generalize l[k - 1]=e at hkey hce hlast hat ⊢
  obtain ⟨er,en,kv,key,box⟩:=e
  match key,hkey with
  | [a0,a1,a2,a3,a4,a5,a6,a7,a8,a9,a10,a11,a12,a13,a14,a15,b0,b1,b2,b3,b4,b5,b6,b7,b8,b9,b10,b11,b12,b13,b14,b15],_ =>
   conv=>whnf
   refine cO hce ?_
   rintro r H' ⟨rfl,rfl⟩
   conv=>whnf
   generalize hE:Ent.mk er en kv [a0,a1,a2,a3,a4,a5,a6,a7,a8,a9,a10,a11,a12,a13,a14,a15,b0,b1,b2,b3,b4,b5,b6,b7,b8,b9,b10,b11,b12,b13,b14,b15] box=e at hlast hat ⊢
   cases hf:f e
   ·conv=>whnf
    refine ⟨⟨k - 1⟩,⟨by show k - 1≤l.length;omega,by show lastE f (l.take (k - 1))=_;rw [←h2,hlast,hf];rfl⟩,⟨rfl,rfl,?_,zqv⟩,rfl,by show k - 1<k;omega⟩
    show PV.int _ (IntKind.i64.wrap ((k:Int) - 1 - 1))=PV.int _ (((k - 1:Nat):Int) - 1)
    rw [w64 (by omega) (by omega)];congr 1;omega
   ·conv=>whnf
    rw [hid]
    conv=>whnf
    refine ⟨⟨h,by show (k:Int) - 1<l.length;omega⟩,e.cells,fun j c hj=>?_,?_⟩
    ·rw [←hat j c hj]
     show (l.flatMap Ent.cells)[((k:Int) - 1).toNat*36+j]? = _
     congr 2;congr 1;omega
    conv=>whnf
    refine ⟨?_,rfl⟩
    rw [←h2,hlast,hf];rfl
 ·conv=>whnf
  have h:¬(0:Int)≤(k:Int) - 1:=h
  have:k=0:=by omega
  subst this
  rw [←h2]
  exact ⟨rfl,rfl⟩
def isP (r n:List UInt8) (e:Ent):Bool:=decide (e.r=r∧e.n=n)
def isK (r n:List UInt8) (k:Int) (e:Ent):Bool:=isP r n e&&decide ((e.kv:Int)=k)
theorem c166 (e:Ent) (hk:e.key.length=32) (r n:List UInt8) (k:Int) (H:PH):CK prog 166 [.agg e.cells,.elem [.str r,.str n],.elem [.int .i64 k]] H fun x H'=>x=.bool (isK r n k e)∧H'=H:=by
 obtain ⟨er,en,kv,key,box⟩:=e
 match key,hk with
 | [a0,a1,a2,a3,a4,a5,a6,a7,a8,a9,a10,a11,a12,a13,a14,a15,b0,b1,b2,b3,b4,b5,b6,b7,b8,b9,b10,b11,b12,b13,b14,b15],_ =>
  (refine fnS (imm:=z08) zmc func166 ?_;(conv=>whnf))
  refine ⟨⟨fitPr _ _,fitPr _ _⟩,?_⟩
  conv=>whnf
  refine ⟨fun h=>?_,fun h=>?_⟩
  ·have h:[PV.str er,PV.str en]=[PV.str r,PV.str n]:=h
   have hp:er=r∧en=n:=by
    injection h with h1 h2
    injection h1 with h1
    injection h2 with h2 _
    injection h2 with h2
    exact ⟨h1,h2⟩
   conv=>whnf
   refine ⟨fun h3=>?_,fun h3=>?_⟩
   ·conv=>whnf
    have h3:(kv:Int)=k:=h3
    refine ⟨zqm PV.bool ?_,rfl⟩
    unfold isK isP
    rw [zqe hp,zqe h3];rfl
   ·conv=>whnf
    have h3:¬(kv:Int)=k:=h3
    refine ⟨zqm PV.bool ?_,rfl⟩
    unfold isK isP
    rw [zqe hp,zqd h3];rfl
  ·have h:¬[PV.str er,PV.str en]=[PV.str r,PV.str n]:=h
   conv=>whnf
   refine ⟨zqm PV.bool ?_,rfl⟩
   unfold isK isP
   rw [zqd fun hh=>h (by have h1:er=r:=hh.1;have h2:en=n:=hh.2;rw [h1,h2])];rfl
def boxR:Option Ent→PV
 | none=>.tup [.ptr none,.int .i64 4]
 | some e=>.tup [.ptr (some (e.box,0)),.int .i64 0]
theorem c130 {H:PH} {rid v:Nat} {l:List Ent} (hid:H[rid]? = some (ringO l v)) (hl:l.length≤1000) (hk:∀e∈l,e.key.length=32) (r n:List UInt8) (k:Int) :
  CK prog 130 [.ptr (some (rid,0)),.agg [.str r,.str n],.int .i64 k] H fun x H'=>x=boxR (lastE (isK r n k) l)∧H'=H:=by
 (refine fnS (imm:=z0h) zmc func130 ?_;(conv=>whnf))
 refine cO (c107 hid hl hk (isK r n k) 166 [] [.elem [.str r,.str n],.elem [.int .i64 k]] fun e he=>c166 e (hk e he) r n k H) ?_
 rintro x H' ⟨rfl,rfl⟩
 cases he:lastE (isK r n k) l with
 | none =>
  conv=>whnf
  exact ⟨rfl,rfl⟩
 | some e =>
  have hkey:e.key.length=32:=hk e (List.mem_reverse.1 (List.mem_of_find?_eq_some he))
  obtain ⟨er,en,kv,key,box⟩:=e
  match key,hkey with
  | [a0,a1,a2,a3,a4,a5,a6,a7,a8,a9,a10,a11,a12,a13,a14,a15,b0,b1,b2,b3,b4,b5,b6,b7,b8,b9,b10,b11,b12,b13,b14,b15],_ =>
   conv=>whnf
   exact ⟨rfl,rfl⟩
set_option maxHeartbeats 2000000
def ttO:TT:=[(1,⟨.fn,1,8,[.nilF]⟩),(3,⟨.int .i64,1,8,[.int .i64 0]⟩),(4,⟨.bool,1,1,[.bool false]⟩),(5,⟨.int .u8,1,1,[.int .u8 0]⟩),(21,⟨.int .i32,1,4,[.int .i32 0]⟩),(22,⟨.slice 5,1,24,[.slice 0 [] (some 5)]⟩),(213,⟨.ptr,1,8,[.ptr none]⟩),(215,⟨.arr 16 5,16,16,List.replicate 16 (.int .u8 0)⟩),(173,⟨.int .u64,1,8,[.int .u64 0]⟩),(94,⟨.int .u64,1,8,[.int .u64 0]⟩),(230,⟨.int .u32,1,4,[.int .u32 0]⟩),(231,⟨.arr 27 230,27,108,List.replicate 27 (.int .u32 0)⟩),(254,⟨.strB [(117,0),(230,0)],1,4,[.int .u32 0]⟩),(256,⟨.strct [(21,0),(230,1)],2,8,[.int .i32 0,.int .u32 0]⟩),(258,⟨.strB [(252,0),(256,0)],2,8,[.int .i32 0,.int .u32 0]⟩),(260,⟨.strB [(252,0),(254,0),(258,1)],3,12,[.int .u32 0,.int .i32 0,.int .u32 0]⟩),(262,⟨.strct [(215,0),(260,16),(231,19),(254,46)],47,140,List.replicate 16 (.int .u8 0)++[.int .u32 0,.int .i32 0]++List.replicate 29 (.int .u32 0)⟩),(269,⟨.slice 230,1,24,[.slice 0 [] (some 230)]⟩),(268,⟨.arr 4 230,4,16,[.int .u32 0,.int .u32 0,.int .u32 0,.int .u32 0]⟩),(361,⟨.ptr,1,8,[.ptr none]⟩),(367,⟨.ptr,1,8,[.ptr none]⟩)]
theorem zfl:ttOk prog ttO=true:=by kernel_rfl
def z2y:List Nat:=[]
def z20:List Nat:=[]
def zwv:List Nat:=[]
def zwu:List Nat:=[]
def z2v:List Nat:=[]
def z2q:List Nat:=[]
def z2w:List Nat:=[]
def z22:List Nat:=[]
def zji (k:Int):Int:=ibits .and .u64 (IntKind.u64.wrap k) 31
def rot32 (x k:Int):Int:=ibits .or .u32 (ishl .u32 x (zji k)) (ishr .u32 x (IntKind.u64.wrap (32 - zji k)))
def add32 (x y:Int):Int:=IntKind.u32.wrap (x+y)
def xor32 (x y:Int):Int:=ibits .xor .u32 x y
theorem c260 (x k:Int):Pure prog 260 [.int .u32 x,.int .i64 k] (.int .u32 (rot32 x k)):=by
 intro H
 (refine fnS (imm:=z2w) zfl func260 ?_;(conv=>whnf))
 refine ⟨zck _,?_⟩
 conv=>whnf
 refine ⟨zck _,?_⟩
 conv=>whnf
 exact ⟨rfl,rfl⟩
def S4.O4 (s:S4) (v:Nat):PObj:=⟨268,[.int .u32 s.a,.int .u32 s.b,.int .u32 s.c,.int .u32 s.d],v⟩
def orB (x:Int) (c:UInt8) (s:Int):Int:=ibits .or .u32 x (ishl .u32 (IntKind.u32.wrap (c.toNat:Int)) s)
def wN (k:List UInt8):Nat→S4
 | 0=>⟨0,0,0,0⟩
 | i+1=>match i / 4 with
  | 0=>{ wN k i with a:=orB (wN k i).a (k.getD i 0) (8*((i % 4:Nat):Int)) }
  | 1=>{ wN k i with b:=orB (wN k i).b (k.getD i 0) (8*((i % 4:Nat):Int)) }
  | 2=>{ wN k i with c:=orB (wN k i).c (k.getD i 0) (8*((i % 4:Nat):Int)) }
  | _=>{ wN k i with d:=orB (wN k i).d (k.getD i 0) (8*((i % 4:Nat):Int)) }
def spN (k:List UInt8):Nat→S4
 | 0=>wN k 16
 | i+1=>⟨xor32 (rot32 (spN k i).a 3) (xor32 (add32 (spN k i).a (rot32 (spN k i).b (-8))) (IntKind.u32.wrap (i:Int))),(spN k i).c,(spN k i).d,xor32 (add32 (spN k i).a (rot32 (spN k i).b (-8))) (IntKind.u32.wrap (i:Int))⟩
def u32C (x:Int):PV:=.int .u32 x
def keyO (k:List UInt8) (d m s:Int) (l:List Int) (md:Int) (v:Nat):PObj:=⟨262,(k.map bC++[.int .u32 d,.int .i32 m,.int .u32 s])++l.map u32C++[.int .u32 md],v⟩
theorem zg2 (p q:List PV) (l:List Int) (i n:Nat) (x:Int) (hi:i<l.length) (e:n=p.length+i):zaa n [u32C x] (p++l.map u32C++q)=p++(l.set i x).map u32C++q:=by
 subst e
 rw [za3 _ _ _ (by simp;omega)]
 have h1:(p++l.map u32C++q).take (p.length+i)=p++(l.take i).map u32C:=by
  rw [List.append_assoc,List.take_length_add_append,List.take_append_of_le_length (by rw [zqq];omega),List.map_take]
 have h2:(p++l.map u32C++q).drop (p.length+i+[u32C x].length)=(l.drop (i+1)).map u32C++q:=by
  rw [List.append_assoc,Nat.add_assoc,List.drop_length_add_append,List.drop_append_of_le_length (by rw [zqq];simp;omega),List.map_drop];rfl
 rw [h1,h2,List.set_eq_take_append_cons_drop,zqp hi,List.map_append,List.map_cons]
 simp
def zcv:Draw:={ imp:=[12],win:=[] }
theorem S4.look4 (s:S4) (v:Nat) (H:PH):(H++[s.O4 v])[H.length]? = some ⟨268,[.int .u32 s.a,.int .u32 s.b,.int .u32 s.c,.int .u32 s.d],v⟩:=gL H _
structure MkS where
 i:Nat
 kv:Nat
 lid:Nat
 off:Nat
 cap:Nat
 ob:PObj
 K:PH
def spL (k:List UInt8) (l:List Int) (i:Nat):List Int:=(List.range i).map (fun j=>(spN k j).a)++l.drop i
theorem zts (k:List UInt8) (l:List Int) (i:Nat) (hl:l.length=27) (hi:i≤27):(spL k l i).length=27:=by
 unfold spL
 rw [zqf,zqq,List.length_range,List.length_drop];omega
theorem ztt (k:List UInt8) (l:List Int) (i:Nat) (hl:l.length=27) (hi:i<27):(spL k l i).set i (spN k i).a=spL k l (i+1):=by
 unfold spL
 rw [List.set_append_right _ _ (by simp),zqq,List.length_range,Nat.sub_self,List.drop_eq_getElem_cons (by omega),List.set_cons_zero,List.range_succ,List.map_append,List.append_assoc]
 rfl
structure MkOk (k:List UInt8) (d m s md:Int) (l:List Int) (kid:Nat) (H:PH) (x:MkS):Prop where
 i:x.i≤27
 key:x.K[kid]? = some (keyO k d m s (spL k l x.i) md x.kv)
 ne:x.lid≠kid
 new:H.length≤x.lid
 lst:x.K[x.lid]? = some x.ob
 three:(x.ob.cs.drop x.off).take 3=[u32C (spN k x.i).b,u32C (spN k x.i).c,u32C (spN k x.i).d]
 room:x.off+x.cap≤x.ob.cs.length
 cap:3≤x.cap
 len:H.length≤x.K.length
 fr:∀j,j<H.length→j≠kid→x.K[j]? = H[j]?
def spW (k:List UInt8):List Int:=(List.range 27).map fun j=>(spN k j).a
theorem zl5 (k:Nat) (xs cs:List PV) (h:k+xs.length≤cs.length):(zaa k xs cs).length=cs.length:=by
 rw [za3 _ _ _ h]
 simp only [zqf,zqr,List.length_drop];omega
theorem slide (cs:List PV) (off:Nat) (b c d:PV) (r:List PV) (h:cs.drop off=b::c::d::r) (hr:off+4≤cs.length) (n:PV):((zaa (off+1+2) [n] cs).drop (off+1)).take 3=[c,d,n]:=by
 have hcs:cs=cs.take off++b::c::d::r:=by rw [←h,List.take_append_drop]
 have hp:(cs.take off).length=off:=by rw [zqr];omega
 generalize cs.take off=p at hcs hp
 subst hcs
 subst hp
 match r,hr with
 | [],hr=>simp at hr
 | e::r',_ =>
  rw [za3 _ _ _ (by simp;omega)]
  have h1:(p++b::c::d::e::r').take (p.length+1+2)=p++[b,c,d]:=by
   rw [Nat.add_assoc,List.take_length_add_append];rfl
  rw [h1,List.append_assoc,List.append_assoc,List.drop_length_add_append]
  rfl
theorem c287 {H:PH} {id off:Nat} {o:PObj} {n:Int} (m:Int) (ho:H[id]? = some o) (hc:o.cs[off]? = some (.int .u32 n)) :
  CK prog 287 [.ptr (some (id,off)),.int .u32 m] H fun r H'=>r=.tup []∧H'=H.set id ⟨o.T,zaa off [.int .u32 m] o.cs,o.ver+1⟩ :=
 zk6 func287 (by kernel_rfl) (by kernel_rfl) (by kernel_rfl) .u32 (by kernel_rfl) m ho hc
theorem c288:Pure prog 288 [.bool true] (.int .u32 1):=by
 intro H
 (refine fnS (imm:=z22) zfl func288 ?_;(conv=>whnf))
 exact ⟨rfl,rfl⟩
def D279:Draw:={ imp:=[5],win:=[] }
theorem c279 {H:PH} {id off:Nat} {o:PObj} {n:Int} (ho:H[id]? = some o) (hc:o.cs[off]? = some (.int .u32 n)) :
  CK prog 279 [.ptr (some (id,off)),.bool true] H fun r H'=>r=.tup []∧H'=H.set id ⟨o.T,zaa off [.int .u32 1] o.cs,o.ver+1⟩:=by
 (refine fnS (imm:=zwv) zfl func279 ?_;(conv=>whnf))
 refine dO2 D279 [H,H.set id ⟨o.T,zaa off [.int .u32 1] o.cs,o.ver+1⟩] (by kernel_rfl) rfl trivial ?_
 conv=>whnf
 iterate 4 (refine dS ?_;(conv=>whnf))
 refine ⟨_,cP c288 ⟨rfl,rfl,zqv⟩,?_⟩
 conv=>whnf
 refine ⟨_,cO (c287 1 ho hc) (by rintro _ _ ⟨rfl,rfl⟩;exact ⟨rfl,rfl,zqv⟩),?_⟩
 conv=>whnf
 exact ⟨rfl,rfl⟩
theorem c271x (k:List UInt8) (hk:k.length=16) (d m s md:Int) (l:List Int) (hl:l.length=27) (v kid:Nat) (H:PH) (hid:H[kid]? = some (keyO k d m s l md v)) :
  CK prog 271 [.ptr (some (kid,0))] H fun r H'=>r=.tup []∧∃(K:PH) (kv:Nat),K[kid]? = some (keyO k d m s (spW k) md kv)∧H.length≤K.length∧(∀j,j<H.length→j≠kid→K[j]? = H[j]?)∧H'=K.set kid (keyO k d m s (spW k) 1 (kv+1)):=by
 obtain ⟨k0,k1,k2,k3,k4,k5,k6,k7,k8,k9,ka,kb,kc,kd,ke,kf,rfl⟩:=len16 hk
 have hlt:kid<H.length:=(zq1.1 hid).1
 (refine fnS (imm:=z2y) zfl func271 ?_;(conv=>whnf))
 have hid1:(H++[(⟨268,[.int .u32 0,.int .u32 0,.int .u32 0,.int .u32 0],0⟩:PObj)])[kid]? = some (keyO [k0,k1,k2,k3,k4,k5,k6,k7,k8,k9,ka,kb,kc,kd,ke,kf] d m s l md v):=by rw [zq2 hlt];exact hid
 ((conv in (_[_]?)=>tactic=>exact hid1);(conv=>whnf))
 obtain ⟨kk,hkk⟩:∃kk:List UInt8,kk=[k0,k1,k2,k3,k4,k5,k6,k7,k8,k9,ka,kb,kc,kd,ke,kf]:=⟨_,rfl⟩
 refine lO Nat (fun x=>[(0,.ptr (some (kid,0))),(2,.ptr (some (H.length,0))),(12,.agg ([k0,k1,k2,k3,k4,k5,k6,k7,k8,k9,ka,kb,kc,kd,ke,kf].map bC)),(13,.int .i64 x)]) (fun x=>H++[(wN kk x).O4 x]) (fun x=>x≤16) (fun x=>16 - x) ⟨0,Nat.zero_le _,⟨rfl,rfl,rfl,rfl,zqv⟩,rfl⟩ ?_
 intro i hi
 match i,hi with
 | 0,_ =>
  conv=>whnf
  refine ⟨fun _=>?_,fun h=>absurd (show ((0:Nat):Int)<16 by decide) h⟩
  conv=>whnf
  refine ⟨⟨by decide,by decide⟩,?_⟩
  conv=>whnf
  generalize hz:wN kk 0=z
  refine dO2 zcv [H++[z.O4 0],H++[S4.O4 { z with a:=orB z.a k0 0 } 1]] (by kernel_rfl) rfl trivial ?_
  conv=>whnf
  (refine dS ?_;(conv=>whnf))
  iterate 2 (refine dZ ?_;(conv=>whnf))
  apply exA
  ·conv=>whnf
   ((conv in (_[_]?)=>tactic=>exact (z.look4 0 H));(conv=>whnf))
   exact ⟨rfl,rfl,zqv⟩
  conv=>whnf
  iterate 3 (refine dS ?_;(conv=>whnf))
  (refine dZ ?_;(conv=>whnf))
  (refine dS ?_;(conv=>whnf))
  (refine dZ ?_;(conv=>whnf))
  (refine dS ?_;(conv=>whnf))
  (refine dZ ?_;(conv=>whnf))
  apply exA
  ·conv=>whnf
   ((conv in (_[_]?)=>tactic=>exact (z.look4 0 H));(conv=>whnf))
   exact ⟨rfl,sL H _ _,zqv⟩
  conv=>whnf
  refine ⟨1,by decide,⟨rfl,rfl,rfl,rfl,zqv⟩,?_,by decide⟩
  subst hz hkk
  rfl
 | 1,_ =>
  conv=>whnf
  refine ⟨fun _=>?_,fun h=>absurd (show ((1:Nat):Int)<16 by decide) h⟩
  conv=>whnf
  refine ⟨⟨by decide,by decide⟩,?_⟩
  conv=>whnf
  generalize hz:wN kk 1=z
  refine dO2 zcv [H++[z.O4 1],H++[S4.O4 { z with a:=orB z.a k1 8 } 2]] (by kernel_rfl) rfl trivial ?_
  conv=>whnf
  (refine dS ?_;(conv=>whnf))
  iterate 2 (refine dZ ?_;(conv=>whnf))
  apply exA
  ·conv=>whnf
   ((conv in (_[_]?)=>tactic=>exact (z.look4 1 H));(conv=>whnf))
   exact ⟨rfl,rfl,zqv⟩
  conv=>whnf
  iterate 3 (refine dS ?_;(conv=>whnf))
  (refine dZ ?_;(conv=>whnf))
  (refine dS ?_;(conv=>whnf))
  (refine dZ ?_;(conv=>whnf))
  (refine dS ?_;(conv=>whnf))
  (refine dZ ?_;(conv=>whnf))
  apply exA
  ·conv=>whnf
   ((conv in (_[_]?)=>tactic=>exact (z.look4 1 H));(conv=>whnf))
   exact ⟨rfl,sL H _ _,zqv⟩
  conv=>whnf
  refine ⟨2,by decide,⟨rfl,rfl,rfl,rfl,zqv⟩,?_,by decide⟩
  subst hz hkk
  rfl
 | 2,_ =>
  conv=>whnf
  refine ⟨fun _=>?_,fun h=>absurd (show ((2:Nat):Int)<16 by decide) h⟩
  conv=>whnf
  refine ⟨⟨by decide,by decide⟩,?_⟩
  conv=>whnf
  generalize hz:wN kk 2=z
  refine dO2 zcv [H++[z.O4 2],H++[S4.O4 { z with a:=orB z.a k2 16 } 3]] (by kernel_rfl) rfl trivial ?_
  conv=>whnf
  (refine dS ?_;(conv=>whnf))
  iterate 2 (refine dZ ?_;(conv=>whnf))
  apply exA
  ·conv=>whnf
   ((conv in (_[_]?)=>tactic=>exact (z.look4 2 H));(conv=>whnf))
   exact ⟨rfl,rfl,zqv⟩
  conv=>whnf
  iterate 3 (refine dS ?_;(conv=>whnf))
  (refine dZ ?_;(conv=>whnf))
  (refine dS ?_;(conv=>whnf))
  (refine dZ ?_;(conv=>whnf))
  (refine dS ?_;(conv=>whnf))
  (refine dZ ?_;(conv=>whnf))
  apply exA
  ·conv=>whnf
   ((conv in (_[_]?)=>tactic=>exact (z.look4 2 H));(conv=>whnf))
   exact ⟨rfl,sL H _ _,zqv⟩
  conv=>whnf
  refine ⟨3,by decide,⟨rfl,rfl,rfl,rfl,zqv⟩,?_,by decide⟩
  subst hz hkk
  rfl
 | 3,_ =>
  conv=>whnf
  refine ⟨fun _=>?_,fun h=>absurd (show ((3:Nat):Int)<16 by decide) h⟩
  conv=>whnf
  refine ⟨⟨by decide,by decide⟩,?_⟩
  conv=>whnf
  generalize hz:wN kk 3=z
  refine dO2 zcv [H++[z.O4 3],H++[S4.O4 { z with a:=orB z.a k3 24 } 4]] (by kernel_rfl) rfl trivial ?_
  conv=>whnf
  (refine dS ?_;(conv=>whnf))
  iterate 2 (refine dZ ?_;(conv=>whnf))
  apply exA
  ·conv=>whnf
   ((conv in (_[_]?)=>tactic=>exact (z.look4 3 H));(conv=>whnf))
   exact ⟨rfl,rfl,zqv⟩
  conv=>whnf
  iterate 3 (refine dS ?_;(conv=>whnf))
  (refine dZ ?_;(conv=>whnf))
  (refine dS ?_;(conv=>whnf))
  (refine dZ ?_;(conv=>whnf))
  (refine dS ?_;(conv=>whnf))
  (refine dZ ?_;(conv=>whnf))
  apply exA
  ·conv=>whnf
   ((conv in (_[_]?)=>tactic=>exact (z.look4 3 H));(conv=>whnf))
   exact ⟨rfl,sL H _ _,zqv⟩
  conv=>whnf
  refine ⟨4,by decide,⟨rfl,rfl,rfl,rfl,zqv⟩,?_,by decide⟩
  subst hz hkk
  rfl
 | 4,_ =>
  conv=>whnf
  refine ⟨fun _=>?_,fun h=>absurd (show ((4:Nat):Int)<16 by decide) h⟩
  conv=>whnf
  refine ⟨⟨by decide,by decide⟩,?_⟩
  conv=>whnf
  generalize hz:wN kk 4=z
  refine dO2 zcv [H++[z.O4 4],H++[S4.O4 { z with b:=orB z.b k4 0 } 5]] (by kernel_rfl) rfl trivial ?_
  conv=>whnf
  (refine dS ?_;(conv=>whnf))
  iterate 2 (refine dZ ?_;(conv=>whnf))
  apply exA
  ·conv=>whnf
   ((conv in (_[_]?)=>tactic=>exact (z.look4 4 H));(conv=>whnf))
   exact ⟨rfl,rfl,zqv⟩
  conv=>whnf
  iterate 3 (refine dS ?_;(conv=>whnf))
  (refine dZ ?_;(conv=>whnf))
  (refine dS ?_;(conv=>whnf))
  (refine dZ ?_;(conv=>whnf))
  (refine dS ?_;(conv=>whnf))
  (refine dZ ?_;(conv=>whnf))
  apply exA
  ·conv=>whnf
   ((conv in (_[_]?)=>tactic=>exact (z.look4 4 H));(conv=>whnf))
   exact ⟨rfl,sL H _ _,zqv⟩
  conv=>whnf
  refine ⟨5,by decide,⟨rfl,rfl,rfl,rfl,zqv⟩,?_,by decide⟩
  subst hz hkk
  rfl
 | 5,_ =>
  conv=>whnf
  refine ⟨fun _=>?_,fun h=>absurd (show ((5:Nat):Int)<16 by decide) h⟩
  conv=>whnf
  refine ⟨⟨by decide,by decide⟩,?_⟩
  conv=>whnf
  generalize hz:wN kk 5=z
  refine dO2 zcv [H++[z.O4 5],H++[S4.O4 { z with b:=orB z.b k5 8 } 6]] (by kernel_rfl) rfl trivial ?_
  conv=>whnf
  (refine dS ?_;(conv=>whnf))
  iterate 2 (refine dZ ?_;(conv=>whnf))
  apply exA
  ·conv=>whnf
   ((conv in (_[_]?)=>tactic=>exact (z.look4 5 H));(conv=>whnf))
   exact ⟨rfl,rfl,zqv⟩
  conv=>whnf
  iterate 3 (refine dS ?_;(conv=>whnf))
  (refine dZ ?_;(conv=>whnf))
  (refine dS ?_;(conv=>whnf))
  (refine dZ ?_;(conv=>whnf))
  (refine dS ?_;(conv=>whnf))
  (refine dZ ?_;(conv=>whnf))
  apply exA
  ·conv=>whnf
   ((conv in (_[_]?)=>tactic=>exact (z.look4 5 H));(conv=>whnf))
   exact ⟨rfl,sL H _ _,zqv⟩
  conv=>whnf
  refine ⟨6,by decide,⟨rfl,rfl,rfl,rfl,zqv⟩,?_,by decide⟩
  subst hz hkk
  rfl
 | 6,_ =>
  conv=>whnf
  refine ⟨fun _=>?_,fun h=>absurd (show ((6:Nat):Int)<16 by decide) h⟩
  conv=>whnf
  refine ⟨⟨by decide,by decide⟩,?_⟩
  conv=>whnf
  generalize hz:wN kk 6=z
  refine dO2 zcv [H++[z.O4 6],H++[S4.O4 { z with b:=orB z.b k6 16 } 7]] (by kernel_rfl) rfl trivial ?_
  conv=>whnf
  (refine dS ?_;(conv=>whnf))
  iterate 2 (refine dZ ?_;(conv=>whnf))
  apply exA
  ·conv=>whnf
   ((conv in (_[_]?)=>tactic=>exact (z.look4 6 H));(conv=>whnf))
   exact ⟨rfl,rfl,zqv⟩
  conv=>whnf
  iterate 3 (refine dS ?_;(conv=>whnf))
  (refine dZ ?_;(conv=>whnf))
  (refine dS ?_;(conv=>whnf))
  (refine dZ ?_;(conv=>whnf))
  (refine dS ?_;(conv=>whnf))
  (refine dZ ?_;(conv=>whnf))
  apply exA
  ·conv=>whnf
   ((conv in (_[_]?)=>tactic=>exact (z.look4 6 H));(conv=>whnf))
   exact ⟨rfl,sL H _ _,zqv⟩
  conv=>whnf
  refine ⟨7,by decide,⟨rfl,rfl,rfl,rfl,zqv⟩,?_,by decide⟩
  subst hz hkk
  rfl
 | 7,_ =>
  conv=>whnf
  refine ⟨fun _=>?_,fun h=>absurd (show ((7:Nat):Int)<16 by decide) h⟩
  conv=>whnf
  refine ⟨⟨by decide,by decide⟩,?_⟩
  conv=>whnf
  generalize hz:wN kk 7=z
  refine dO2 zcv [H++[z.O4 7],H++[S4.O4 { z with b:=orB z.b k7 24 } 8]] (by kernel_rfl) rfl trivial ?_
  conv=>whnf
  (refine dS ?_;(conv=>whnf))
  iterate 2 (refine dZ ?_;(conv=>whnf))
  apply exA
  ·conv=>whnf
   ((conv in (_[_]?)=>tactic=>exact (z.look4 7 H));(conv=>whnf))
   exact ⟨rfl,rfl,zqv⟩
  conv=>whnf
  iterate 3 (refine dS ?_;(conv=>whnf))
  (refine dZ ?_;(conv=>whnf))
  (refine dS ?_;(conv=>whnf))
  (refine dZ ?_;(conv=>whnf))
  (refine dS ?_;(conv=>whnf))
  (refine dZ ?_;(conv=>whnf))
  apply exA
  ·conv=>whnf
   ((conv in (_[_]?)=>tactic=>exact (z.look4 7 H));(conv=>whnf))
   exact ⟨rfl,sL H _ _,zqv⟩
  conv=>whnf
  refine ⟨8,by decide,⟨rfl,rfl,rfl,rfl,zqv⟩,?_,by decide⟩
  subst hz hkk
  rfl
 | 8,_ =>
  conv=>whnf
  refine ⟨fun _=>?_,fun h=>absurd (show ((8:Nat):Int)<16 by decide) h⟩
  conv=>whnf
  refine ⟨⟨by decide,by decide⟩,?_⟩
  conv=>whnf
  generalize hz:wN kk 8=z
  refine dO2 zcv [H++[z.O4 8],H++[S4.O4 { z with c:=orB z.c k8 0 } 9]] (by kernel_rfl) rfl trivial ?_
  conv=>whnf
  (refine dS ?_;(conv=>whnf))
  iterate 2 (refine dZ ?_;(conv=>whnf))
  apply exA
  ·conv=>whnf
   ((conv in (_[_]?)=>tactic=>exact (z.look4 8 H));(conv=>whnf))
   exact ⟨rfl,rfl,zqv⟩
  conv=>whnf
  iterate 3 (refine dS ?_;(conv=>whnf))
  (refine dZ ?_;(conv=>whnf))
  (refine dS ?_;(conv=>whnf))
  (refine dZ ?_;(conv=>whnf))
  (refine dS ?_;(conv=>whnf))
  (refine dZ ?_;(conv=>whnf))
  apply exA
  ·conv=>whnf
   ((conv in (_[_]?)=>tactic=>exact (z.look4 8 H));(conv=>whnf))
   exact ⟨rfl,sL H _ _,zqv⟩
  conv=>whnf
  refine ⟨9,by decide,⟨rfl,rfl,rfl,rfl,zqv⟩,?_,by decide⟩
  subst hz hkk
  rfl
 | 9,_ =>
  conv=>whnf
  refine ⟨fun _=>?_,fun h=>absurd (show ((9:Nat):Int)<16 by decide) h⟩
  conv=>whnf
  refine ⟨⟨by decide,by decide⟩,?_⟩
  conv=>whnf
  generalize hz:wN kk 9=z
  refine dO2 zcv [H++[z.O4 9],H++[S4.O4 { z with c:=orB z.c k9 8 } 10]] (by kernel_rfl) rfl trivial ?_
  conv=>whnf
  (refine dS ?_;(conv=>whnf))
  iterate 2 (refine dZ ?_;(conv=>whnf))
  apply exA
  ·conv=>whnf
   ((conv in (_[_]?)=>tactic=>exact (z.look4 9 H));(conv=>whnf))
   exact ⟨rfl,rfl,zqv⟩
  conv=>whnf
  iterate 3 (refine dS ?_;(conv=>whnf))
  (refine dZ ?_;(conv=>whnf))
  (refine dS ?_;(conv=>whnf))
  (refine dZ ?_;(conv=>whnf))
  (refine dS ?_;(conv=>whnf))
  (refine dZ ?_;(conv=>whnf))
  apply exA
  ·conv=>whnf
   ((conv in (_[_]?)=>tactic=>exact (z.look4 9 H));(conv=>whnf))
   exact ⟨rfl,sL H _ _,zqv⟩
  conv=>whnf
  refine ⟨10,by decide,⟨rfl,rfl,rfl,rfl,zqv⟩,?_,by decide⟩
  subst hz hkk
  rfl
 | 10,_ =>
  conv=>whnf
  refine ⟨fun _=>?_,fun h=>absurd (show ((10:Nat):Int)<16 by decide) h⟩
  conv=>whnf
  refine ⟨⟨by decide,by decide⟩,?_⟩
  conv=>whnf
  generalize hz:wN kk 10=z
  refine dO2 zcv [H++[z.O4 10],H++[S4.O4 { z with c:=orB z.c ka 16 } 11]] (by kernel_rfl) rfl trivial ?_
  conv=>whnf
  (refine dS ?_;(conv=>whnf))
  iterate 2 (refine dZ ?_;(conv=>whnf))
  apply exA
  ·conv=>whnf
   ((conv in (_[_]?)=>tactic=>exact (z.look4 10 H));(conv=>whnf))
   exact ⟨rfl,rfl,zqv⟩
  conv=>whnf
  iterate 3 (refine dS ?_;(conv=>whnf))
  (refine dZ ?_;(conv=>whnf))
  (refine dS ?_;(conv=>whnf))
  (refine dZ ?_;(conv=>whnf))
  (refine dS ?_;(conv=>whnf))
  (refine dZ ?_;(conv=>whnf))
  apply exA
  ·conv=>whnf
   ((conv in (_[_]?)=>tactic=>exact (z.look4 10 H));(conv=>whnf))
   exact ⟨rfl,sL H _ _,zqv⟩
  conv=>whnf
  refine ⟨11,by decide,⟨rfl,rfl,rfl,rfl,zqv⟩,?_,by decide⟩
  subst hz hkk
  rfl
 | 11,_ =>
  conv=>whnf
  refine ⟨fun _=>?_,fun h=>absurd (show ((11:Nat):Int)<16 by decide) h⟩
  conv=>whnf
  refine ⟨⟨by decide,by decide⟩,?_⟩
  conv=>whnf
  generalize hz:wN kk 11=z
  refine dO2 zcv [H++[z.O4 11],H++[S4.O4 { z with c:=orB z.c kb 24 } 12]] (by kernel_rfl) rfl trivial ?_
  conv=>whnf
  (refine dS ?_;(conv=>whnf))
  iterate 2 (refine dZ ?_;(conv=>whnf))
  apply exA
  ·conv=>whnf
   ((conv in (_[_]?)=>tactic=>exact (z.look4 11 H));(conv=>whnf))
   exact ⟨rfl,rfl,zqv⟩
  conv=>whnf
  iterate 3 (refine dS ?_;(conv=>whnf))
  (refine dZ ?_;(conv=>whnf))
  (refine dS ?_;(conv=>whnf))
  (refine dZ ?_;(conv=>whnf))
  (refine dS ?_;(conv=>whnf))
  (refine dZ ?_;(conv=>whnf))
  apply exA
  ·conv=>whnf
   ((conv in (_[_]?)=>tactic=>exact (z.look4 11 H));(conv=>whnf))
   exact ⟨rfl,sL H _ _,zqv⟩
  conv=>whnf
  refine ⟨12,by decide,⟨rfl,rfl,rfl,rfl,zqv⟩,?_,by decide⟩
  subst hz hkk
  rfl
 | 12,_ =>
  conv=>whnf
  refine ⟨fun _=>?_,fun h=>absurd (show ((12:Nat):Int)<16 by decide) h⟩
  conv=>whnf
  refine ⟨⟨by decide,by decide⟩,?_⟩
  conv=>whnf
  generalize hz:wN kk 12=z
  refine dO2 zcv [H++[z.O4 12],H++[S4.O4 { z with d:=orB z.d kc 0 } 13]] (by kernel_rfl) rfl trivial ?_
  conv=>whnf
  (refine dS ?_;(conv=>whnf))
  iterate 2 (refine dZ ?_;(conv=>whnf))
  apply exA
  ·conv=>whnf
   ((conv in (_[_]?)=>tactic=>exact (z.look4 12 H));(conv=>whnf))
   exact ⟨rfl,rfl,zqv⟩
  conv=>whnf
  iterate 3 (refine dS ?_;(conv=>whnf))
  (refine dZ ?_;(conv=>whnf))
  (refine dS ?_;(conv=>whnf))
  (refine dZ ?_;(conv=>whnf))
  (refine dS ?_;(conv=>whnf))
  (refine dZ ?_;(conv=>whnf))
  apply exA
  ·conv=>whnf
   ((conv in (_[_]?)=>tactic=>exact (z.look4 12 H));(conv=>whnf))
   exact ⟨rfl,sL H _ _,zqv⟩
  conv=>whnf
  refine ⟨13,by decide,⟨rfl,rfl,rfl,rfl,zqv⟩,?_,by decide⟩
  subst hz hkk
  rfl
 | 13,_ =>
  conv=>whnf
  refine ⟨fun _=>?_,fun h=>absurd (show ((13:Nat):Int)<16 by decide) h⟩
  conv=>whnf
  refine ⟨⟨by decide,by decide⟩,?_⟩
  conv=>whnf
  generalize hz:wN kk 13=z
  refine dO2 zcv [H++[z.O4 13],H++[S4.O4 { z with d:=orB z.d kd 8 } 14]] (by kernel_rfl) rfl trivial ?_
  conv=>whnf
  (refine dS ?_;(conv=>whnf))
  iterate 2 (refine dZ ?_;(conv=>whnf))
  apply exA
  ·conv=>whnf
   ((conv in (_[_]?)=>tactic=>exact (z.look4 13 H));(conv=>whnf))
   exact ⟨rfl,rfl,zqv⟩
  conv=>whnf
  iterate 3 (refine dS ?_;(conv=>whnf))
  (refine dZ ?_;(conv=>whnf))
  (refine dS ?_;(conv=>whnf))
  (refine dZ ?_;(conv=>whnf))
  (refine dS ?_;(conv=>whnf))
  (refine dZ ?_;(conv=>whnf))
  apply exA
  ·conv=>whnf
   ((conv in (_[_]?)=>tactic=>exact (z.look4 13 H));(conv=>whnf))
   exact ⟨rfl,sL H _ _,zqv⟩
  conv=>whnf
  refine ⟨14,by decide,⟨rfl,rfl,rfl,rfl,zqv⟩,?_,by decide⟩
  subst hz hkk
  rfl
 | 14,_ =>
  conv=>whnf
  refine ⟨fun _=>?_,fun h=>absurd (show ((14:Nat):Int)<16 by decide) h⟩
  conv=>whnf
  refine ⟨⟨by decide,by decide⟩,?_⟩
  conv=>whnf
  generalize hz:wN kk 14=z
  refine dO2 zcv [H++[z.O4 14],H++[S4.O4 { z with d:=orB z.d ke 16 } 15]] (by kernel_rfl) rfl trivial ?_
  conv=>whnf
  (refine dS ?_;(conv=>whnf))
  iterate 2 (refine dZ ?_;(conv=>whnf))
  apply exA
  ·conv=>whnf
   ((conv in (_[_]?)=>tactic=>exact (z.look4 14 H));(conv=>whnf))
   exact ⟨rfl,rfl,zqv⟩
  conv=>whnf
  iterate 3 (refine dS ?_;(conv=>whnf))
  (refine dZ ?_;(conv=>whnf))
  (refine dS ?_;(conv=>whnf))
  (refine dZ ?_;(conv=>whnf))
  (refine dS ?_;(conv=>whnf))
  (refine dZ ?_;(conv=>whnf))
  apply exA
  ·conv=>whnf
   ((conv in (_[_]?)=>tactic=>exact (z.look4 14 H));(conv=>whnf))
   exact ⟨rfl,sL H _ _,zqv⟩
  conv=>whnf
  refine ⟨15,by decide,⟨rfl,rfl,rfl,rfl,zqv⟩,?_,by decide⟩
  subst hz hkk
  rfl
 | 15,_ =>
  conv=>whnf
  refine ⟨fun _=>?_,fun h=>absurd (show ((15:Nat):Int)<16 by decide) h⟩
  conv=>whnf
  refine ⟨⟨by decide,by decide⟩,?_⟩
  conv=>whnf
  generalize hz:wN kk 15=z
  refine dO2 zcv [H++[z.O4 15],H++[S4.O4 { z with d:=orB z.d kf 24 } 16]] (by kernel_rfl) rfl trivial ?_
  conv=>whnf
  (refine dS ?_;(conv=>whnf))
  iterate 2 (refine dZ ?_;(conv=>whnf))
  apply exA
  ·conv=>whnf
   ((conv in (_[_]?)=>tactic=>exact (z.look4 15 H));(conv=>whnf))
   exact ⟨rfl,rfl,zqv⟩
  conv=>whnf
  iterate 3 (refine dS ?_;(conv=>whnf))
  (refine dZ ?_;(conv=>whnf))
  (refine dS ?_;(conv=>whnf))
  (refine dZ ?_;(conv=>whnf))
  (refine dS ?_;(conv=>whnf))
  (refine dZ ?_;(conv=>whnf))
  apply exA
  ·conv=>whnf
   ((conv in (_[_]?)=>tactic=>exact (z.look4 15 H));(conv=>whnf))
   exact ⟨rfl,sL H _ _,zqv⟩
  conv=>whnf
  refine ⟨16,by decide,⟨rfl,rfl,rfl,rfl,zqv⟩,?_,by decide⟩
  subst hz hkk
  rfl
 | 16,_ =>
  conv=>whnf
  refine ⟨fun h=>absurd h (by decide),fun _=>?_⟩
  conv=>whnf
  refine dP2 (by kernel_rfl) ?_
  conv=>whnf
  apply exA
  ·conv=>whnf
   exact ⟨by decide,rfl,rfl,zqv⟩
  conv=>whnf
  apply exA
  ·conv=>whnf
   ((conv in (_[_]?)=>tactic=>exact ((wN kk 16).look4 16 H));(conv=>whnf))
   exact ⟨rfl,rfl,zqv⟩
  conv=>whnf
  apply exA
  ·conv=>whnf
   refine ⟨by decide,fun _=>?_,fun h=>absurd (show (1:Int)<4 by decide) h⟩
   conv=>whnf
   exact ⟨rfl,rfl,zqv⟩
  conv=>whnf
  iterate 2 (refine dS ?_;(conv=>whnf))
  subst hkk
  refine lO MkS (fun x=>[(0,.ptr (some (kid,0))),(5,.int .u32 (spN [k0,k1,k2,k3,k4,k5,k6,k7,k8,k9,ka,kb,kc,kd,ke,kf] x.i).a),(6,.sref x.lid x.off 3 x.cap),(33,.int .i64 x.i)]) (fun x=>x.K) (fun x=>MkOk [k0,k1,k2,k3,k4,k5,k6,k7,k8,k9,ka,kb,kc,kd,ke,kf] d m s md l kid H x) (fun x=>27 - x.i)
   ⟨⟨0,v,H.length,1,3,(wN [k0,k1,k2,k3,k4,k5,k6,k7,k8,k9,ka,kb,kc,kd,ke,kf] 16).O4 16,H++[(wN [k0,k1,k2,k3,k4,k5,k6,k7,k8,k9,ka,kb,kc,kd,ke,kf] 16).O4 16]⟩,⟨Nat.zero_le _,by rw [zq2 hlt];exact hid,by show H.length≠kid;omega,zqn _,gL H _,rfl,by show 1+3≤4;omega,by show 3≤3;omega,by simp,fun j hj _=>zq2 hj⟩,⟨rfl,rfl,rfl,rfl,zqv⟩,rfl⟩ ?_
  rintro x hx
  obtain ⟨i,kv,lid,off,cap,ob,K⟩:=x
  have hx:MkOk [k0,k1,k2,k3,k4,k5,k6,k7,k8,k9,ka,kb,kc,kd,ke,kf] d m s md l kid H ⟨i,kv,lid,off,cap,ob,K⟩:=hx
  have hi:i≤27:=hx.i
  have hKk:K[kid]? = some (keyO [k0,k1,k2,k3,k4,k5,k6,k7,k8,k9,ka,kb,kc,kd,ke,kf] d m s (spL [k0,k1,k2,k3,k4,k5,k6,k7,k8,k9,ka,kb,kc,kd,ke,kf] l i) md kv):=hx.key
  conv=>whnf
  refine ⟨fun h=>?_,fun h=>?_⟩
  ·have h:(i:Int)<27:=h
   have hspl:(spL [k0,k1,k2,k3,k4,k5,k6,k7,k8,k9,ka,kb,kc,kd,ke,kf] l i).length=27:=by rw [zts _ _ _ hl hi]
   conv=>whnf
   refine ⟨⟨by omega,h⟩,?_⟩
   conv=>whnf
   ((conv in (_[_]?)=>tactic=>exact hKk);(conv=>whnf))
   ((conv in (Nat.ble _ _)=>tactic=>exact (show Nat.ble (0+19+(i:Int).toNat*1+1) (([k0,k1,k2,k3,k4,k5,k6,k7,k8,k9,ka,kb,kc,kd,ke,kf].map bC++[PV.int .u32 d,PV.int .i32 m,PV.int .u32 s])++(spL [k0,k1,k2,k3,k4,k5,k6,k7,k8,k9,ka,kb,kc,kd,ke,kf] l i).map u32C++[PV.int .u32 md]).length=true by rw [Nat.ble_eq];simp [hspl];omega));(conv=>whnf))
   generalize hg:setH kid _ _ _=K1
   have hK1:K1=K.set kid (keyO [k0,k1,k2,k3,k4,k5,k6,k7,k8,k9,ka,kb,kc,kd,ke,kf] d m s (spL [k0,k1,k2,k3,k4,k5,k6,k7,k8,k9,ka,kb,kc,kd,ke,kf] l (i+1)) md (kv+1)):=by
    rw [←hg]
    show K.set kid ⟨262,zaa (0+19+(i:Int).toNat*1) [u32C (spN [k0,k1,k2,k3,k4,k5,k6,k7,k8,k9,ka,kb,kc,kd,ke,kf] i).a] (([k0,k1,k2,k3,k4,k5,k6,k7,k8,k9,ka,kb,kc,kd,ke,kf].map bC++[PV.int .u32 d,PV.int .i32 m,PV.int .u32 s])++(spL [k0,k1,k2,k3,k4,k5,k6,k7,k8,k9,ka,kb,kc,kd,ke,kf] l i).map u32C++[PV.int .u32 md]),kv+1⟩=_
    rw [zg2 _ _ _ i _ _ (by omega) (by simp),ztt _ _ _ hl (by omega)]
    rfl
   have h1:K1[lid]? = some ob:=by rw [hK1,zqj (Ne.symm hx.ne)];exact hx.lst
   have hk1:K1[kid]? = some (keyO [k0,k1,k2,k3,k4,k5,k6,k7,k8,k9,ka,kb,kc,kd,ke,kf] d m s (spL [k0,k1,k2,k3,k4,k5,k6,k7,k8,k9,ka,kb,kc,kd,ke,kf] l (i+1)) md (kv+1)):=by rw [hK1];exact gS hKk
   have hl1:K1.length=K.length:=by rw [hK1,List.length_set]
   have ht:(ob.cs.drop off).take 3=[u32C (spN [k0,k1,k2,k3,k4,k5,k6,k7,k8,k9,ka,kb,kc,kd,ke,kf] i).b,u32C (spN [k0,k1,k2,k3,k4,k5,k6,k7,k8,k9,ka,kb,kc,kd,ke,kf] i).c,u32C (spN [k0,k1,k2,k3,k4,k5,k6,k7,k8,k9,ka,kb,kc,kd,ke,kf] i).d]:=hx.three
   have ht2:ob.cs.drop off=u32C (spN [k0,k1,k2,k3,k4,k5,k6,k7,k8,k9,ka,kb,kc,kd,ke,kf] i).b::u32C (spN [k0,k1,k2,k3,k4,k5,k6,k7,k8,k9,ka,kb,kc,kd,ke,kf] i).c::u32C (spN [k0,k1,k2,k3,k4,k5,k6,k7,k8,k9,ka,kb,kc,kd,ke,kf] i).d::(ob.cs.drop off).drop 3:=by
    conv=>lhs;rw [←List.take_append_drop 3 (ob.cs.drop off),ht]
    rfl
   clear hg
   conv=>whnf
   refine ⟨⟨by decide,by show (0:Int)<((3:Nat):Int);decide⟩,?_⟩
   conv=>whnf
   ((conv in (_[_]?)=>tactic=>exact h1);(conv=>whnf))
   ((conv in (dropN _ _)=>tactic=>exact ((za2 _ _).trans ht2));(conv=>whnf))
   refine cP (c260 _ _) ?_
   conv=>whnf
   refine cP (c260 _ _) ?_
   conv=>whnf
   refine ⟨⟨by decide,by show (1:Int)≤((3:Nat):Int);decide,by show ((3:Nat):Int)≤((3:Nat):Int);decide⟩,fun _=>?_,fun h=>absurd (show (1:Int)<((3:Nat):Int) by decide) h⟩
   conv=>whnf
   ((conv in (_[_]?)=>tactic=>exact h1);(conv=>whnf))
   have hr1:off+cap≤ob.cs.length:=hx.room
   have hr2:3≤cap:=hx.cap
   have hlid:H.length≤lid:=hx.new
   have hlen:H.length≤K.length:=hx.len
   refine ⟨⟨by decide,rfl,rfl,by show off+1+2≤ob.cs.length;omega⟩,fun h4=>?_,fun h4 cap' hc=>?_⟩
   ·have h4:3≤cap - 1:=h4
    refine ⟨by show off+1+3≤ob.cs.length;omega,?_⟩
    conv=>whnf
    refine ⟨⟨i+1,kv+1,lid,off+1,cap - 1,⟨ob.T,zaa (off+1+2) [u32C (spN [k0,k1,k2,k3,k4,k5,k6,k7,k8,k9,ka,kb,kc,kd,ke,kf] (i+1)).d] ob.cs,ob.ver+1⟩,K1.set lid ⟨ob.T,zaa (off+1+2) [u32C (spN [k0,k1,k2,k3,k4,k5,k6,k7,k8,k9,ka,kb,kc,kd,ke,kf] (i+1)).d] ob.cs,ob.ver+1⟩⟩,⟨by show i+1≤27;omega,by rw [zqj hx.ne];exact hk1,hx.ne,hx.new,gS h1,slide ob.cs off _ _ _ _ ht2 (by omega) _,?_,by show 3≤cap - 1;omega,by show H.length≤(K1.set lid _).length;rw [List.length_set];omega,fun j hj hjk=>?_⟩,⟨rfl,rfl,rfl,?_,zqv⟩,rfl,by show 27 - (i+1)<27 - i;omega⟩
    ·show off+1+(cap - 1)≤(zaa _ _ _).length
     rw [zl5 _ _ _ (by show off+1+2+1≤_;omega)];omega
    ·rw [zqj (by omega),hK1,zqj (Ne.symm hjk)]
     exact hx.fr j hj hjk
    ·show PV.int _ (IntKind.i64.wrap ((i:Int)+1))=PV.int _ _
     rw [w64 (by omega) (by omega)];simp
   ·have hc:3≤cap':=hc
    conv=>whnf
    have ht3:ob.cs.drop (off+1)=u32C (spN [k0,k1,k2,k3,k4,k5,k6,k7,k8,k9,ka,kb,kc,kd,ke,kf] i).c::u32C (spN [k0,k1,k2,k3,k4,k5,k6,k7,k8,k9,ka,kb,kc,kd,ke,kf] i).d::(ob.cs.drop off).drop 3:=by
     rw [←List.drop_drop,ht2];rfl
    have hcell:((ob.cs.drop (off+1)).take 2).map dem=[u32C (spN [k0,k1,k2,k3,k4,k5,k6,k7,k8,k9,ka,kb,kc,kd,ke,kf] i).c,u32C (spN [k0,k1,k2,k3,k4,k5,k6,k7,k8,k9,ka,kb,kc,kd,ke,kf] i).d]:=by rw [ht3];rfl
    refine ⟨⟨i+1,kv+1,K1.length,0,cap',⟨230,((ob.cs.drop (off+1)).take 2).map dem++[u32C (spN [k0,k1,k2,k3,k4,k5,k6,k7,k8,k9,ka,kb,kc,kd,ke,kf] (i+1)).d]++zal [PV.int .u32 0] (cap' - 3),0⟩,K1++[⟨230,((ob.cs.drop (off+1)).take 2).map dem++[u32C (spN [k0,k1,k2,k3,k4,k5,k6,k7,k8,k9,ka,kb,kc,kd,ke,kf] (i+1)).d]++zal [PV.int .u32 0] (cap' - 3),0⟩]⟩,⟨by show i+1≤27;omega,by rw [zq2 (zq1.1 hk1).1];exact hk1,by show K1.length≠kid;omega,by show H.length≤K1.length;omega,gL K1 _,?_,?_,hc,by show H.length≤(K1++[_]).length;rw [zqf];omega,fun j hj hjk=>?_⟩,⟨rfl,rfl,rfl,?_,zqv⟩,rfl,by show 27 - (i+1)<27 - i;omega⟩
    ·rw [hcell];rfl
    ·show 0+cap'≤(((ob.cs.drop (off+1)).take 2).map dem++[u32C (spN [k0,k1,k2,k3,k4,k5,k6,k7,k8,k9,ka,kb,kc,kd,ke,kf] (i+1)).d]++zal [PV.int .u32 0] (cap' - 3)).length
     rw [hcell,zqf,(zcl (z:=[PV.int .u32 0]) (sz:=1) rfl (by omega) (cap' - 3)).1]
     show 0+cap'≤3+(cap' - 3)*1
     omega
    ·rw [zq2 (by omega),hK1,zqj (Ne.symm hjk)]
     exact hx.fr j hj hjk
    ·show PV.int _ (IntKind.i64.wrap ((i:Int)+1))=PV.int _ _
     rw [w64 (by omega) (by omega)];simp
  ·have h:¬(i:Int)<27:=h
   have e:i=27:=by omega
   subst e
   have hspl:spL [k0,k1,k2,k3,k4,k5,k6,k7,k8,k9,ka,kb,kc,kd,ke,kf] l 27=spW [k0,k1,k2,k3,k4,k5,k6,k7,k8,k9,ka,kb,kc,kd,ke,kf]:=by
    unfold spL spW
    rw [List.drop_of_length_le (by omega),List.append_nil]
   rw [hspl] at hKk
   conv=>whnf
   refine cO (c279 (o:=keyO [k0,k1,k2,k3,k4,k5,k6,k7,k8,k9,ka,kb,kc,kd,ke,kf] d m s (spW [k0,k1,k2,k3,k4,k5,k6,k7,k8,k9,ka,kb,kc,kd,ke,kf]) md kv) (n:=md) hKk rfl) ?_
   rintro _ _ ⟨rfl,rfl⟩
   conv=>whnf
   exact ⟨rfl,K,kv,hKk,hx.len,hx.fr,rfl⟩
 | j+17,hj=>exact absurd hj (by omega)
set_option maxHeartbeats 1000000
theorem zlk (k:List UInt8) (d m s:Int) (l:List Int) (md:Int) (v:Nat):∀c∈(keyO k d m s l md v).cs,flatP c=true:=by
 intro c hc
 simp only [keyO,List.mem_append,List.mem_map,List.mem_cons,List.not_mem_nil,or_false] at hc
 rcases hc with ((⟨b,_,rfl⟩ | rfl | rfl | rfl) | ⟨x,_,rfl⟩) | rfl <;> rfl
theorem ztu {H K:PH} {kid:Nat} {o:PObj} (hlt:kid<H.length) (hl:H.length≤K.length) (hf:∀j,j<H.length→j≠kid→K[j]? = H[j]?):K.set kid o=H.set kid o++K.drop H.length:=by
 apply List.ext_getElem?
 intro j
 by_cases h:j<H.length
 ·rw [zq2 (by rw [List.length_set];exact h)]
  by_cases e:j=kid
  ·subst e
   rw [List.getElem?_set_self (by omega),List.getElem?_set_self h]
  ·rw [zqj (Ne.symm e),zqj (Ne.symm e)]
   exact hf j h e
 ·rw [zqi (by rw [List.length_set];omega),List.length_set,zqt,zqj (by omega)]
  congr 1;omega
theorem c271 (k:List UInt8) (hk:k.length=16) (d m s md:Int) (l:List Int) (hl:l.length=27) (v kid:Nat) (H:PH) (hid:H[kid]? = some (keyO k d m s l md v)) :
  CK prog 271 [.ptr (some (kid,0))] H fun r H'=>r=.tup []∧∃v',H'=H.set kid (keyO k d m s (spW k) 1 v'):=by
 have hlt:kid<H.length:=(zq1.1 hid).1
 refine CK.gcK (c271x k hk d m s md l hl v kid H hid) fun r H' hh=>?_
 obtain ⟨rfl,K,kv,h1,h2,h3,rfl⟩:=hh
 exact ⟨rfl,H.set kid (keyO k d m s (spW k) 1 (kv+1)),_,ztu hlt h2 h3,zoj hlt fun c hc=>.inl (zlk _ _ _ _ _ _ _ c hc),rfl,_,rfl⟩
def zjo:Prop:=∀(k:List UInt8) (hk:k.length=16) (kid:Nat) (H:PH),(∃v,H[kid]? = some (keyO k 0 0 0 (List.replicate 27 0) 0 v))∨(∃v,H[kid]? = some (keyO k 1 0 0 (spW k) 1 v)) →
 CK prog 259 [.ptr (some (kid,0))] H fun r H'=>r=.sref kid 19 27 27∧∃v',H'=H.set kid (keyO k 1 0 0 (spW k) 1 v')
def spR (w:Int) (p:Int×Int):Int×Int:=(xor32 (add32 (rot32 p.1 (-8)) p.2) w,xor32 (rot32 p.2 3) (xor32 (add32 (rot32 p.1 (-8)) p.2) w))
def spB (ws:List Int) (p:Int×Int):Int×Int:=ws.foldl (fun p w=>spR w p) p
theorem zo6 (ws:List Int) (w:Int) (p:Int×Int):spB (ws++[w]) p=spR w (spB ws p):=by unfold spB;rw [List.foldl_append];rfl
theorem ze2 (k:List UInt8):(spW k).length=27:=by unfold spW;simp
theorem c242 (hw:zjo) (k:List UInt8) (hk:k.length=16) (kid:Nat) (H:PH) (h0:(∃v,H[kid]? = some (keyO k 0 0 0 (List.replicate 27 0) 0 v))∨(∃v,H[kid]? = some (keyO k 1 0 0 (spW k) 1 v))) (x y:Int) :
  CK prog 242 [.ptr (some (kid,0)),.int .u32 x,.int .u32 y] H fun r H'=>r=.tup [.int .u32 (spB (spW k) (x,y)).1,.int .u32 (spB (spW k) (x,y)).2]∧∃v',H'=H.set kid (keyO k 1 0 0 (spW k) 1 v'):=by
 have hlt:kid<H.length:=by
  rcases h0 with ⟨v,h⟩ | ⟨v,h⟩ <;> exact (zq1.1 h).1
 (refine fnS (imm:=z2q) zfl func242 ?_;(conv=>whnf))
 refine cO (hw k hk kid H h0) ?_
 rintro _ _ ⟨rfl,v',rfl⟩
 have hK:(H.set kid (keyO k 1 0 0 (spW k) 1 v'))[kid]? = some (keyO k 1 0 0 (spW k) 1 v'):=List.getElem?_set_self hlt
 generalize hKK:H.set kid (keyO k 1 0 0 (spW k) 1 v')=K at hK
 conv=>whnf
 refine lO Nat (fun i=>[(13,.sref kid 19 27 27),(14,.int .i64 27),(15,.int .i64 i),(1,.int .u32 (spB ((spW k).take i) (x,y)).1),(2,.int .u32 (spB ((spW k).take i) (x,y)).2)]) (fun _=>K) (fun i=>i≤27) (fun i=>27 - i) ⟨0,Nat.zero_le _,⟨rfl,rfl,rfl,rfl,rfl,zqv⟩,rfl⟩ ?_
 intro i hi
 conv=>whnf
 refine ⟨fun h=>?_,fun h=>?_⟩
 ·have h:(i:Int)<27:=h
  have hi':i<(spW k).length:=by rw [ze2];omega
  conv=>whnf
  refine ⟨⟨by omega,by show (i:Int)<((27:Nat):Int);exact h⟩,?_⟩
  conv=>whnf
  ((conv in (_[_]?)=>tactic=>exact hK);(conv=>whnf))
  have hd:dropN (19+(i:Int).toNat*1) (keyO k 1 0 0 (spW k) 1 v').cs=u32C (spW k)[i]::(((spW k).drop (i+1)).map u32C++[u32C 1]):=by
   rw [za2]
   show ((k.map bC++[PV.int .u32 1,PV.int .i32 0,PV.int .u32 0])++(spW k).map u32C++[PV.int .u32 1]).drop _=_
   have e:19+(i:Int).toNat*1=(k.map bC++[PV.int .u32 1,PV.int .i32 0,PV.int .u32 0]).length+i:=by simp [hk]
   rw [e,List.append_assoc,List.drop_length_add_append,List.drop_append_of_le_length (by rw [zqq];omega),←List.map_drop,List.drop_eq_getElem_cons hi']
   rfl
  ((conv in (dropN _ _)=>tactic=>exact hd);(conv=>whnf))
  refine cP (c260 _ _) ?_
  conv=>whnf
  refine cP (c260 _ _) ?_
  conv=>whnf
  have et:spB ((spW k).take (i+1)) (x,y)=spR (spW k)[i] (spB ((spW k).take i) (x,y)):=by rw [List.take_succ_eq_append_getElem hi',zo6]
  refine ⟨i+1,by omega,⟨rfl,rfl,?_,?_,?_,zqv⟩,rfl,by omega⟩
  ·show PV.int _ (IntKind.i64.wrap ((i:Int)+1))=PV.int _ _
   rw [w64 (by omega) (by omega)];simp
  ·rw [et];rfl
  ·rw [et];rfl
 ·have h:¬(i:Int)<27:=h
  have e:(spW k).take i=spW k:=List.take_of_length_le (by rw [ze2];omega)
  rw [e]
  conv=>whnf
  exact ⟨rfl,v',hKK.symm⟩
end Go.Proofs.Tryz
