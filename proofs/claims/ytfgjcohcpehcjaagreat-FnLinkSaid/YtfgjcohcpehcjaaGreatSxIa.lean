import Derived.Test.YtfgjcohcpehcjaaGreatPsZa
import Derived.Test.YtfgjcohcpehcjaaGreatProg
namespace Go.Proofs.YtfgjcohcpehcjaaGreat.S
open Go.Ps
set_option linter.unusedVariables false
set_option maxRecDepth 100000
set_option maxHeartbeats 0
abbrev Y0:Ty:=(.pair (.int .i64) (.pair (.int .i64) (.int .i64)))
abbrev Y1:Ty:=(.pair .str (.pair (.int .i64) (.pair (.int .i64) (.pair (.int .i64) (.pair (.int .i64) (.int .i64))))))
abbrev Y2:Ty:=(.pair .str (.pair .bool (.pair (.int .i64) .str)))
abbrev Y3:Ty:=(.pair (.int .i64) (.pair (.int .i64) (.pair (.int .i64) (.pair (.int .i64) (.int .i64)))))
abbrev Y4:Ty:=(.pair .str (.pair (.int .i64) (.pair (.int .i64) (.pair (.int .i64) (.int .i64)))))
abbrev Y5:Ty:=(.pair (.int .i64) (.pair (.int .i64) (.pair (.int .i64) (.pair .str (.int .i64)))))
abbrev D0:Type:=Int×Int×Int×Int×Int
abbrev Y6:Ty:=(.pair .str (.pair .str (.list Y4)))
abbrev Y7:Ty:=(.pair (.list (.int .u8)) (.pair (.int .i64) (.int .i64)))
abbrev Y8:Ty:=(.pair .str (.pair (.int .i64) (.pair (.list Y2) (.pair (.list (.pair .str .str)) (.pair (.list Y5) (.list (.pair (.int .i64) .bool)))))))
abbrev Y9:Ty:=(.pair (.list (.int .i64)) (.pair (.list .str) (.pair (.list (.int .i64)) (.list .str))))
abbrev n6:Ty:=(.pair Y9 (.pair (.list Y1) (.pair .str (.pair (.int .i64) (.pair (.list Y2) (.pair (.list (.pair .str .str)) (.pair (.list Y5) (.list (.pair (.int .i64) .bool)))))))))
abbrev HA:Ty:=(.pair (.int .i64) (.pair (.int .i64) (.pair (.int .i64) (.int .i64))))
abbrev Gk:Ty:=(.pair (.list Y3) (.pair (.int .i64) (.pair (.int .i64) (.pair (.list (.int .i64)) (.list (.int .i64))))))
abbrev D1:Type:=ByteArray×Int×Int×Int×Int×Int
abbrev D2:Type:=List Int×Int×Int
abbrev D3:Type:=ByteArray×Int×Int×Int×Int
abbrev D4:Type:=ByteArray×ByteArray×List D3
abbrev D5:Type:=Int×List Int×Int×Int
abbrev D6:Type:=List D0×List Int×Int×Int
abbrev D7:Type:=Int×Int×Int×Int
abbrev D8:Type:=D4×List Int×Int×Int
abbrev D9:Type:=List D1×List Int×Int×Int
abbrev I2:Type:=Bool×List Int×Int×Int
abbrev ID:Type:=ByteArray×List Int×Int×Int
abbrev sX:Type:=Int×Int×Int×ByteArray×Int
abbrev nK:Type:=ByteArray×Bool×Int×ByteArray
abbrev pR:Type:=ByteArray×ByteArray
abbrev bA:Type:=ByteArray×Int×List nK×List pR×List sX×List (Int×Bool)
abbrev Dp:Type:=bA×List Int×Int×Int
abbrev cW:Type:=List Int×List ByteArray×List Int×List ByteArray
abbrev ma:Type:=cW×List D1×ByteArray×Int×List nK×List pR×List sX×List (Int×Bool)
abbrev IE:Type:=(Int×Int×Int)×Int×Bool
abbrev I3:Type:=Bool×Bool×Bool
abbrev I4:Type:=Int×cW×List D1×ByteArray×Int×List nK×List pR×List sX×List (Int×Bool)
abbrev IW:Type:=List D0×Int×Bool
abbrev DI:Type:=List D0×Int×Int×List Int×List Int
abbrev Ci:Type:=cW×(Int×Int×Int)×(Int×Int×Int)×Int
abbrev IF:Type:=cW×(Int×Int×Int)×(Int×Int×Int)×Bool
abbrev I5:Type:=(Int×Int×Int)×Int×Int
noncomputable def tis:List (Nat×TI):=[
 (3,⟨.scalar,1,8,[.int .i64 0],(.int .i64),false⟩),
 (4,⟨.scalar,1,1,[.bool false],.bool,false⟩),
 (5,⟨.scalar,1,1,[.int .u8 0],(.int .u8),false⟩),
 (9,⟨.scalar,1,16,[.str (⟨#[]⟩:ByteArray)],.str,false⟩),
 (22,⟨(.slice 5),1,24,[.nils],(.list (.int .u8)),false⟩),
 (23,⟨(.slice 47),1,24,[.nils],(.list Y1),false⟩),
 (25,⟨(.slice 53),1,24,[.nils],(.list Y2),false⟩),
 (26,⟨(.slice 67),1,24,[.nils],(.list (.pair .str .str)),false⟩),
 (27,⟨(.slice 69),1,24,[.nils],(.list Y5),false⟩),
 (28,⟨(.slice 128),1,24,[.nils],(.list (.pair (.int .i64) .bool)),false⟩),
 (30,⟨(.struct [(0,1),(1,1),(2,1),(3,1),(4,1),(5,1)] [false,false,false,false,false,false] []),6,120,[.str (⟨#[]⟩:ByteArray),.int .i64 0,.nils,.nils,.nils,.nils],Y8,false⟩),
 (34,⟨(.struct [(0,1),(1,1),(2,1)] [false,false,false] []),3,24,[.int .i64 0,.int .i64 0,.int .i64 0],Y0,true⟩),
 (35,⟨(.slice 3),1,24,[.nils],(.list (.int .i64)),false⟩),
 (36,⟨(.slice 9),1,24,[.nils],(.list .str),false⟩),
 (38,⟨(.struct [(0,1),(1,1),(2,1),(3,1)] [false,false,false,false] []),4,96,[.nils,.nils,.nils,.nils],Y9,false⟩),
 (47,⟨(.struct [(0,1),(1,1),(2,1),(3,1),(4,1),(5,1)] [false,false,false,false,false,false] []),6,56,[.str (⟨#[]⟩:ByteArray),.int .i64 0,.int .i64 0,.int .i64 0,.int .i64 0,.int .i64 0],Y1,true⟩),
 (53,⟨(.struct [(0,1),(1,1),(2,1),(3,1)] [false,false,false,false] []),4,48,[.str (⟨#[]⟩:ByteArray),.bool false,.int .i64 0,.str (⟨#[]⟩:ByteArray)],Y2,false⟩),
 (62,⟨(.struct [(0,4),(4,1),(5,6)] [true,false,true] []),11,240,[.nils,.nils,.nils,.nils,.nils,.str (⟨#[]⟩:ByteArray),.int .i64 0,.nils,.nils,.nils,.nils],n6,false⟩),
 (67,⟨(.struct [(0,1),(1,1)] [false,false] []),2,32,[.str (⟨#[]⟩:ByteArray),.str (⟨#[]⟩:ByteArray)],(.pair .str .str),false⟩),
 (69,⟨(.struct [(0,1),(1,1),(2,1),(3,1),(4,1)] [false,false,false,false,false] []),5,48,[.int .i64 0,.int .i64 0,.int .i64 0,.str (⟨#[]⟩:ByteArray),.int .i64 0],Y5,false⟩),
 (81,⟨(.struct [(0,1),(1,1),(2,1)] [false,false,false] []),3,40,[.nils,.int .i64 0,.int .i64 0],Y7,false⟩),
 (83,⟨(.slice 116),1,24,[.nils],(.list Y4),false⟩),
 (85,⟨(.struct [(0,1),(1,1),(2,1)] [false,false,false] []),3,56,[.str (⟨#[]⟩:ByteArray),.str (⟨#[]⟩:ByteArray),.nils],Y6,false⟩),
 (97,⟨(.slice 102),1,24,[.nils],(.list Y3),false⟩),
 (102,⟨(.struct [(0,1),(1,1),(2,1),(3,1),(4,1)] [false,false,false,false,false] []),5,40,[.int .i64 0,.int .i64 0,.int .i64 0,.int .i64 0,.int .i64 0],Y3,true⟩),
 (105,⟨(.struct [(0,1),(1,1),(2,1),(3,1),(4,1)] [false,false,false,false,false] []),5,88,[.nils,.int .i64 0,.int .i64 0,.nils,.nils],Gk,false⟩),
 (116,⟨(.struct [(0,1),(1,1),(2,1),(3,1),(4,1)] [false,false,false,false,false] []),5,48,[.str (⟨#[]⟩:ByteArray),.int .i64 0,.int .i64 0,.int .i64 0,.int .i64 0],Y4,false⟩),
 (118,⟨(.slice 97),1,24,[.nils],(.list (.list Y3)),false⟩),
 (128,⟨(.struct [(0,1),(1,1)] [false,false] []),2,16,[.int .i64 0,.bool false],(.pair (.int .i64) .bool),false⟩),
 (130,⟨.scalar,1,8,[.int .u64 0],(.int .u64),false⟩),
 (136,⟨(.struct [(0,1),(1,1),(2,1),(3,1)] [false,false,false,false] []),4,32,[.int .i64 0,.int .i64 0,.int .i64 0,.int .i64 0],HA,false⟩),
 (148,⟨.scalar,1,8,[.int .u64 0],(.int .u64),false⟩),
 (150,⟨(.slice 153),1,24,[.nils],(.list Y4),false⟩),
 (153,⟨(.struct [(0,1),(1,4)] [false,true] []),5,48,[.str (⟨#[]⟩:ByteArray),.int .i64 0,.int .i64 0,.int .i64 0,.int .i64 0],Y4,false⟩),
 (155,⟨(.slice 158),1,24,[.nils],(.list Y0),false⟩),
 (158,⟨(.struct [(0,1),(1,1),(2,1)] [false,false,false] []),3,24,[.int .i64 0,.int .i64 0,.int .i64 0],Y0,false⟩)]
noncomputable def fns:List (Nat×Func):=[(3,Tryz.f3),(4,Tryz.f4),(5,Tryz.f5),(6,Tryz.f6),(7,Tryz.f7),(8,Tryz.f8),(9,Tryz.f9),(10,Tryz.f10),(11,Tryz.f11),(12,Tryz.f12),(13,Tryz.f13),(14,Tryz.f14),(15,Tryz.f15),(16,Tryz.f16),(17,Tryz.f17),(18,Tryz.f18),(19,Tryz.f19),(20,Tryz.f20),(21,Tryz.f21),(22,Tryz.f22),(23,Tryz.f23),(24,Tryz.f24),(25,Tryz.f25),(26,Tryz.f26),(27,Tryz.f27),(28,Tryz.f28),(29,Tryz.f29),(30,Tryz.f30),(31,Tryz.f31),(32,Tryz.f32),(33,Tryz.f33),(34,Tryz.f34),(35,Tryz.f35),(36,Tryz.f36),(37,Tryz.f37),(38,Tryz.f38),(39,Tryz.f39),(40,Tryz.f40),(41,Tryz.f41),(42,Tryz.f42),(43,Tryz.f43),(44,Tryz.f44),(45,Tryz.f45),(46,Tryz.f46),(47,Tryz.f47),(48,Tryz.f48),(49,Tryz.f49),(50,Tryz.f50),(51,Tryz.f51),(52,Tryz.f52),(53,Tryz.f53),(54,Tryz.f54),(55,Tryz.f55),(56,Tryz.f56),(57,Tryz.f57),(58,Tryz.f58),(59,Tryz.f59),(60,Tryz.f60),(61,Tryz.f61),(62,Tryz.f62),(63,Tryz.f63),(64,Tryz.f64),(65,Tryz.f65),(66,Tryz.f66),(67,Tryz.f67),(68,Tryz.f68),(69,Tryz.f69),(70,Tryz.f70),(71,Tryz.f71),(72,Tryz.f72),(73,Tryz.f73),(74,Tryz.f74),(75,Tryz.f75),(76,Tryz.f76),(77,Tryz.f77),(78,Tryz.f78),(79,Tryz.f79),(80,Tryz.f80),(81,Tryz.f81),(82,Tryz.f82),(83,Tryz.f83),(84,Tryz.f84),(85,Tryz.f85),(86,Tryz.f86),(87,Tryz.f87),(88,Tryz.f88),(89,Tryz.f89),(90,Tryz.f90),(91,Tryz.f91),(92,Tryz.f92),(93,Tryz.f93),(94,Tryz.f94),(95,Tryz.f95),(96,Tryz.f96),(97,Tryz.f97),(98,Tryz.f98),(99,Tryz.f99),(100,Tryz.f100),(101,Tryz.f101),(102,Tryz.f102),(103,Tryz.f103),(104,Tryz.f104),(105,Tryz.f105),(106,Tryz.f106),(107,Tryz.f107),(108,Tryz.f108),(109,Tryz.f109),(110,Tryz.f110),(111,Tryz.f111),(112,Tryz.f112),(113,Tryz.f113),(114,Tryz.f114),(115,Tryz.f115),(116,Tryz.f116),(117,Tryz.f117),(118,Tryz.f118),(119,Tryz.f119),(120,Tryz.f120),(121,Tryz.f121),(122,Tryz.f122),(123,Tryz.f123),(124,Tryz.f124),(125,Tryz.f125),(126,Tryz.f126),(127,Tryz.f127),(128,Tryz.f128),(129,Tryz.f129),(130,Tryz.f130),(131,Tryz.f131),(132,Tryz.f132),(133,Tryz.f133),(134,Tryz.f134),(135,Tryz.f135),(136,Tryz.f136),(137,Tryz.f137),(138,Tryz.f138),(139,Tryz.f139),(140,Tryz.f140),(141,Tryz.f141),(142,Tryz.f142),(143,Tryz.f143),(144,Tryz.f144),(145,Tryz.f145),(146,Tryz.f146),(147,Tryz.f147),(148,Tryz.f148),(149,Tryz.f149),(150,Tryz.f150),(151,Tryz.f151),(152,Tryz.f152)]
noncomputable def sigs:List (Nat×ki):=[
 (3,⟨[.val (.list (.int .u8)),.val (.list (.int .u8))],[(.bool,false)],[.no]⟩),
 (4,⟨[.val (.list (.int .u8))],[((.list Y1),false)],[(.own 47 .no)]⟩),
 (5,⟨[.val (.list (.int .u8)),.val (.list Y1)],[(Y8,true)],[(.pair .no (.pair .no (.pair (.own 53 .no) (.pair (.own 67 .no) (.pair .no (.own 128 .no))))))]⟩),
 (6,⟨[.val (.list (.int .u8)),.val (.int .i64),.val (.int .i64)],[((.int .i64),false)],[.no]⟩),
 (7,⟨[.val (.list Y1),.val Y0,.val Y0,.val Y8],[(Y9,true),(Y0,true),(Y0,true),((.int .i64),false)],[(.pair (.own 3 .no) (.pair (.own 9 .no) (.pair (.own 3 .no) (.own 9 .no)))),.no,.no,.no]⟩),
 (8,⟨[.val (.list Y1),.val Y0,.val Y0,.val Y8],[(Y9,true),(Y0,true),(Y0,true),((.int .i64),false)],[.no,.no,.no,.no]⟩),
 (9,⟨[.val Y9,.val Y9],[(.bool,false)],[.no]⟩),
 (10,⟨[.val (.list Y1)],[(.bool,false)],[.no]⟩),
 (11,⟨[.val Y0],[(.bool,false)],[.no]⟩),
 (12,⟨[.val (.list Y1),.val Y8,.val Y9,.val (.int .i64)],[((.list Y1),false),((.int .i64),false)],[(.own 47 .no),.no]⟩),
 (13,⟨[.val (.list Y1),.val Y8,.val Y9,.val (.int .i64)],[((.list Y1),false),((.int .i64),false)],[(.own 47 .no),.no]⟩),
 (14,⟨[.val Y0,.val (.int .i64)],[(Y0,true),((.int .i64),false),((.int .i64),false)],[.no,.no,.no]⟩),
 (15,⟨[.val .str,.val (.int .i64),.val (.int .i64),.val (.list (.int .i64))],[((.int .i64),false),((.int .i64),false)],[.no,.no]⟩),
 (16,⟨[.val (.list (.int .u8))],[((.opt Y7),false)],[.box]⟩),
 (17,⟨[.var Y7 .no],[((.list Y1),false)],[(.own 47 .no)]⟩),
 (18,⟨[.var Y7 .no,.val (.list Y1),.val (.int .i64)],[(Y8,true)],[(.pair .no (.pair .no (.pair (.own 53 .no) (.pair (.own 67 .no) (.pair .no (.own 128 .no))))))]⟩),
 (19,⟨[.val Y8],[(.bool,false)],[.no]⟩),
 (20,⟨[.ro n6],[((.int .i64),false)],[.no]⟩),
 (21,⟨[.val Y0,.val (.int .i64)],[(Y0,true),((.int .i64),false),(.bool,false)],[.no,.no,.no]⟩),
 (22,⟨[.var n6 (.pair (.pair (.own 3 .no) (.pair (.own 9 .no) (.pair (.own 3 .no) (.own 9 .no)))) .no),.val Y5],[((.int .i64),false)],[.no]⟩),
 (23,⟨[.val .str,.val (.int .i64),.val (.int .i64),.val (.list (.int .i64))],[((.int .i64),false),((.int .i64),false)],[.no,.no]⟩),
 (24,⟨[.ro n6],[((.list (.int .i64)),false)],[(.own 3 .no)]⟩),
 (25,⟨[.val (.list Y1)],[(.bool,false)],[.no]⟩),
 (26,⟨[.val Y0],[(.bool,false)],[.no]⟩),
 (27,⟨[.val Y8],[(.bool,false)],[.no]⟩),
 (28,⟨[.val (.list Y1),.val Y0,.val Y0,.val Y8],[(Y9,true),(Y0,true),(Y0,true),((.int .i64),false)],[.no,.no,.no,.no]⟩),
 (29,⟨[.val (.list (.int .i64)),.val (.list (.int .i64))],[(.bool,false)],[.no]⟩),
 (30,⟨[.val (.list .str),.val (.list .str)],[(.bool,false)],[.no]⟩),
 (31,⟨[.val Y1],[(.bool,false)],[.no]⟩),
 (32,⟨[.val (.list Y1),.val .str],[((.int .i64),false)],[.no]⟩),
 (33,⟨[.val (.int .i64),.val (.int .i64),.val (.int .i64)],[(.bool,false)],[.no]⟩),
 (34,⟨[.val Y9,.val Y8],[(.bool,false)],[.no]⟩),
 (35,⟨[.val (.list Y1),.val Y8,.val Y9,.val (.int .i64)],[((.list Y1),false)],[(.own 47 .no)]⟩),
 (36,⟨[.val Y8,.val Y9],[(.bool,false)],[.no]⟩),
 (37,⟨[.val (.int .i64),.val (.int .i64),.val (.int .i64)],[(.bool,false)],[.no]⟩),
 (38,⟨[.val (.list Y1),.val Y8,.val Y9,.val (.int .i64)],[((.list Y1),false)],[(.own 47 .no)]⟩),
 (39,⟨[.val .str],[(.bool,false)],[.no]⟩),
 (40,⟨[.val Y6],[((.list Y1),false)],[(.own 47 .no)]⟩),
 (41,⟨[.var Y7 .no],[(Y6,true)],[(.pair .no (.pair .no (.own 116 .no)))]⟩),
 (42,⟨[.var Y7 .no,.val (.int .i64)],[(.bool,false)],[.no]⟩),
 (43,⟨[.var Y7 .no,.val (.int .i64),.val (.list .str),.val (.list .str)],[(Y8,true)],[(.pair .no (.pair .no (.pair (.own 53 .no) (.pair (.own 67 .no) (.pair (.own 69 .no) (.own 128 .no))))))]⟩),
 (44,⟨[.var Y7 .no,.val (.int .i64)],[((.int .i64),false)],[.no]⟩),
 (45,⟨[.val Y8],[((.int .i64),false),((.int .i64),false)],[.no,.no]⟩),
 (46,⟨[.ro n6,.val .str],[((.int .i64),false),(.bool,false)],[.no,.no]⟩),
 (47,⟨[.val .str,.val (.int .i64),.val .str],[(.str,false)],[.no]⟩),
 (48,⟨[.val (.int .i64),.val (.int .i64)],[(.str,false)],[.no]⟩),
 (49,⟨[.val (.int .i64),.val (.int .i64),.val (.int .i64),.val (.int .i64)],[((.int .i64),false),((.int .i64),false)],[.no,.no]⟩),
 (50,⟨[.val .str],[((.int .i64),false)],[.no]⟩),
 (51,⟨[.val (.int .i64)],[(.bool,false)],[.no]⟩),
 (52,⟨[.val (.int .i64)],[(.bool,false)],[.no]⟩),
 (53,⟨[.val .str],[(.bool,false)],[.no]⟩),
 (54,⟨[.val .str],[((.list Y3),false),((.int .i64),false),(.bool,false)],[(.own 102 .no),.no,.no]⟩),
 (55,⟨[.val (.int .i64)],[((.list Y3),false)],[(.own 102 .no)]⟩),
 (56,⟨[.val (.list Y3),.val (.list Y3)],[(.bool,false)],[.no]⟩),
 (57,⟨[.val (.int .i64)],[((.list Y3),false)],[(.own 102 .no)]⟩),
 (58,⟨[.ro Gk,.val (.int .i64)],[((.int .i64),false)],[.no]⟩),
 (59,⟨[.val Y1],[(.bool,false)],[.no]⟩),
 (60,⟨[.val (.list Y1),.val .str],[((.int .i64),false)],[.no]⟩),
 (61,⟨[.val Y8],[((.int .i64),false),((.int .i64),false)],[.no,.no]⟩),
 (62,⟨[.val (.list Y1),.val Y8],[((.int .i64),false)],[.no]⟩),
 (63,⟨[.val Y0,.val Y0,.val Y8],[(Y9,true),(Y0,true),(Y0,true),(.bool,false)],[(.pair (.own 3 .no) (.pair (.own 9 .no) (.pair (.own 3 .no) (.own 9 .no)))),.no,.no,.no]⟩),
 (64,⟨[.val (.list Y1),.val Y8,.val Y9,.val Y5],[(Y9,true),((.int .i64),false)],[.no,.no]⟩),
 (65,⟨[.val .str,.val (.int .i64),.val (.int .i64),.val (.list (.int .i64))],[((.int .i64),false),((.int .i64),false)],[.no,.no]⟩),
 (66,⟨[.val .str],[(.bool,false)],[.no]⟩),
 (67,⟨[.val (.list Y1),.raw],[((.int .i64),false)],[.no]⟩),
 (68,⟨[.val Y1,.ro .str],[(.bool,false)],[.no]⟩),
 (69,⟨[.val (.list Y1)],[((.list Y1),false)],[(.own 47 .no)]⟩),
 (70,⟨[.val Y4],[((.int .i64),false)],[.no]⟩),
 (71,⟨[.var Y7 .no],[((.int .i64),false)],[.no]⟩),
 (72,⟨[.var Y7 .no,.val (.int .i64),.val (.int .i64),.val (.int .i64),.val (.list (.int .i64)),.val (.list (.int .i64))],[((.list Y3),false)],[(.own 102 .no)]⟩),
 (73,⟨[],[((.list .str),false)],[(.own 9 .no)]⟩),
 (74,⟨[.val (.list Y3)],[(.str,false)],[.no]⟩),
 (75,⟨[.val (.int .i64),.val (.int .i64)],[(.str,false)],[.no]⟩),
 (76,⟨[.var Y7 .no,.val (.list .str)],[(.str,false)],[.no]⟩),
 (77,⟨[.var Y7 .no,.val (.int .i64)],[(.str,false)],[.no]⟩),
 (78,⟨[.val (.list .str),.val .str],[(.bool,false)],[.no]⟩),
 (79,⟨[.val (.int .i64)],[((.list Y3),false)],[(.own 102 .no)]⟩),
 (80,⟨[.val .bool],[((.int .i64),false)],[.no]⟩),
 (81,⟨[.val (.list Y5)],[((.list Y5),false)],[(.own 69 .no)]⟩),
 (82,⟨[.var Y7 .no],[((.int .i64),false)],[.no]⟩),
 (83,⟨[.val Y8,.val .str,.val (.int .i64)],[((.int .i64),false)],[.no]⟩),
 (84,⟨[.val Y8,.val (.int .i64)],[((.int .i64),false)],[.no]⟩),
 (85,⟨[.val (.int .i64)],[(Y3,true),(.bool,false)],[.no,.no]⟩),
 (86,⟨[.val Y3,.val (.int .i64),.val (.int .i64),.val (.int .i64)],[((.int .i64),false),(.bool,false)],[.no,.no]⟩),
 (87,⟨[.val (.int .i64),.val (.int .i64)],[(.bool,false)],[.no]⟩),
 (88,⟨[.val (.int .i64)],[(HA,true)],[.no]⟩),
 (89,⟨[.val Y3],[((.int .i64),false)],[.no]⟩),
 (90,⟨[.val .str],[(.bool,false)],[.no]⟩),
 (91,⟨[.val (.list (.int .i64)),.val (.int .i64)],[(.bool,false)],[.no]⟩),
 (92,⟨[.ro Gk,.val (.int .i64)],[(.bool,false)],[.no]⟩),
 (93,⟨[.val (.int .i64)],[(.bool,false)],[.no]⟩),
 (94,⟨[.val (.int .i64)],[(.bool,false)],[.no]⟩),
 (95,⟨[.val (.int .i64)],[(.bool,false)],[.no]⟩),
 (96,⟨[.val (.int .i64)],[((.int .i64),false),(.bool,false)],[.no,.no]⟩),
 (97,⟨[.val .str],[(.bool,false)],[.no]⟩),
 (98,⟨[.val (.int .i64)],[(.bool,false)],[.no]⟩),
 (99,⟨[.val Y8],[((.int .i64),false),((.int .i64),false)],[.no,.no]⟩),
 (100,⟨[.val Y8],[((.int .i64),false),((.int .i64),false)],[.no,.no]⟩),
 (101,⟨[.val Y8],[((.int .i64),false),((.int .i64),false)],[.no,.no]⟩),
 (102,⟨[.val Y8],[((.int .i64),false),((.int .i64),false)],[.no,.no]⟩),
 (103,⟨[.val Y0,.val (.int .i64)],[(Y0,true),((.int .i64),false),(.bool,false)],[.no,.no,.no]⟩),
 (104,⟨[.val (.list Y1),.val Y8,.val Y9,.val .str],[((.int .i64),false),(.bool,false)],[.no,.no]⟩),
 (105,⟨[.val (.int .i64),.val (.int .i64),.val (.int .i64),.val (.int .i64)],[((.int .i64),false),((.int .i64),false)],[.no,.no]⟩),
 (106,⟨[.val .str,.val (.int .i64),.val (.int .i64)],[((.int .i64),false)],[.no]⟩),
 (107,⟨[.val .str],[(.bool,false)],[.no]⟩),
 (108,⟨[.val .str],[((.list Y3),false),((.int .i64),false)],[(.own 102 .no),.no]⟩),
 (109,⟨[.val (.int .i64)],[((.list Y3),false)],[(.own 102 .no)]⟩),
 (110,⟨[.val (.list Y3),.val (.int .i64),.val (.int .i64),.val (.int .i64),.val (.list (.int .i64))],[((.int .i64),false)],[.no]⟩),
 (111,⟨[.val (.int .u8)],[(.bool,false)],[.no]⟩),
 (112,⟨[.val (.int .u8)],[(.bool,false)],[.no]⟩),
 (113,⟨[.var Y7 .no,.val (.int .i64),.val (.int .i64),.val (.int .i64),.val (.list (.int .i64)),.val (.list (.int .i64))],[((.list Y3),false)],[(.own 102 .no)]⟩),
 (114,⟨[.val Y3],[((.int .i64),false)],[.no]⟩),
 (115,⟨[.val (.list (.int .i64)),.val (.list (.int .i64))],[(.bool,false)],[.no]⟩),
 (116,⟨[.val (.list .str),.val .str],[(.bool,false)],[.no]⟩),
 (117,⟨[.val Y8,.val (.int .i64)],[((.list .str),false)],[.no]⟩),
 (118,⟨[.val Y8],[((.list (.int .i64)),false)],[(.own 3 .no)]⟩),
 (119,⟨[],[((.list Y4),false)],[(.own 153 .no)]⟩),
 (120,⟨[.val (.int .i64),.val (.int .i64),.val (.int .i64)],[((.int .i64),false)],[.no]⟩),
 (121,⟨[.val (.int .i64)],[((.list Y0),false)],[(.own 158 .no)]⟩),
 (122,⟨[.val (.int .i64)],[((.int .i64),false)],[.no]⟩),
 (123,⟨[.val (.int .i64),.val (.int .i64)],[((.int .i64),false)],[.no]⟩),
 (124,⟨[.val (.int .i64)],[(.bool,false),(.bool,false),(.bool,false)],[.no,.no,.no]⟩),
 (125,⟨[.val (.int .i64)],[((.int .i64),false)],[.no]⟩),
 (126,⟨[.val (.int .i64)],[((.int .i64),false)],[.no]⟩),
 (127,⟨[.val Y3],[(.bool,false)],[.no]⟩),
 (128,⟨[.val (.list (.int .i64)),.val (.int .i64)],[((.int .i64),false)],[.no]⟩),
 (129,⟨[.val (.int .u8)],[(.bool,false)],[.no]⟩),
 (130,⟨[.val (.int .u8)],[(.bool,false)],[.no]⟩),
 (131,⟨[.val .str],[(.bool,false)],[.no]⟩),
 (132,⟨[.val Y8,.val (.int .i64)],[((.int .i64),false)],[.no]⟩),
 (133,⟨[.val (.int .i64)],[(Y3,true),(.bool,false)],[.no,.no]⟩),
 (134,⟨[.val Y3,.val (.int .i64)],[(.bool,false)],[.no]⟩),
 (135,⟨[.val (.int .i64),.val (.int .i64),.val (.int .i64)],[((.int .i64),false)],[.no]⟩),
 (136,⟨[.val Y3],[(.bool,false)],[.no]⟩),
 (137,⟨[.val (.int .i64)],[((.int .i64),false),(.bool,false)],[.no,.no]⟩),
 (138,⟨[.val (.list Y3),.val (.int .i64),.val (.int .i64)],[(.bool,false)],[.no]⟩),
 (139,⟨[.val (.list (.int .i64)),.val (.int .i64)],[(.bool,false)],[.no]⟩),
 (140,⟨[.val (.list Y3),.val (.int .i64),.val (.int .i64),.val (.int .i64)],[(.bool,false)],[.no]⟩),
 (141,⟨[.val (.int .i64)],[(HA,true)],[.no]⟩),
 (142,⟨[.var Y7 .no],[((.int .i64),false)],[.no]⟩),
 (143,⟨[.val (.int .i64),.val (.int .i64),.val (.int .i64),.val (.int .i64)],[((.int .i64),false)],[.no]⟩),
 (144,⟨[.val (.int .i64),.val (.int .i64)],[((.int .i64),false)],[.no]⟩),
 (145,⟨[.val (.list .str),.val .str],[((.int .i64),false)],[.no]⟩),
 (146,⟨[.val (.int .i64),.val (.int .i64)],[(Y3,true)],[.no]⟩),
 (147,⟨[.val (.int .i64)],[((.int .i64),false)],[.no]⟩),
 (148,⟨[.val (.int .i64)],[((.int .i64),false)],[.no]⟩),
 (149,⟨[.val (.int .i64)],[(.bool,false)],[.no]⟩),
 (150,⟨[.val (.int .i64)],[(.bool,false)],[.no]⟩),
 (151,⟨[.val (.int .i64),.val (.int .i64),.val (.int .i64)],[((.int .i64),false)],[.no]⟩),
 (152,⟨[.val (.int .i64),.val (.int .i64)],[((.int .i64),false)],[.no]⟩)]
noncomputable def loops:List (Nat×List (Nat×List (Nat×LK))):=[
 (3,[(21,[(6,.box Y8 .no),(7,.box Y0 .no),(9,.box Y9 (.pair (.own 3 .no) (.pair (.own 9 .no) (.pair (.own 3 .no) (.own 9 .no))))),(10,.box Y0 .no),(17,.val (.list Y1) (.own 47 .no)),(19,.val (.list Y1) (.own 47 .no)),(21,.val (.list (.int .i64)) (.own 3 .no)),(22,.val (.int .i64) .no)]),(28,[(6,.box Y8 .no),(7,.box Y0 .no),(9,.box Y9 (.pair (.own 3 .no) (.pair (.own 9 .no) (.pair (.own 3 .no) (.own 9 .no))))),(10,.box Y0 .no),(21,.val (.list (.int .i64)) (.own 3 .no)),(23,.val (.int .i64) .no)])]),
 (7,[(8,[(5,.box Y0 .no),(6,.box Y0 .no),(7,.box Y8 .no),(8,.box Y9 (.pair (.own 3 .no) (.pair (.own 9 .no) (.pair (.own 3 .no) (.own 9 .no))))),(9,.box Y0 .no),(10,.box Y0 .no),(12,.box n6 (.pair (.pair (.own 3 .no) (.pair (.own 9 .no) (.pair (.own 3 .no) (.own 9 .no)))) (.pair .no (.pair .no (.pair .no (.pair .no (.pair .no (.pair .no .no)))))))),(13,.val (.int .i64) .no),(62,.val (.list Y2) .no),(63,.val (.int .i64) .no),(64,.val (.int .i64) .no)]),(17,[(5,.box Y0 .no),(6,.box Y0 .no),(7,.box Y8 .no),(8,.box Y9 (.pair (.own 3 .no) (.pair (.own 9 .no) (.pair (.own 3 .no) (.own 9 .no))))),(9,.box Y0 .no),(10,.box Y0 .no),(12,.box n6 (.pair (.pair (.own 3 .no) (.pair (.own 9 .no) (.pair (.own 3 .no) (.own 9 .no)))) (.pair .no (.pair .no (.pair .no (.pair .no (.pair .no (.pair .no .no)))))))),(13,.val (.int .i64) .no),(111,.val (.list (.pair .str .str)) .no),(112,.val (.int .i64) .no),(113,.val (.int .i64) .no)]),(26,[(5,.box Y0 .no),(6,.box Y0 .no),(7,.box Y8 .no),(8,.box Y9 (.pair (.own 3 .no) (.pair (.own 9 .no) (.pair (.own 3 .no) (.own 9 .no))))),(9,.box Y0 .no),(10,.box Y0 .no),(12,.box n6 (.pair (.pair (.own 3 .no) (.pair (.own 9 .no) (.pair (.own 3 .no) (.own 9 .no)))) (.pair .no (.pair .no (.pair .no (.pair .no (.pair .no (.pair .no .no)))))))),(13,.val (.int .i64) .no),(160,.val (.list Y5) .no),(161,.val (.int .i64) .no),(162,.val (.int .i64) .no)]),(32,[(5,.box Y0 .no),(6,.box Y0 .no),(8,.box Y9 (.pair (.own 3 .no) (.pair (.own 9 .no) (.pair (.own 3 .no) (.own 9 .no))))),(9,.box Y0 .no),(10,.box Y0 .no),(12,.box n6 (.pair (.pair (.own 3 .no) (.pair (.own 9 .no) (.pair (.own 3 .no) (.own 9 .no)))) (.pair .no (.pair .no (.pair .no (.pair .no (.pair .no (.pair .no .no)))))))),(13,.val (.int .i64) .no),(173,.val (.list Y2) .no),(174,.val (.int .i64) .no),(175,.val (.int .i64) .no)])]),
 (10,[(4,[(0,.val (.list Y1) .no),(8,.val (.list Y1) .no),(9,.val (.int .i64) .no),(10,.val (.int .i64) .no)])]),
 (18,[(4,[(0,.par Y7 .no),(1,.val (.list Y1) .no),(2,.val (.int .i64) .no),(6,.box Y8 (.pair .no (.pair .no (.pair (.own 53 .no) (.pair (.own 67 .no) (.pair (.own 69 .no) (.own 128 .no))))))),(7,.val (.list .str) (.own 9 .no)),(8,.val (.list .str) (.own 9 .no)),(9,.val (.int .i64) .no)])]),
 (20,[(2,[(0,.ro n6),(12,.val (.list Y2) .no),(13,.val (.int .i64) .no),(14,.val (.int .i64) .no)]),(13,[(0,.ro n6),(59,.val (.list (.pair .str .str)) .no),(60,.val (.int .i64) .no),(61,.val (.int .i64) .no)])]),
 (23,[(11,[(1,.val (.int .i64) .no),(2,.val (.int .i64) .no),(3,.val (.list (.int .i64)) .no),(10,.val (.list Y3) (.own 102 .no)),(42,.val (.list Y3) (.own 102 .no)),(43,.val (.int .i64) .no),(44,.val (.int .i64) .no)]),(21,[(2,.val (.int .i64) .no),(10,.val (.list Y3) .no),(16,.box Gk (.pair .no (.pair .no (.pair .no (.pair .no (.own 3 .no)))))),(17,.val (.int .i64) .no)]),(26,[(10,.val (.list Y3) .no),(16,.box Gk (.pair .no (.pair .no (.pair .no (.pair .no (.own 3 .no)))))),(18,.val (.int .i64) .no)])]),
 (24,[(3,[(0,.ro n6),(3,.val (.list (.int .i64)) (.own 3 .no)),(11,.val (.list Y1) .no),(12,.val (.int .i64) .no),(13,.val (.int .i64) .no)]),(9,[(0,.ro n6),(3,.val (.list (.int .i64)) (.own 3 .no)),(30,.val (.list Y2) .no),(31,.val (.int .i64) .no),(32,.val (.int .i64) .no)])]),
 (25,[(6,[(0,.val (.list Y1) .no),(3,.val (.int .i64) .no)])]),
 (28,[(8,[(0,.val (.list Y1) .no),(7,.box Y8 .no),(8,.box Y9 (.pair (.own 3 .no) (.pair (.own 9 .no) (.pair (.own 3 .no) (.own 9 .no))))),(9,.box Y0 .no),(10,.box Y0 .no),(13,.box Y9 .no),(14,.box Y0 .no),(15,.box Y0 .no),(17,.val (.int .i64) .no)]),(16,[(0,.val (.list Y1) .no),(7,.box Y8 .no),(8,.box Y9 (.pair (.own 3 .no) (.pair (.own 9 .no) (.pair (.own 3 .no) (.own 9 .no))))),(9,.box Y0 .no),(10,.box Y0 .no),(13,.box Y9 .no),(14,.box Y0 .no),(15,.box Y0 .no),(20,.val (.list (.int .i64)) (.own 3 .no)),(21,.val (.int .i64) .no)]),(21,[(7,.box Y8 .no),(8,.box Y9 (.pair (.own 3 .no) (.pair (.own 9 .no) (.pair (.own 3 .no) (.own 9 .no))))),(9,.box Y0 .no),(10,.box Y0 .no),(13,.box Y9 .no),(14,.box Y0 .no),(15,.box Y0 .no),(20,.val (.list (.int .i64)) (.own 3 .no)),(22,.val (.int .i64) .no)]),(26,[(7,.box Y8 .no),(8,.box Y9 (.pair (.own 3 .no) (.pair (.own 9 .no) (.pair (.own 3 .no) (.own 9 .no))))),(9,.box Y0 .no),(10,.box Y0 .no),(13,.box Y9 .no),(14,.box Y0 .no),(15,.box Y0 .no),(20,.val (.list (.int .i64)) (.own 3 .no)),(23,.val (.int .i64) .no)])]),
 (29,[(4,[(0,.val (.list (.int .i64)) .no),(1,.val (.list (.int .i64)) .no),(12,.val (.int .i64) .no),(13,.val (.int .i64) .no)])]),
 (30,[(4,[(0,.val (.list .str) .no),(1,.val (.list .str) .no),(12,.val (.int .i64) .no),(13,.val (.int .i64) .no)])]),
 (34,[(4,[(2,.box Y9 .no),(3,.box Y8 .no),(44,.val (.list Y2) .no),(45,.val (.int .i64) .no),(46,.val (.int .i64) .no)]),(10,[(2,.box Y9 .no),(63,.val (.list (.pair .str .str)) .no),(64,.val (.int .i64) .no),(65,.val (.int .i64) .no)])]),
 (35,[(3,[(3,.val (.int .i64) .no),(5,.box Y8 .no),(6,.box Y9 .no),(9,.val (.list Y1) (.own 47 .no)),(17,.val (.list Y2) .no),(18,.val (.int .i64) .no),(19,.val (.int .i64) .no)]),(9,[(3,.val (.int .i64) .no),(6,.box Y9 .no),(9,.val (.list Y1) (.own 47 .no)),(46,.val (.list (.pair .str .str)) .no),(47,.val (.int .i64) .no),(48,.val (.int .i64) .no)])]),
 (36,[(4,[(2,.box Y8 .no),(3,.box Y9 .no),(5,.val (.int .i64) .no)]),(9,[(2,.box Y8 .no),(3,.box Y9 .no),(6,.val (.int .i64) .no)])]),
 (38,[(3,[(3,.val (.int .i64) .no),(5,.box Y8 .no),(6,.box Y9 .no),(9,.val (.list Y1) (.own 47 .no)),(10,.val (.int .i64) .no)]),(9,[(3,.val (.int .i64) .no),(5,.box Y8 .no),(6,.box Y9 .no),(9,.val (.list Y1) (.own 47 .no)),(12,.val (.int .i64) .no)])]),
 (40,[(3,[(1,.box Y6 .no),(3,.val (.list Y1) (.own 47 .no)),(4,.val (.int .i64) .no)])]),
 (41,[(5,[(0,.par Y7 .no),(2,.box Y6 (.pair .no (.pair .no (.own 116 .no)))),(3,.val (.int .i64) .no),(4,.val (.int .i64) .no),(5,.val (.list (.int .i64)) (.own 3 .no)),(6,.val (.int .i64) .no)]),(10,[(0,.par Y7 .no),(2,.box Y6 (.pair .no (.pair .no (.own 116 .no)))),(3,.val (.int .i64) .no),(4,.val (.int .i64) .no),(5,.val (.list (.int .i64)) (.own 3 .no)),(7,.val (.list (.int .i64)) (.own 3 .no)),(8,.val (.int .i64) .no)]),(16,[(0,.par Y7 .no),(2,.box Y6 (.pair .no (.pair .no (.own 116 .no)))),(3,.val (.int .i64) .no),(4,.val (.int .i64) .no),(5,.val (.list (.int .i64)) .no),(7,.val (.list (.int .i64)) .no),(9,.box Y6 (.pair .no (.pair .no (.own 116 .no)))),(10,.val (.list (.list Y3)) (.own 97 (.own 102 .no))),(11,.val (.int .i64) .no)]),(25,[(0,.par Y7 .no),(2,.box Y6 (.pair .no (.pair .no (.own 116 .no)))),(3,.val (.int .i64) .no),(4,.val (.int .i64) .no),(9,.box Y6 (.pair .no (.pair .no (.own 116 .no)))),(10,.val (.list (.list Y3)) (.own 97 (.own 102 .no))),(14,.val (.int .i64) .no)]),(36,[(0,.par Y7 .no),(2,.box Y6 (.pair .no (.pair .no (.own 116 .no)))),(4,.val (.int .i64) .no),(9,.box Y6 (.pair .no (.pair .no (.own 116 .no)))),(18,.val (.int .i64) .no)]),(29,[(0,.par Y7 .no),(2,.box Y6 (.pair .no (.pair .no (.own 116 .no)))),(3,.val (.int .i64) .no),(4,.val (.int .i64) .no),(9,.box Y6 (.pair .no (.pair .no (.own 116 .no)))),(10,.val (.list (.list Y3)) (.own 97 (.own 102 .no))),(14,.val (.int .i64) .no),(15,.sub 10 0),(16,.val (.int .i64) .no)])]),
 (43,[(3,[(0,.par Y7 .no),(2,.val (.list .str) .no),(3,.val (.list .str) .no),(8,.box Y8 (.pair .no (.pair .no (.pair (.own 53 .no) (.pair (.own 67 .no) (.pair (.own 69 .no) (.own 128 .no))))))),(9,.box Y8 (.pair .no (.pair .no (.pair (.own 53 .no) (.pair (.own 67 .no) (.pair (.own 69 .no) (.own 128 .no))))))),(10,.val (.int .i64) .no)]),(8,[(0,.par Y7 .no),(2,.val (.list .str) .no),(3,.val (.list .str) .no),(8,.box Y8 (.pair .no (.pair .no (.pair (.own 53 .no) (.pair (.own 67 .no) (.pair (.own 69 .no) (.own 128 .no))))))),(9,.box Y8 (.pair .no (.pair .no (.pair (.own 53 .no) (.pair (.own 67 .no) (.pair (.own 69 .no) (.own 128 .no))))))),(11,.val (.list .str) (.own 9 .no)),(12,.val (.int .i64) .no)]),(19,[(0,.par Y7 .no),(8,.box Y8 (.pair .no (.pair .no (.pair (.own 53 .no) (.pair (.own 67 .no) (.pair (.own 69 .no) (.own 128 .no))))))),(9,.box Y8 (.pair .no (.pair .no (.pair (.own 53 .no) (.pair (.own 67 .no) (.pair (.own 69 .no) (.own 128 .no))))))),(14,.val (.list .str) (.own 9 .no)),(15,.val (.list .str) (.own 9 .no)),(16,.val (.int .i64) .no)]),(23,[(0,.par Y7 .no),(8,.box Y8 (.pair .no (.pair .no (.pair (.own 53 .no) (.pair (.own 67 .no) (.pair (.own 69 .no) (.own 128 .no))))))),(9,.box Y8 (.pair .no (.pair .no (.pair (.own 53 .no) (.pair (.own 67 .no) (.pair (.own 69 .no) (.own 128 .no))))))),(14,.val (.list .str) (.own 9 .no)),(15,.val (.list .str) .no),(17,.val (.int .i64) .no)]),(27,[(0,.par Y7 .no),(8,.box Y8 (.pair .no (.pair .no (.pair (.own 53 .no) (.pair (.own 67 .no) (.pair (.own 69 .no) (.own 128 .no))))))),(9,.box Y8 (.pair .no (.pair .no (.pair (.own 53 .no) (.pair (.own 67 .no) (.pair (.own 69 .no) (.own 128 .no))))))),(14,.val (.list .str) (.own 9 .no)),(15,.val (.list .str) .no),(17,.val (.int .i64) .no),(18,.val (.list (.int .i64)) (.own 3 .no)),(19,.val (.int .i64) .no)]),(45,[(0,.par Y7 .no),(8,.box Y8 (.pair .no (.pair .no (.pair (.own 53 .no) (.pair (.own 67 .no) (.pair (.own 69 .no) (.own 128 .no))))))),(9,.box Y8 (.pair .no (.pair .no (.pair (.own 53 .no) (.pair (.own 67 .no) (.pair (.own 69 .no) (.own 128 .no))))))),(14,.val (.list .str) (.own 9 .no)),(15,.val (.list .str) .no),(17,.val (.int .i64) .no),(20,.val (.int .i64) .no),(21,.val (.list Y3) (.own 102 .no)),(26,.val (.int .i64) .no)])]),
 (45,[(10,[(1,.box Y8 .no),(53,.val (.list Y2) .no),(54,.val (.int .i64) .no),(55,.val (.int .i64) .no)]),(21,[(1,.box Y8 .no),(84,.val (.list (.pair .str .str)) .no),(85,.val (.int .i64) .no),(86,.val (.int .i64) .no)]),(30,[(1,.box Y8 .no),(122,.val (.int .i64) .no),(123,.val (.int .i64) .no)]),(37,[(1,.box Y8 .no),(135,.val (.list (.pair (.int .i64) .bool)) .no),(136,.val (.int .i64) .no),(137,.val (.int .i64) .no)])]),
 (46,[(2,[(0,.ro n6),(1,.val .str .no),(15,.val (.list Y2) .no),(16,.val (.int .i64) .no),(17,.val (.int .i64) .no)]),(8,[(0,.ro n6),(1,.val .str .no),(44,.val (.list (.pair .str .str)) .no),(45,.val (.int .i64) .no),(46,.val (.int .i64) .no)])]),
 (48,[(2,[(0,.val (.int .i64) .no),(1,.val (.int .i64) .no),(5,.val (.list (.int .u8)) (.own 5 .no))])]),
 (50,[(3,[(0,.val .str .no),(3,.val (.int .i64) .no),(4,.val (.int .i64) .no)])]),
 (54,[(3,[(0,.val .str .no),(5,.val (.list Y3) (.own 102 .no)),(6,.val (.int .i64) .no)])]),
 (56,[(4,[(0,.val (.list Y3) .no),(1,.val (.list Y3) .no),(12,.val (.int .i64) .no),(13,.val (.int .i64) .no)])]),
 (60,[(2,[(0,.val (.list Y1) .no),(1,.val .str .no),(5,.val (.int .i64) .no)])]),
 (62,[(2,[(0,.val (.list Y1) .no),(3,.box Y8 .no),(5,.val (.int .i64) .no)]),(13,[(0,.val (.list Y1) .no),(3,.box Y8 .no),(7,.val (.int .i64) .no)])]),
 (63,[(3,[(3,.box Y0 .no),(4,.box Y0 .no),(5,.box Y8 .no),(6,.box Y9 (.pair (.own 3 .no) (.pair (.own 9 .no) (.pair (.own 3 .no) (.own 9 .no))))),(7,.box Y0 .no),(8,.box Y0 .no),(10,.box Y9 (.pair (.own 3 .no) (.pair (.own 9 .no) (.pair (.own 3 .no) (.own 9 .no))))),(11,.val (.int .i64) .no)]),(12,[(3,.box Y0 .no),(4,.box Y0 .no),(5,.box Y8 .no),(6,.box Y9 (.pair (.own 3 .no) (.pair (.own 9 .no) (.pair (.own 3 .no) (.own 9 .no))))),(7,.box Y0 .no),(8,.box Y0 .no),(10,.box Y9 (.pair (.own 3 .no) (.pair (.own 9 .no) (.pair (.own 3 .no) (.own 9 .no))))),(15,.val (.int .i64) .no)])]),
 (65,[(11,[(1,.val (.int .i64) .no),(2,.val (.int .i64) .no),(3,.val (.list (.int .i64)) .no),(10,.val (.list Y3) (.own 102 .no)),(12,.val (.int .i64) .no)]),(19,[(1,.val (.int .i64) .no),(2,.val (.int .i64) .no),(3,.val (.list (.int .i64)) .no),(10,.val (.list Y3) (.own 102 .no)),(13,.val (.int .i64) .no),(14,.val (.int .i64) .no)])]),
 (66,[(4,[(0,.val .str .no),(3,.val (.int .i64) .no)])]),
 (67,[(2,[(0,.val (.list Y1) .no),(1,.keep),(7,.val (.int .i64) .no),(8,.val (.int .i64) .no)])]),
 (72,[(3,[(0,.par Y7 .no),(1,.val (.int .i64) .no),(2,.val (.int .i64) .no),(3,.val (.int .i64) .no),(4,.val (.list (.int .i64)) .no),(5,.val (.list (.int .i64)) .no),(13,.val (.list Y3) (.own 102 .no)),(14,.val (.int .i64) .no)])]),
 (74,[(3,[(0,.val (.list Y3) .no),(3,.val .str .no),(4,.val (.int .i64) .no)])]),
 (75,[(3,[(0,.val (.int .i64) .no),(1,.val (.int .i64) .no),(5,.val (.list (.int .u8)) (.own 5 .no)),(6,.val (.int .i64) .no)])]),
 (77,[(3,[(0,.par Y7 .no),(1,.val (.int .i64) .no),(5,.val (.list (.int .u8)) (.own 5 .no)),(6,.val (.int .i64) .no)])]),
 (78,[(2,[(0,.val (.list .str) .no),(1,.val .str .no),(5,.val (.int .i64) .no)])]),
 (81,[(3,[(0,.val (.list Y5) .no),(3,.val (.list Y5) (.own 69 .no)),(4,.val (.int .i64) .no)]),(6,[(0,.val (.list Y5) .no),(3,.val (.list Y5) (.own 69 .no)),(4,.val (.int .i64) .no),(5,.val (.int .i64) .no)])]),
 (85,[(2,[(0,.val (.int .i64) .no),(2,.box Y3 .no),(14,.val (.list Y4) (.own 153 .no)),(15,.val (.int .i64) .no),(16,.val (.int .i64) .no)]),(8,[(0,.val (.int .i64) .no),(2,.box Y3 .no),(6,.box HA .no),(7,.box Y3 .no),(14,.val (.list Y4) (.own 153 .no)),(15,.val (.int .i64) .no),(16,.val (.int .i64) .no),(36,.val (.list Y0) (.own 158 .no)),(37,.val (.int .i64) .no),(38,.val (.int .i64) .no)])]),
 (89,[(4,[(1,.box Y3 .no),(3,.box HA .no),(4,.val (.int .i64) .no),(17,.val (.list Y0) (.own 158 .no)),(18,.val (.int .i64) .no),(19,.val (.int .i64) .no)])]),
 (97,[(4,[(0,.val .str .no),(3,.val (.int .i64) .no)])]),
 (99,[(2,[(1,.box Y8 .no),(4,.val (.int .i64) .no)]),(8,[(1,.box Y8 .no),(4,.val (.int .i64) .no),(5,.box Y2 .no),(6,.val (.int .i64) .no)])]),
 (100,[(2,[(1,.box Y8 .no),(4,.val (.int .i64) .no)]),(8,[(1,.box Y8 .no),(4,.val (.int .i64) .no),(5,.box (.pair .str .str) .no),(6,.val (.int .i64) .no)]),(13,[(1,.box Y8 .no),(4,.val (.int .i64) .no),(5,.box (.pair .str .str) .no),(7,.val (.int .i64) .no)])]),
 (101,[(2,[(1,.box Y8 .no),(4,.val (.int .i64) .no)])]),
 (102,[(2,[(1,.box Y8 .no),(4,.val (.int .i64) .no)])]),
 (103,[(1,[(1,.val (.int .i64) .no),(2,.box Y0 .no),(4,.box Y0 .no)])]),
 (104,[(2,[(0,.val (.list Y1) .no),(3,.val .str .no),(5,.box Y8 .no),(6,.box Y9 .no),(10,.val (.int .i64) .no)]),(7,[(0,.val (.list Y1) .no),(3,.val .str .no),(5,.box Y8 .no),(6,.box Y9 .no),(11,.val (.int .i64) .no)])]),
 (106,[(3,[(0,.val .str .no),(1,.val (.int .i64) .no),(7,.val (.int .u64) .no),(8,.val (.int .i64) .no)])]),
 (108,[(3,[(0,.val .str .no),(4,.val (.list Y3) (.own 102 .no)),(5,.val (.int .i64) .no)])]),
 (114,[(10,[(1,.box Y3 .no),(4,.val (.int .i64) .no),(5,.val (.int .i64) .no)]),(30,[(1,.box Y3 .no),(4,.val (.int .i64) .no),(7,.val (.int .i64) .no)]),(46,[(1,.box Y3 .no),(4,.val (.int .i64) .no),(9,.val (.int .i64) .no)])]),
 (115,[(2,[(0,.val (.list (.int .i64)) .no),(1,.val (.list (.int .i64)) .no),(5,.val (.int .i64) .no)])]),
 (117,[(3,[(1,.val (.int .i64) .no),(2,.box Y8 .no),(5,.val (.list .str) (.own 9 .no)),(11,.val (.list Y2) .no),(12,.val (.int .i64) .no),(13,.val (.int .i64) .no)]),(8,[(1,.val (.int .i64) .no),(5,.val (.list .str) (.own 9 .no)),(24,.val (.list (.pair .str .str)) .no),(25,.val (.int .i64) .no),(26,.val (.int .i64) .no)])]),
 (118,[(3,[(1,.box Y8 .no),(3,.val (.list (.int .i64)) (.own 3 .no)),(9,.val (.list Y2) .no),(10,.val (.int .i64) .no),(11,.val (.int .i64) .no)]),(8,[(3,.val (.list (.int .i64)) (.own 3 .no)),(24,.val (.list (.pair .str .str)) .no),(25,.val (.int .i64) .no),(26,.val (.int .i64) .no)])]),
 (128,[(2,[(0,.val (.list (.int .i64)) .no),(1,.val (.int .i64) .no),(7,.val (.int .i64) .no),(8,.val (.int .i64) .no)])]),
 (133,[(2,[(0,.val (.int .i64) .no),(2,.box Y3 .no),(4,.val (.int .i64) .no)])]),
 (139,[(2,[(0,.val (.list (.int .i64)) .no),(1,.val (.int .i64) .no),(5,.val (.int .i64) .no)])]),
 (143,[(3,[(0,.val (.int .i64) .no),(1,.val (.int .i64) .no),(2,.val (.int .i64) .no),(3,.val (.int .i64) .no),(9,.val (.int .i64) .no),(10,.val (.int .i64) .no)])]),
 (145,[(2,[(0,.val (.list .str) .no),(1,.val .str .no),(7,.val (.int .i64) .no),(8,.val (.int .i64) .no)])]),
 (151,[(3,[(0,.val (.int .i64) .no),(1,.val (.int .i64) .no),(7,.val (.int .i64) .no),(8,.val (.int .i64) .no)])]),
 (152,[(3,[(0,.val (.int .i64) .no),(1,.val (.int .i64) .no),(5,.val (.int .u64) .no),(6,.val (.int .i64) .no)])])]
noncomputable def DJ:List (Nat×(List SV→Option (List PV))):=[(69,(mh Y1 56))]
noncomputable def I6:List (Nat×List (Nat×Fl)):=[(27,[(6656,(.own 0 .no)),(7168,.box),(14720,(.own 0 .no)),(15360,(.own 0 .no))]),(36,[(6400,(.own 0 .no))]),(97,[(19712,.box)]),(118,[(6400,(.own 102 .no)),(8704,(.own 102 .no))])]
noncomputable def cfg:b9:=⟨Tryz.prog,lG tis,lG fns,jo [],si [] [],lG sigs,GF loops,fun t i=>(GF I6 t i).getD .no,lG DJ⟩
theorem Gl:qJ Tryz.prog [] fns:=⟨Tryz.func3,Tryz.func4,Tryz.func5,Tryz.func6,Tryz.func7,Tryz.func8,Tryz.func9,Tryz.func10,Tryz.func11,Tryz.func12,Tryz.func13,Tryz.func14,Tryz.func15,Tryz.func16,Tryz.func17,Tryz.func18,Tryz.func19,Tryz.func20,Tryz.func21,Tryz.func22,Tryz.func23,Tryz.func24,Tryz.func25,Tryz.func26,Tryz.func27,Tryz.func28,Tryz.func29,Tryz.func30,Tryz.func31,Tryz.func32,Tryz.func33,Tryz.func34,Tryz.func35,Tryz.func36,Tryz.func37,Tryz.func38,Tryz.func39,Tryz.func40,Tryz.func41,Tryz.func42,Tryz.func43,Tryz.func44,Tryz.func45,Tryz.func46,Tryz.func47,Tryz.func48,Tryz.func49,Tryz.func50,Tryz.func51,Tryz.func52,Tryz.func53,Tryz.func54,Tryz.func55,Tryz.func56,Tryz.func57,Tryz.func58,Tryz.func59,Tryz.func60,Tryz.func61,Tryz.func62,Tryz.func63,Tryz.func64,Tryz.func65,Tryz.func66,Tryz.func67,Tryz.func68,Tryz.func69,Tryz.func70,Tryz.func71,Tryz.func72,Tryz.func73,Tryz.func74,Tryz.func75,Tryz.func76,Tryz.func77,Tryz.func78,Tryz.func79,Tryz.func80,Tryz.func81,Tryz.func82,Tryz.func83,Tryz.func84,Tryz.func85,Tryz.func86,Tryz.func87,Tryz.func88,Tryz.func89,Tryz.func90,Tryz.func91,Tryz.func92,Tryz.func93,Tryz.func94,Tryz.func95,Tryz.func96,Tryz.func97,Tryz.func98,Tryz.func99,Tryz.func100,Tryz.func101,Tryz.func102,Tryz.func103,Tryz.func104,Tryz.func105,Tryz.func106,Tryz.func107,Tryz.func108,Tryz.func109,Tryz.func110,Tryz.func111,Tryz.func112,Tryz.func113,Tryz.func114,Tryz.func115,Tryz.func116,Tryz.func117,Tryz.func118,Tryz.func119,Tryz.func120,Tryz.func121,Tryz.func122,Tryz.func123,Tryz.func124,Tryz.func125,Tryz.func126,Tryz.func127,Tryz.func128,Tryz.func129,Tryz.func130,Tryz.func131,Tryz.func132,Tryz.func133,Tryz.func134,Tryz.func135,Tryz.func136,Tryz.func137,Tryz.func138,Tryz.func139,Tryz.func140,Tryz.func141,Tryz.func142,Tryz.func143,Tryz.func144,Tryz.func145,Tryz.func146,Tryz.func147,Tryz.func148,Tryz.func149,Tryz.func150,Tryz.func151,Tryz.func152,trivial⟩
theorem Cj:cfg.OK:=b9.OK.of (C:=cfg) (tis:=tis) (fns:=fns) (sigs:=sigs) (rl:=[]) (al:=[]) rfl rfl rfl rfl rfl (by kernel_rfl) Gl (by kernel_rfl) (by kernel_rfl) (by kernel_rfl)
noncomputable abbrev LA (f:Nat) (F:Func) (p:List Nat) (s:St):=H5 cfg f (F.body.getD .skip) F.results.toList ((lG sigs f).getD ⟨[],[],[]⟩) p s
abbrev vI (k:Nat) (n:Int):Nat×SV:=(k,.v (.int .i64 n))
abbrev vL (k:Nat) (e:Ty) (l:List e.den):Nat×SV:=(k,.v (.list e l))
abbrev vP (k p:Nat):Nat×SV:=(k,.v (.ptr p (.at 0)))
end Go.Proofs.YtfgjcohcpehcjaaGreat.S
