import Derived.Test.YtobacplonkjigaaDoorBk05
import Derived.Test.YtobacplonkjigaaDoorProg
import Derived.Shelf.Strings.Builder1
import Derived.Shelf.Strings.Builder2
import Derived.WalkKit
import Derived.Lib.Hide
import Derived.BigCall
import Derived.Lib.Walk
import Derived.Lib.Strings
import Derived.Lib.Slices
import Derived.Lib.Bytealg
import Derived.BigGuard
set_option linter.unusedSimpArgs false
set_option linter.unusedVariables false
namespace Go.Proofs.YtobacplonkjigaaDoor
open Go.RowKit P
def fD(n:String)(t o b:Nat):Field:=⟨n,t,o,false,"","",b⟩
def TTy:List (Nat × TypeDesc):=[(1,(.func #[] #[] false)),(2,(.int .i64)),(3,(.int .i64)),(4,.bool),(5,(.int .u8)),(6,(.int .u8)),(9,.string),(10,.string),(11,.string),(12,(.int .u64)),(15,(.pointer 161)),(16,(.pointer 164)),(17,(.pointer 171)),(20,(.interface #[])),(21,(.int .i32)),(22,(.slice 34)),(23,(.slice 9)),(24,(.func #[] #[4] false)),(25,(.int .i64)),(27,(.func #[22,30] #[22,4,25] false)),(28,(.struct #[fD "Kind" 3 0 0,fD "Sources" 23 1 8,fD "Between" 9 2 32,fD "Mask" 9 3 48,fD "Modulus" 3 4 64,fD "Target" 9 5 72,fD "Replacement" 9 6 88])),(29,(.struct #[fD "Kind" 3 0 0,fD "Sources" 23 1 8,fD "Between" 9 2 32,fD "Mask" 9 3 48,fD "Modulus" 3 4 64,fD "Target" 9 5 72,fD "Replacement" 9 6 88])),(30,(.slice 29)),(31,(.func #[22,22] #[4] false)),(32,(.func #[22,23,9] #[4] false)),(33,(.struct #[fD "Name" 9 0 0,fD "Value" 9 1 16])),(34,(.struct #[fD "Name" 9 0 0,fD "Value" 9 1 16])),(35,(.func #[22,9] #[4] false)),(36,(.func #[22] #[25] false)),(37,(.slice 38)),(38,(.pointer 76)),(40,(.func #[29] #[38,25] false)),(41,(.func #[22] #[22] false)),(42,(.func #[22,29] #[9] false)),(44,(.func #[22,29,38,9] #[22,4] false)),(45,(.func #[22,29,38,9] #[22,4] false)),(46,(.func #[3] #[45] false)),(47,(.func #[22,4] #[25] false)),(48,(.func #[22,49] #[4] false)),(49,(.func #[34,34] #[3] false)),(50,(.func #[23,51] #[4] false)),(51,(.func #[9] #[4] false)),(52,(.struct #[fD "Err" 25 0 0,fD "At" 3 1 8])),(53,(.struct #[fD "Err" 25 0 0,fD "At" 3 1 8])),(55,(.func #[9] #[38,53] false)),(56,(.func #[22,9] #[9] false)),(57,(.func #[23,9] #[9] false)),(59,(.func #[9] #[4,23] false)),(60,(.func #[22,38,4] #[22] false)),(61,(.map 3 45)),(62,(.map 9 4)),(63,(.func #[9,9] #[3] false)),(64,(.func #[23,51] #[3] false)),(66,(.pointer 69)),(67,(.slice 74)),(68,(.struct #[⟨"m",9,0,false,"","gleaner/mask",0⟩,⟨"at",3,1,false,"","gleaner/mask",16⟩,⟨"groups",3,2,false,"","gleaner/mask",24⟩,⟨"steps",67,3,false,"","gleaner/mask",32⟩])),(69,(.struct #[⟨"m",9,0,false,"","gleaner/mask",0⟩,⟨"at",3,1,false,"","gleaner/mask",16⟩,⟨"groups",3,2,false,"","gleaner/mask",24⟩,⟨"steps",67,3,false,"","gleaner/mask",32⟩])),(70,(.func #[25,3] #[] false)),(71,(.func #[74] #[3] false)),(72,(.pointer 152)),(73,(.struct #[⟨"kind",3,0,false,"","gleaner/mask",0⟩,⟨"a",3,1,false,"","gleaner/mask",8⟩,⟨"b",3,2,false,"","gleaner/mask",16⟩,⟨"set",72,3,false,"","gleaner/mask",24⟩])),(74,(.struct #[⟨"kind",3,0,false,"","gleaner/mask",0⟩,⟨"a",3,1,false,"","gleaner/mask",8⟩,⟨"b",3,2,false,"","gleaner/mask",16⟩,⟨"set",72,3,false,"","gleaner/mask",24⟩])),(75,(.struct #[fD "Groups" 3 0 0,⟨"steps",67,1,false,"","gleaner/mask",8⟩])),(76,(.struct #[fD "Groups" 3 0 0,⟨"steps",67,1,false,"","gleaner/mask",8⟩])),(77,(.slice 114)),(79,(.func #[9] #[77,4] false)),(81,(.func #[22,9] #[3,4] false)),(82,(.pointer 85)),(83,(.slice 5)),(84,(.struct #[⟨"addr",82,0,false,"","strings",0⟩,⟨"buf",83,1,false,"","strings",8⟩])),(85,(.struct #[⟨"addr",82,0,false,"","strings",0⟩,⟨"buf",83,1,false,"","strings",8⟩])),(86,(.func #[3] #[] false)),(87,(.interface #[("Error",91)])),(88,(.interface #[("Error",91)])),(90,(.func #[9] #[3,88] false)),(91,(.func #[] #[9] false)),(93,(.func #[9,9,23] #[9,25] false)),(94,(.func #[9] #[9] false)),(95,(.func #[22,9,9] #[22] false)),(96,(.slice 3)),(97,(.func #[96,3] #[96] false)),(98,(.slice 102)),(99,(.func #[98,100,102,3] #[98] false)),(100,(.map 3 4)),(101,(.struct #[⟨"at",3,0,false,"","gleaner/mask",0⟩,⟨"slots",96,1,false,"","gleaner/mask",8⟩])),(102,(.struct #[⟨"at",3,0,false,"","gleaner/mask",0⟩,⟨"slots",96,1,false,"","gleaner/mask",8⟩])),(103,(.func #[9,96] #[23] false)),(104,(.int .u64)),(105,(.func #[22] #[104] false)),(106,(.func #[104,3] #[9] false)),(107,(.func #[22,108] #[22] false)),(108,(.func #[34] #[4] false)),(109,(.func #[5] #[4] false)),(110,(.func #[3] #[67] false)),(111,(.func #[67,3] #[] false)),(112,(.func #[9,5] #[3] false)),(113,(.struct #[⟨"text",9,0,false,"","gleaner/mask",0⟩,⟨"group",3,1,false,"","gleaner/mask",16⟩])),(114,(.struct #[⟨"text",9,0,false,"","gleaner/mask",0⟩,⟨"group",3,1,false,"","gleaner/mask",16⟩])),(115,(.func #[22,9,116] #[3,4] false)),(116,(.func #[34,9] #[3] false)),(117,(.pointer 5)),(118,(.func #[] #[3] false)),(119,(.func #[22,3,3] #[22] false)),(120,(.func #[22,3,22] #[22] true)),(121,(.int .u64)),(123,(.func #[121,121] #[121,121] false)),(124,(.func #[96] #[96] false)),(125,(.func #[104,9] #[104] false)),(126,(.func #[22,108] #[3] false)),(128,(.func #[] #[5,4] false)),(129,(.func #[67] #[67] false)),(131,(.func #[130] #[130] false)),(132,(.func #[3] #[83] false)),(133,(.func #[22,3] #[] false)),(134,(.int .u32)),(136,(.func #[134,134] #[134,134] false)),(138,(.func #[104,104] #[104,104] false)),(139,(.func #[3] #[9] false)),(140,(.array 24 5)),(141,(.func #[104] #[3] false)),(142,(.func #[83,104] #[] false)),(144,(.func #[83,104,3,4,4] #[83,9] false)),(145,(.func #[3] #[3] false)),(146,(.func #[4] #[3] false)),(147,(.array 20 104)),(148,(.array 65 5)),(149,(.func #[3] #[4] false)),(150,(.func #[121] #[3] false)),(151,(.array 256 4)),(152,(.array 256 4)),(153,(.func #[5] #[72] false)),(154,(.func #[] #[72] false)),(155,(.func #[22] #[] false)),(156,(.func #[134] #[3] false)),(157,(.func #[] #[5] false)),(158,(.array 32 5)),(159,(.array 64 5)),(162,(.array 0 16)),(165,(.int .u8)),(166,(.int .u8)),(167,(.func #[130,130] #[4] false)),(168,(.int .i32)),(169,(.int .i32)),(170,(.struct #[fD "Size_" 12 0 0,fD "PtrBytes" 12 1 8,fD "Hash" 134 2 16,fD "TFlag" 165 3 20,fD "Align_" 5 4 21,fD "FieldAlign_" 5 5 22,fD "Kind_" 166 6 23,fD "Equal" 167 7 24,fD "GCData" 117 8 32,fD "Str" 168 9 40,fD "PtrToThis" 169 10 44])),(171,(.struct #[fD "Size_" 12 0 0,fD "PtrBytes" 12 1 8,fD "Hash" 134 2 16,fD "TFlag" 165 3 20,fD "Align_" 5 4 21,fD "FieldAlign_" 5 5 22,fD "Kind_" 166 6 23,fD "Equal" 167 7 24,fD "GCData" 117 8 32,fD "Str" 168 9 40,fD "PtrToThis" 169 10 44]))]
def TSz:List (Nat × (Nat × Nat)):=[(1,(1,8)),(2,(1,8)),(3,(1,8)),(4,(1,1)),(5,(1,1)),(6,(1,1)),(9,(1,16)),(10,(1,16)),(11,(1,16)),(12,(1,8)),(15,(1,8)),(16,(1,8)),(17,(1,8)),(20,(1,16)),(21,(1,4)),(22,(1,24)),(23,(1,24)),(24,(1,8)),(25,(1,8)),(27,(1,8)),(28,(7,104)),(29,(7,104)),(30,(1,24)),(31,(1,8)),(32,(1,8)),(33,(2,32)),(34,(2,32)),(35,(1,8)),(36,(1,8)),(37,(1,24)),(38,(1,8)),(40,(1,8)),(41,(1,8)),(42,(1,8)),(44,(1,8)),(45,(1,8)),(46,(1,8)),(47,(1,8)),(48,(1,8)),(49,(1,8)),(50,(1,8)),(51,(1,8)),(52,(2,16)),(53,(2,16)),(55,(1,8)),(56,(1,8)),(57,(1,8)),(59,(1,8)),(60,(1,8)),(61,(1,8)),(62,(1,8)),(63,(1,8)),(64,(1,8)),(66,(1,8)),(67,(1,24)),(68,(4,56)),(69,(4,56)),(70,(1,8)),(71,(1,8)),(72,(1,8)),(73,(4,32)),(74,(4,32)),(75,(2,32)),(76,(2,32)),(77,(1,24)),(79,(1,8)),(81,(1,8)),(82,(1,8)),(83,(1,24)),(84,(2,32)),(85,(2,32)),(86,(1,8)),(87,(1,16)),(88,(1,16)),(90,(1,8)),(91,(1,8)),(93,(1,8)),(94,(1,8)),(95,(1,8)),(96,(1,24)),(97,(1,8)),(98,(1,24)),(99,(1,8)),(100,(1,8)),(101,(2,32)),(102,(2,32)),(103,(1,8)),(104,(1,8)),(105,(1,8)),(106,(1,8)),(107,(1,8)),(108,(1,8)),(109,(1,8)),(110,(1,8)),(111,(1,8)),(112,(1,8)),(113,(2,24)),(114,(2,24)),(115,(1,8)),(116,(1,8)),(117,(1,8)),(118,(1,8)),(119,(1,8)),(120,(1,8)),(121,(1,8)),(123,(1,8)),(124,(1,8)),(125,(1,8)),(126,(1,8)),(128,(1,8)),(129,(1,8)),(131,(1,8)),(132,(1,8)),(133,(1,8)),(134,(1,4)),(136,(1,8)),(138,(1,8)),(139,(1,8)),(140,(24,24)),(141,(1,8)),(142,(1,8)),(144,(1,8)),(145,(1,8)),(146,(1,8)),(147,(20,160)),(148,(65,65)),(149,(1,8)),(150,(1,8)),(151,(256,256)),(152,(256,256)),(153,(1,8)),(154,(1,8)),(155,(1,8)),(156,(1,8)),(157,(1,8)),(158,(32,32)),(159,(64,64)),(162,(0,0)),(165,(1,1)),(166,(1,1)),(167,(1,8)),(168,(1,4)),(169,(1,4)),(170,(11,48)),(171,(11,48))]
def HD:Value:=.agg #[.bool false,.bool false,.bool false,.bool false,.bool false,.bool false,.bool false,.bool false,.bool false,.bool false,.bool false,.bool false,.bool false,.bool false,.bool false,.bool false,.bool false,.bool false,.bool false,.bool false,.bool false,.bool false,.bool false,.bool false,.bool false,.bool false,.bool false,.bool false,.bool false,.bool false,.bool false,.bool false,.bool false,.bool false,.bool false,.bool false,.bool false,.bool false,.bool false,.bool false,.bool false,.bool false,.bool false,.bool false,.bool false,.bool false,.bool false,.bool false,.bool false,.bool false,.bool false,.bool false,.bool false,.bool false,.bool false,.bool false,.bool false,.bool false,.bool false,.bool false,.bool false,.bool false,.bool false,.bool false,.bool false,.bool false,.bool false,.bool false,.bool false,.bool false,.bool false,.bool false,.bool false,.bool false,.bool false,.bool false,.bool false,.bool false,.bool false,.bool false,.bool false,.bool false,.bool false,.bool false,.bool false,.bool false,.bool false,.bool false,.bool false,.bool false,.bool false,.bool false,.bool false,.bool false,.bool false,.bool false,.bool false,.bool false,.bool false,.bool false,.bool false,.bool false,.bool false,.bool false,.bool false,.bool false,.bool false,.bool false,.bool false,.bool false,.bool false,.bool false,.bool false,.bool false,.bool false,.bool false,.bool false,.bool false,.bool false,.bool false,.bool false,.bool false,.bool false,.bool false,.bool false,.bool false,.bool false,.bool false,.bool false,.bool false,.bool false,.bool false,.bool false,.bool false,.bool false,.bool false,.bool false,.bool false,.bool false,.bool false,.bool false,.bool false,.bool false,.bool false,.bool false,.bool false,.bool false,.bool false,.bool false,.bool false,.bool false,.bool false,.bool false,.bool false,.bool false,.bool false,.bool false,.bool false,.bool false,.bool false,.bool false,.bool false,.bool false,.bool false,.bool false,.bool false,.bool false,.bool false,.bool false,.bool false,.bool false,.bool false,.bool false,.bool false,.bool false,.bool false,.bool false,.bool false,.bool false,.bool false,.bool false,.bool false,.bool false,.bool false,.bool false,.bool false,.bool false,.bool false,.bool false,.bool false,.bool false,.bool false,.bool false,.bool false,.bool false,.bool false,.bool false,.bool false,.bool false,.bool false,.bool false,.bool false,.bool false,.bool false,.bool false,.bool false,.bool false,.bool false,.bool false,.bool false,.bool false,.bool false,.bool false,.bool false,.bool false,.bool false,.bool false,.bool false,.bool false,.bool false,.bool false,.bool false,.bool false,.bool false,.bool false,.bool false,.bool false,.bool false,.bool false,.bool false,.bool false,.bool false,.bool false,.bool false,.bool false,.bool false,.bool false,.bool false,.bool false,.bool false,.bool false,.bool false,.bool false,.bool false,.bool false,.bool false,.bool false,.bool false,.bool false,.bool false,.bool false,.bool false,.bool false,.bool false,.bool false,.bool false]
def QL:Value:=HD
def TZr:List (Nat × Value):=[(1,.nilFunc),(2,.int .i64 0),(3,.int .i64 0),(4,.bool false),(5,.int .u8 0),(6,.int .u8 0),(9,.string ByteArray.empty),(10,.string ByteArray.empty),(11,.string ByteArray.empty),(12,.int .u64 0),(15,.pointer none),(16,.pointer none),(17,.pointer none),(20,.nilIface),(21,.int .i32 0),(22,.slice none 0 0),(23,.slice none 0 0),(24,.nilFunc),(25,.int .i64 0),(27,.nilFunc),(28,.agg #[.int .i64 0,.slice none 0 0,.string ByteArray.empty,.string ByteArray.empty,.int .i64 0,.string ByteArray.empty,.string ByteArray.empty]),(29,.agg #[.int .i64 0,.slice none 0 0,.string ByteArray.empty,.string ByteArray.empty,.int .i64 0,.string ByteArray.empty,.string ByteArray.empty]),(30,.slice none 0 0),(31,.nilFunc),(32,.nilFunc),(33,.agg #[.string ByteArray.empty,.string ByteArray.empty]),(34,.agg #[.string ByteArray.empty,.string ByteArray.empty]),(35,.nilFunc),(36,.nilFunc),(37,.slice none 0 0),(38,.pointer none),(40,.nilFunc),(41,.nilFunc),(42,.nilFunc),(44,.nilFunc),(45,.nilFunc),(46,.nilFunc),(47,.nilFunc),(48,.nilFunc),(49,.nilFunc),(50,.nilFunc),(51,.nilFunc),(52,.agg #[.int .i64 0,.int .i64 0]),(53,.agg #[.int .i64 0,.int .i64 0]),(55,.nilFunc),(56,.nilFunc),(57,.nilFunc),(59,.nilFunc),(60,.nilFunc),(61,.map none),(62,.map none),(63,.nilFunc),(64,.nilFunc),(66,.pointer none),(67,.slice none 0 0),(68,.agg #[.string ByteArray.empty,.int .i64 0,.int .i64 0,.slice none 0 0]),(69,.agg #[.string ByteArray.empty,.int .i64 0,.int .i64 0,.slice none 0 0]),(70,.nilFunc),(71,.nilFunc),(72,.pointer none),(73,.agg #[.int .i64 0,.int .i64 0,.int .i64 0,.pointer none]),(74,.agg #[.int .i64 0,.int .i64 0,.int .i64 0,.pointer none]),(75,.agg #[.int .i64 0,.slice none 0 0]),(76,.agg #[.int .i64 0,.slice none 0 0]),(77,.slice none 0 0),(79,.nilFunc),(81,.nilFunc),(82,.pointer none),(83,.slice none 0 0),(84,.agg #[.pointer none,.slice none 0 0]),(85,.agg #[.pointer none,.slice none 0 0]),(86,.nilFunc),(87,.nilIface),(88,.nilIface),(90,.nilFunc),(91,.nilFunc),(93,.nilFunc),(94,.nilFunc),(95,.nilFunc),(96,.slice none 0 0),(97,.nilFunc),(98,.slice none 0 0),(99,.nilFunc),(100,.map none),(101,.agg #[.int .i64 0,.slice none 0 0]),(102,.agg #[.int .i64 0,.slice none 0 0]),(103,.nilFunc),(104,.int .u64 0),(105,.nilFunc),(106,.nilFunc),(107,.nilFunc),(108,.nilFunc),(109,.nilFunc),(110,.nilFunc),(111,.nilFunc),(112,.nilFunc),(113,.agg #[.string ByteArray.empty,.int .i64 0]),(114,.agg #[.string ByteArray.empty,.int .i64 0]),(115,.nilFunc),(116,.nilFunc),(117,.pointer none),(118,.nilFunc),(119,.nilFunc),(120,.nilFunc),(121,.int .u64 0),(123,.nilFunc),(124,.nilFunc),(125,.nilFunc),(126,.nilFunc),(128,.nilFunc),(129,.nilFunc),(131,.nilFunc),(132,.nilFunc),(133,.nilFunc),(134,.int .u32 0),(136,.nilFunc),(138,.nilFunc),(139,.nilFunc),(140,.agg #[.int .u8 0,.int .u8 0,.int .u8 0,.int .u8 0,.int .u8 0,.int .u8 0,.int .u8 0,.int .u8 0,.int .u8 0,.int .u8 0,.int .u8 0,.int .u8 0,.int .u8 0,.int .u8 0,.int .u8 0,.int .u8 0,.int .u8 0,.int .u8 0,.int .u8 0,.int .u8 0,.int .u8 0,.int .u8 0,.int .u8 0,.int .u8 0]),(141,.nilFunc),(142,.nilFunc),(144,.nilFunc),(145,.nilFunc),(146,.nilFunc),(147,.agg #[.int .u64 0,.int .u64 0,.int .u64 0,.int .u64 0,.int .u64 0,.int .u64 0,.int .u64 0,.int .u64 0,.int .u64 0,.int .u64 0,.int .u64 0,.int .u64 0,.int .u64 0,.int .u64 0,.int .u64 0,.int .u64 0,.int .u64 0,.int .u64 0,.int .u64 0,.int .u64 0]),(148,.agg #[.int .u8 0,.int .u8 0,.int .u8 0,.int .u8 0,.int .u8 0,.int .u8 0,.int .u8 0,.int .u8 0,.int .u8 0,.int .u8 0,.int .u8 0,.int .u8 0,.int .u8 0,.int .u8 0,.int .u8 0,.int .u8 0,.int .u8 0,.int .u8 0,.int .u8 0,.int .u8 0,.int .u8 0,.int .u8 0,.int .u8 0,.int .u8 0,.int .u8 0,.int .u8 0,.int .u8 0,.int .u8 0,.int .u8 0,.int .u8 0,.int .u8 0,.int .u8 0,.int .u8 0,.int .u8 0,.int .u8 0,.int .u8 0,.int .u8 0,.int .u8 0,.int .u8 0,.int .u8 0,.int .u8 0,.int .u8 0,.int .u8 0,.int .u8 0,.int .u8 0,.int .u8 0,.int .u8 0,.int .u8 0,.int .u8 0,.int .u8 0,.int .u8 0,.int .u8 0,.int .u8 0,.int .u8 0,.int .u8 0,.int .u8 0,.int .u8 0,.int .u8 0,.int .u8 0,.int .u8 0,.int .u8 0,.int .u8 0,.int .u8 0,.int .u8 0,.int .u8 0]),(149,.nilFunc),(150,.nilFunc),(151,HD),(152,QL),(153,.nilFunc),(154,.nilFunc),(155,.nilFunc),(156,.nilFunc),(157,.nilFunc),(158,.agg #[.int .u8 0,.int .u8 0,.int .u8 0,.int .u8 0,.int .u8 0,.int .u8 0,.int .u8 0,.int .u8 0,.int .u8 0,.int .u8 0,.int .u8 0,.int .u8 0,.int .u8 0,.int .u8 0,.int .u8 0,.int .u8 0,.int .u8 0,.int .u8 0,.int .u8 0,.int .u8 0,.int .u8 0,.int .u8 0,.int .u8 0,.int .u8 0,.int .u8 0,.int .u8 0,.int .u8 0,.int .u8 0,.int .u8 0,.int .u8 0,.int .u8 0,.int .u8 0]),(159,.agg #[.int .u8 0,.int .u8 0,.int .u8 0,.int .u8 0,.int .u8 0,.int .u8 0,.int .u8 0,.int .u8 0,.int .u8 0,.int .u8 0,.int .u8 0,.int .u8 0,.int .u8 0,.int .u8 0,.int .u8 0,.int .u8 0,.int .u8 0,.int .u8 0,.int .u8 0,.int .u8 0,.int .u8 0,.int .u8 0,.int .u8 0,.int .u8 0,.int .u8 0,.int .u8 0,.int .u8 0,.int .u8 0,.int .u8 0,.int .u8 0,.int .u8 0,.int .u8 0,.int .u8 0,.int .u8 0,.int .u8 0,.int .u8 0,.int .u8 0,.int .u8 0,.int .u8 0,.int .u8 0,.int .u8 0,.int .u8 0,.int .u8 0,.int .u8 0,.int .u8 0,.int .u8 0,.int .u8 0,.int .u8 0,.int .u8 0,.int .u8 0,.int .u8 0,.int .u8 0,.int .u8 0,.int .u8 0,.int .u8 0,.int .u8 0,.int .u8 0,.int .u8 0,.int .u8 0,.int .u8 0,.int .u8 0,.int .u8 0,.int .u8 0,.int .u8 0]),(162,.agg #[]),(165,.int .u8 0),(166,.int .u8 0),(167,.nilFunc),(168,.int .i32 0),(169,.int .i32 0),(170,.agg #[.int .u64 0,.int .u64 0,.int .u32 0,.int .u8 0,.int .u8 0,.int .u8 0,.int .u8 0,.nilFunc,.pointer none,.int .i32 0,.int .i32 0]),(171,.agg #[.int .u64 0,.int .u64 0,.int .u32 0,.int .u8 0,.int .u8 0,.int .u8 0,.int .u8 0,.nilFunc,.pointer none,.int .i32 0,.int .i32 0])]
set_option maxRecDepth 100000 in
theorem R8:TTy.map (fun p=>Tryd.prog.underlying p.1)=TTy.map (fun p=>some p.2):=by kernel_rfl
set_option maxRecDepth 100000 in
theorem Sn:(TSz.all fun p=>(Tryd.prog.info? p.1).any fun i=>i.size==p.2.1 && i.bytes==p.2.2 && i.zero.any (fun z=>z.cells.size==p.2.1))=true:=by kernel_rfl
set_option maxRecDepth 100000 in
theorem Qb:TZr.map (fun p=>(Tryd.prog.info? p.1).bind (·.zero))=TZr.map (fun p=>some p.2):=by kernel_rfl
set_option maxRecDepth 100000 in
def TT:Tys Tryd.prog where
 ty:=TTy
 sz:=TSz
 zr:=TZr
 tyOk:=fun t d h=>List.map_inj_left.1 R8 _ (cI h)
 szOk:=fun t s b h=>by
  have h1:=List.all_eq_true.1 Sn _ (cI h)
  simp only[Option.any_eq_true_iff_get,Bool.and_eq_true,beq_iff_eq] at h1
  obtain⟨hs,⟨h2,h3⟩,hz,h4⟩:=h1
  exact⟨_,(Option.some_get hs).symm,h2,h3,_,(Option.some_get hz).symm,h4⟩
 zrOk:=fun t z h=>by
  have h1:=List.map_inj_left.1 Qb _ (cI h)
  simp only[Option.bind_eq_some_iff] at h1
  exact h1
theorem mixed:Tryd.prog.follows .mixedOrders=true:=by kernel_rfl
structure VboundsError where
 x:Int
 y:Int
 signed:Bool
 code:UInt8
structure VerrorAddressString where
 msg:List UInt8
 addr:Int
structure VLabel where
 Name:List UInt8
 Value:List UInt8
structure VRule where
 Kind:Int
 Sources:List (List UInt8)
 Between:List UInt8
 Mask:List UInt8
 Modulus:Int
 Target:List UInt8
 Replacement:List UInt8
structure Vstep where
 kind:Int
 a:Int
 b:Int
 set_:Option (List Bool)
structure VMask where
 Groups:Int
 steps:List Vstep
structure VFault where
 Err:Int
 At:Int
structure Vcompiler where
 m:List UInt8
 at_:Int
 groups:Int
 steps:List Vstep
structure Vpiece where
 text:List UInt8
 group:Int
structure Vthread where
 at_:Int
 slots:List Int
def En(n:Nat)(x:Option (List Bool)):AV:=match x with
 |none=>.v (.pointer none)
 |some l=>.el ((List.range n).map fun i=>.v (.bool (List.getD l i false)))
theorem iA(n:Nat)(x:Option (List Bool)):(En n x).one=true∧(En n x).rd=En n x:=by cases x<;> exact⟨rfl,rfl⟩
theorem C5(E:Enc)(n:Nat)(x:Option (List Bool)):cells E (.ptr (.bits n)) x=[En n x] :=by cases x<;> rfl
def ET:Nat→Type
 |0=>VboundsError
 |1=>VerrorAddressString
 |2=>VLabel
 |3=>VRule
 |4=>Vstep
 |5=>VMask
 |6=>VFault
 |7=>Vcompiler
 |8=>Vpiece
 |9=>Vthread
 |_=>Unit
def cn(z:VboundsError):List AV:=[.v (.int .i64 z.x)] ++ [.v (.int .i64 z.y)] ++ [.v (.bool z.signed)] ++ [.v (.int .u8 (UInt8.toNat z.code))]
def bd(z:VerrorAddressString):List AV:=[.v (.string (mkB z.msg))] ++ [.v (.int .u64 z.addr)]
def dJ(z:VLabel):List AV:=[.v (.string (mkB z.Name))] ++ [.v (.string (mkB z.Value))]
def gp(z:VRule):List AV:=[.v (.int .i64 z.Kind)] ++ [.sl false 1 (List.map (fun x=>[.v (.string (mkB x))]) z.Sources)] ++ [.v (.string (mkB z.Between))] ++ [.v (.string (mkB z.Mask))] ++ [.v (.int .i64 z.Modulus)] ++ [.v (.string (mkB z.Target))] ++ [.v (.string (mkB z.Replacement))]
def eJ(z:Vstep):List AV:=[.v (.int .i64 z.kind)] ++ [.v (.int .i64 z.a)] ++ [.v (.int .i64 z.b)] ++ [En 256 z.set_]
def gq(z:VMask):List AV:=[.v (.int .i64 z.Groups)] ++ [.sl false 4 (List.map (fun x=>eJ x) z.steps)]
def fy(z:VFault):List AV:=[.v (.int .i64 z.Err)] ++ [.v (.int .i64 z.At)]
def dx(z:Vcompiler):List AV:=[.v (.string (mkB z.m))] ++ [.v (.int .i64 z.at_)] ++ [.v (.int .i64 z.groups)] ++ [.sl false 4 (List.map (fun x=>eJ x) z.steps)]
def fz(z:Vpiece):List AV:=[.v (.string (mkB z.text))] ++ [.v (.int .i64 z.group)]
def ey(z:Vthread):List AV:=[.v (.int .i64 z.at_)] ++ [.sl false 1 (List.map (fun x=>[.v (.int .i64 x)]) z.slots)]
def xO:∀i,ET i→List AV
 |0,z=>cn z
 |1,z=>bd z
 |2,z=>dJ z
 |3,z=>gp z
 |4,z=>eJ z
 |5,z=>gq z
 |6,z=>fy z
 |7,z=>dx z
 |8,z=>fz z
 |9,z=>ey z
 |_+10,_=>[]
def szE:Nat→Nat
 |0=>4
 |1=>2
 |2=>2
 |3=>7
 |4=>4
 |5=>2
 |6=>2
 |7=>4
 |8=>2
 |9=>2
 |_=>0
def ECC:Enc where
 T:=ET
 enc:=xO
 sz:=szE
 len:=fun i z=>match i,z with
  |0,z=>rfl
  |1,z=>rfl
  |2,z=>rfl
  |3,z=>rfl
  |4,z=>rfl
  |5,z=>rfl
  |6,z=>rfl
  |7,z=>rfl
  |8,z=>rfl
  |9,z=>rfl
  |_+10,_=>rfl
 one:=fun i z=>match i,z with
  |0,z=>by intro u hu;simp only[xO,cn,bd,dJ,gp,eJ,gq,fy,dx,fz,ey,List.cons_append,List.nil_append,List.mem_cons,List.not_mem_nil,or_false] at hu;rcases hu with rfl|rfl|rfl|rfl<;> first|exact⟨rfl,rfl⟩|exact iA _ _
  |1,z=>by intro u hu;simp only[xO,cn,bd,dJ,gp,eJ,gq,fy,dx,fz,ey,List.cons_append,List.nil_append,List.mem_cons,List.not_mem_nil,or_false] at hu;rcases hu with rfl|rfl<;> first|exact⟨rfl,rfl⟩|exact iA _ _
  |2,z=>by intro u hu;simp only[xO,cn,bd,dJ,gp,eJ,gq,fy,dx,fz,ey,List.cons_append,List.nil_append,List.mem_cons,List.not_mem_nil,or_false] at hu;rcases hu with rfl|rfl<;> first|exact⟨rfl,rfl⟩|exact iA _ _
  |3,z=>by intro u hu;simp only[xO,cn,bd,dJ,gp,eJ,gq,fy,dx,fz,ey,List.cons_append,List.nil_append,List.mem_cons,List.not_mem_nil,or_false] at hu;rcases hu with rfl|rfl|rfl|rfl|rfl|rfl|rfl<;> first|exact⟨rfl,rfl⟩|exact iA _ _
  |4,z=>by intro u hu;simp only[xO,cn,bd,dJ,gp,eJ,gq,fy,dx,fz,ey,List.cons_append,List.nil_append,List.mem_cons,List.not_mem_nil,or_false] at hu;rcases hu with rfl|rfl|rfl|rfl<;> first|exact⟨rfl,rfl⟩|exact iA _ _
  |5,z=>by intro u hu;simp only[xO,cn,bd,dJ,gp,eJ,gq,fy,dx,fz,ey,List.cons_append,List.nil_append,List.mem_cons,List.not_mem_nil,or_false] at hu;rcases hu with rfl|rfl<;> first|exact⟨rfl,rfl⟩|exact iA _ _
  |6,z=>by intro u hu;simp only[xO,cn,bd,dJ,gp,eJ,gq,fy,dx,fz,ey,List.cons_append,List.nil_append,List.mem_cons,List.not_mem_nil,or_false] at hu;rcases hu with rfl|rfl<;> first|exact⟨rfl,rfl⟩|exact iA _ _
  |7,z=>by intro u hu;simp only[xO,cn,bd,dJ,gp,eJ,gq,fy,dx,fz,ey,List.cons_append,List.nil_append,List.mem_cons,List.not_mem_nil,or_false] at hu;rcases hu with rfl|rfl|rfl|rfl<;> first|exact⟨rfl,rfl⟩|exact iA _ _
  |8,z=>by intro u hu;simp only[xO,cn,bd,dJ,gp,eJ,gq,fy,dx,fz,ey,List.cons_append,List.nil_append,List.mem_cons,List.not_mem_nil,or_false] at hu;rcases hu with rfl|rfl<;> first|exact⟨rfl,rfl⟩|exact iA _ _
  |9,z=>by intro u hu;simp only[xO,cn,bd,dJ,gp,eJ,gq,fy,dx,fz,ey,List.cons_append,List.nil_append,List.mem_cons,List.not_mem_nil,or_false] at hu;rcases hu with rfl|rfl<;> first|exact⟨rfl,rfl⟩|exact iA _ _
  |_+10,_=>by intro u hu;cases hu
def Vy:∀i,ET i→List (TA ET)
 |0,z=>[.d (.int .i64) z.x,.d (.int .i64) z.y,.d .bool z.signed,.d .byte z.code]
 |1,z=>[.d .str z.msg,.d (.int .u64) z.addr]
 |2,z=>[.d .str z.Name,.d .str z.Value]
 |3,z=>[.d (.int .i64) z.Kind,.d (.sl .str) z.Sources,.d .str z.Between,.d .str z.Mask,.d (.int .i64) z.Modulus,.d .str z.Target,.d .str z.Replacement]
 |4,z=>[.d (.int .i64) z.kind,.d (.int .i64) z.a,.d (.int .i64) z.b,.d (.ptr (.bits 256)) z.set_]
 |5,z=>[.d (.int .i64) z.Groups,.d (.sl (.nam 4)) z.steps]
 |6,z=>[.d (.int .i64) z.Err,.d (.int .i64) z.At]
 |7,z=>[.d .str z.m,.d (.int .i64) z.at_,.d (.int .i64) z.groups,.d (.sl (.nam 4)) z.steps]
 |8,z=>[.d .str z.text,.d (.int .i64) z.group]
 |9,z=>[.d (.int .i64) z.at_,.d (.sl (.int .i64)) z.slots]
 |_+10,_=>[]
def mc(l:List (TA ET)):Option (VboundsError × List (TA ET)):=
 match pkL (.int .i64) l with
 |none=>none
 |some (a0,l)=>
  match pkL (.int .i64) l with
  |none=>none
  |some (a1,l)=>
   match pkL .bool l with
   |none=>none
   |some (a2,l)=>
    match pkL .byte l with
    |none=>none
    |some (a3,l)=>
     some (⟨a0,a1,a2,a3⟩,l)
theorem so(l:List (TA ET))(z:VboundsError)(r:List (TA ET))(ρ:Rn)(h:mc l=some (z,r)):LeL (l.map fun a=>(a.rd.to ECC ρ)) (cn z++r.map fun a=>(a.rd.to ECC ρ)):=by
 unfold mc at h
 split at h
 ·cases h
 ·rename_i a0 l0 h0
  split at h
  ·cases h
  ·rename_i a1 l1 h1
   split at h
   ·cases h
   ·rename_i a2 l2 h2
    split at h
    ·cases h
    ·rename_i a3 l3 h3
     cases h
     have hh:=(dV ECC ρ rfl h0).trans ((LeL.refl _).append ((dV ECC ρ rfl h1).trans ((LeL.refl _).append ((dV ECC ρ rfl h2).trans ((LeL.refl _).append (dV ECC ρ rfl h3))))))
     exact hh
def hT(l:List (TA ET)):Option (VerrorAddressString × List (TA ET)):=
 match pkL .str l with
 |none=>none
 |some (a0,l)=>
  match pkL (.int .u64) l with
  |none=>none
  |some (a1,l)=>
   some (⟨a0,a1⟩,l)
theorem nz(l:List (TA ET))(z:VerrorAddressString)(r:List (TA ET))(ρ:Rn)(h:hT l=some (z,r)):LeL (l.map fun a=>(a.rd.to ECC ρ)) (bd z++r.map fun a=>(a.rd.to ECC ρ)):=by
 unfold hT at h
 split at h
 ·cases h
 ·rename_i a0 l0 h0
  split at h
  ·cases h
  ·rename_i a1 l1 h1
   cases h
   have hh:=(dV ECC ρ rfl h0).trans ((LeL.refl _).append (dV ECC ρ rfl h1))
   exact hh
def vN(l:List (TA ET)):Option (VLabel × List (TA ET)):=
 match pkL .str l with
 |none=>none
 |some (a0,l)=>
  match pkL .str l with
  |none=>none
  |some (a1,l)=>
   some (⟨a0,a1⟩,l)
theorem Ct(l:List (TA ET))(z:VLabel)(r:List (TA ET))(ρ:Rn)(h:vN l=some (z,r)):LeL (l.map fun a=>(a.rd.to ECC ρ)) (dJ z++r.map fun a=>(a.rd.to ECC ρ)):=by
 unfold vN at h
 split at h
 ·cases h
 ·rename_i a0 l0 h0
  split at h
  ·cases h
  ·rename_i a1 l1 h1
   cases h
   have hh:=(dV ECC ρ rfl h0).trans ((LeL.refl _).append (dV ECC ρ rfl h1))
   exact hh
def yh(l:List (TA ET)):Option (VRule × List (TA ET)):=
 match pkL (.int .i64) l with
 |none=>none
 |some (a0,l)=>
  match pkL (.sl .str) l with
  |none=>none
  |some (a1,l)=>
   match pkL .str l with
   |none=>none
   |some (a2,l)=>
    match pkL .str l with
    |none=>none
    |some (a3,l)=>
     match pkL (.int .i64) l with
     |none=>none
     |some (a4,l)=>
      match pkL .str l with
      |none=>none
      |some (a5,l)=>
       match pkL .str l with
       |none=>none
       |some (a6,l)=>
        some (⟨a0,a1,a2,a3,a4,a5,a6⟩,l)
theorem EF(l:List (TA ET))(z:VRule)(r:List (TA ET))(ρ:Rn)(h:yh l=some (z,r)):LeL (l.map fun a=>(a.rd.to ECC ρ)) (gp z++r.map fun a=>(a.rd.to ECC ρ)):=by
 unfold yh at h
 split at h
 ·cases h
 ·rename_i a0 l0 h0
  split at h
  ·cases h
  ·rename_i a1 l1 h1
   split at h
   ·cases h
   ·rename_i a2 l2 h2
    split at h
    ·cases h
    ·rename_i a3 l3 h3
     split at h
     ·cases h
     ·rename_i a4 l4 h4
      split at h
      ·cases h
      ·rename_i a5 l5 h5
       split at h
       ·cases h
       ·rename_i a6 l6 h6
        cases h
        have hh:=(dV ECC ρ rfl h0).trans ((LeL.refl _).append ((dV ECC ρ rfl h1).trans ((LeL.refl _).append ((dV ECC ρ rfl h2).trans ((LeL.refl _).append ((dV ECC ρ rfl h3).trans ((LeL.refl _).append ((dV ECC ρ rfl h4).trans ((LeL.refl _).append ((dV ECC ρ rfl h5).trans ((LeL.refl _).append (dV ECC ρ rfl h6))))))))))))
        exact hh
def ze(l:List (TA ET)):Option (Vstep × List (TA ET)):=
 match pkL (.int .i64) l with
 |none=>none
 |some (a0,l)=>
  match pkL (.int .i64) l with
  |none=>none
  |some (a1,l)=>
   match pkL (.int .i64) l with
   |none=>none
   |some (a2,l)=>
    match pkL (.ptr (.bits 256)) l with
    |none=>none
    |some (a3,l)=>
     some (⟨a0,a1,a2,a3⟩,l)
theorem E5(l:List (TA ET))(z:Vstep)(r:List (TA ET))(ρ:Rn)(h:ze l=some (z,r)):LeL (l.map fun a=>(a.rd.to ECC ρ)) (eJ z++r.map fun a=>(a.rd.to ECC ρ)):=by
 unfold ze at h
 split at h
 ·cases h
 ·rename_i a0 l0 h0
  split at h
  ·cases h
  ·rename_i a1 l1 h1
   split at h
   ·cases h
   ·rename_i a2 l2 h2
    split at h
    ·cases h
    ·rename_i a3 l3 h3
     cases h
     have hh:=(dV ECC ρ rfl h0).trans ((LeL.refl _).append ((dV ECC ρ rfl h1).trans ((LeL.refl _).append ((dV ECC ρ rfl h2).trans ((LeL.refl _).append ((C5 ECC 256 a3 ▸ dV ECC ρ rfl h3)))))))
     exact hh
def zi(l:List (TA ET)):Option (VMask × List (TA ET)):=
 match pkL (.int .i64) l with
 |none=>none
 |some (a0,l)=>
  match pkL (.sl (.nam 4)) l with
  |none=>none
  |some (a1,l)=>
   some (⟨a0,a1⟩,l)
theorem Eg(l:List (TA ET))(z:VMask)(r:List (TA ET))(ρ:Rn)(h:zi l=some (z,r)):LeL (l.map fun a=>(a.rd.to ECC ρ)) (gq z++r.map fun a=>(a.rd.to ECC ρ)):=by
 unfold zi at h
 split at h
 ·cases h
 ·rename_i a0 l0 h0
  split at h
  ·cases h
  ·rename_i a1 l1 h1
   cases h
   have hh:=(dV ECC ρ rfl h0).trans ((LeL.refl _).append (dV ECC ρ rfl h1))
   exact hh
def vh(l:List (TA ET)):Option (VFault × List (TA ET)):=
 match pkL (.int .i64) l with
 |none=>none
 |some (a0,l)=>
  match pkL (.int .i64) l with
  |none=>none
  |some (a1,l)=>
   some (⟨a0,a1⟩,l)
theorem CH(l:List (TA ET))(z:VFault)(r:List (TA ET))(ρ:Rn)(h:vh l=some (z,r)):LeL (l.map fun a=>(a.rd.to ECC ρ)) (fy z++r.map fun a=>(a.rd.to ECC ρ)):=by
 unfold vh at h
 split at h
 ·cases h
 ·rename_i a0 l0 h0
  split at h
  ·cases h
  ·rename_i a1 l1 h1
   cases h
   have hh:=(dV ECC ρ rfl h0).trans ((LeL.refl _).append (dV ECC ρ rfl h1))
   exact hh
def pD(l:List (TA ET)):Option (Vcompiler × List (TA ET)):=
 match pkL .str l with
 |none=>none
 |some (a0,l)=>
  match pkL (.int .i64) l with
  |none=>none
  |some (a1,l)=>
   match pkL (.int .i64) l with
   |none=>none
   |some (a2,l)=>
    match pkL (.sl (.nam 4)) l with
    |none=>none
    |some (a3,l)=>
     some (⟨a0,a1,a2,a3⟩,l)
theorem wv(l:List (TA ET))(z:Vcompiler)(r:List (TA ET))(ρ:Rn)(h:pD l=some (z,r)):LeL (l.map fun a=>(a.rd.to ECC ρ)) (dx z++r.map fun a=>(a.rd.to ECC ρ)):=by
 unfold pD at h
 split at h
 ·cases h
 ·rename_i a0 l0 h0
  split at h
  ·cases h
  ·rename_i a1 l1 h1
   split at h
   ·cases h
   ·rename_i a2 l2 h2
    split at h
    ·cases h
    ·rename_i a3 l3 h3
     cases h
     have hh:=(dV ECC ρ rfl h0).trans ((LeL.refl _).append ((dV ECC ρ rfl h1).trans ((LeL.refl _).append ((dV ECC ρ rfl h2).trans ((LeL.refl _).append (dV ECC ρ rfl h3))))))
     exact hh
def vw(l:List (TA ET)):Option (Vpiece × List (TA ET)):=
 match pkL .str l with
 |none=>none
 |some (a0,l)=>
  match pkL (.int .i64) l with
  |none=>none
  |some (a1,l)=>
   some (⟨a0,a1⟩,l)
theorem BD(l:List (TA ET))(z:Vpiece)(r:List (TA ET))(ρ:Rn)(h:vw l=some (z,r)):LeL (l.map fun a=>(a.rd.to ECC ρ)) (fz z++r.map fun a=>(a.rd.to ECC ρ)):=by
 unfold vw at h
 split at h
 ·cases h
 ·rename_i a0 l0 h0
  split at h
  ·cases h
  ·rename_i a1 l1 h1
   cases h
   have hh:=(dV ECC ρ rfl h0).trans ((LeL.refl _).append (dV ECC ρ rfl h1))
   exact hh
def sw(l:List (TA ET)):Option (Vthread × List (TA ET)):=
 match pkL (.int .i64) l with
 |none=>none
 |some (a0,l)=>
  match pkL (.sl (.int .i64)) l with
  |none=>none
  |some (a1,l)=>
   some (⟨a0,a1⟩,l)
theorem zW(l:List (TA ET))(z:Vthread)(r:List (TA ET))(ρ:Rn)(h:sw l=some (z,r)):LeL (l.map fun a=>(a.rd.to ECC ρ)) (ey z++r.map fun a=>(a.rd.to ECC ρ)):=by
 unfold sw at h
 split at h
 ·cases h
 ·rename_i a0 l0 h0
  split at h
  ·cases h
  ·rename_i a1 l1 h1
   cases h
   have hh:=(dV ECC ρ rfl h0).trans ((LeL.refl _).append (dV ECC ρ rfl h1))
   exact hh
theorem JB(ρ:Rn)(z:Vstep):(Vy 4 z).map (TA.to ECC ρ)=eJ z:=by
 obtain⟨a0,a1,a2,a3⟩:=z
 cases a3<;>  rfl
def EE:Env where
 toEnc:=ECC
 unp:=Vy
 unp_to:=fun i z ρ=>match i,z with
  |0,z=>rfl
  |1,z=>rfl
  |2,z=>rfl
  |3,z=>rfl
  |4,z=>JB ρ z
  |5,z=>rfl
  |6,z=>rfl
  |7,z=>rfl
  |8,z=>rfl
  |9,z=>rfl
  |_+10,_=>rfl
 pk:=fun i l=>match i with
  |0=>mc l
  |1=>hT l
  |2=>vN l
  |3=>yh l
  |4=>ze l
  |5=>zi l
  |6=>vh l
  |7=>pD l
  |8=>vw l
  |9=>sw l
  |_=>none
 pk_to:=fun i l z r ρ h=>match i,z,h with
  |0,z,h=>so l z r ρ h
  |1,z,h=>nz l z r ρ h
  |2,z,h=>Ct l z r ρ h
  |3,z,h=>EF l z r ρ h
  |4,z,h=>E5 l z r ρ h
  |5,z,h=>Eg l z r ρ h
  |6,z,h=>CH l z r ρ h
  |7,z,h=>wv l z r ρ h
  |8,z,h=>BD l z r ρ h
  |9,z,h=>zW l z r ρ h
  |_+10,z,h=>by cases h
 et:=[(22,(.sl (.nam 2))),(23,(.sl .str)),(30,(.sl (.nam 3))),(37,(.sl (.ptr (.nam 5)))),(38,(.ptr (.nam 5))),(67,(.sl (.nam 4))),(77,(.sl (.nam 8))),(83,(.sl .byte)),(96,(.sl (.int .i64))),(98,(.sl (.nam 9)))]
 ct:=[(22,[(.sl (.nam 2))]),(23,[(.sl .str)]),(28,[(.int .i64),(.sl .str),.str,.str,(.int .i64),.str,.str]),(29,[(.int .i64),(.sl .str),.str,.str,(.int .i64),.str,.str]),(30,[(.sl (.nam 3))]),(37,[(.sl (.ptr (.nam 5)))]),(67,[(.sl (.nam 4))]),(68,[.str,(.int .i64),(.int .i64),(.sl (.nam 4))]),(69,[.str,(.int .i64),(.int .i64),(.sl (.nam 4))]),(75,[(.int .i64),(.sl (.nam 4))]),(76,[(.int .i64),(.sl (.nam 4))]),(77,[(.sl (.nam 8))]),(83,[(.sl .byte)]),(84,[.bool,(.sl .byte)]),(85,[.bool,(.sl .byte)]),(96,[(.sl (.int .i64))]),(98,[(.sl (.nam 9))]),(101,[(.int .i64),(.sl (.int .i64))]),(102,[(.int .i64),(.sl (.int .i64))])]
 nf:=[98]
def EQT:List (Nat × List Ty):=[(34,[.str,.str]),(53,[(.int .i64),(.int .i64)]),(114,[.str,(.int .i64)])]
theorem PF:EqOk Tryd.prog TT 34 [.str,.str] :=⟨by kernel_rfl,by kernel_rfl,by kernel_rfl,by kernel_rfl⟩
theorem Pf:EqOk Tryd.prog TT 53 [(.int .i64),(.int .i64)] :=⟨by kernel_rfl,by kernel_rfl,by kernel_rfl,by kernel_rfl⟩
theorem Mr:EqOk Tryd.prog TT 114 [.str,(.int .i64)] :=⟨by kernel_rfl,by kernel_rfl,by kernel_rfl,by kernel_rfl⟩
theorem bP:∀p∈EQT,EqOk Tryd.prog TT p.1 p.2:=by
 simp only[EQT,List.forall_mem_cons]
 exact⟨PF,Pf,Mr,by simp⟩
def Tree.go{L:Type}:Tree L→Option L
 |.leaf x=>some x
 |.cond true s _=>go s
 |.cond false _ t=>go t
 |.bnd (some z) k=>go (k z)
 |.bnd none _=>none
 |.sm (.ok z) k _=>go (k z)
 |.sm (.pan v) _ q=>go (q v)
 |.nl [] _ _=>none
 |.nl (_::_) _ t=>go t
 |.fail=>none
section
variable {P:Program} (Y:Tys P) (E:Env) (G:Gam E) (lv:Lvs) (rs:List ResultVar)
end
end Go.Proofs.YtobacplonkjigaaDoor
namespace Go.Proofs.YtobacplonkjigaaDoor
open Go.Shelf Go.RowKit P
def Tryd.laysR_166:Go.Shelf.Ren:=⟨fun|166=>41|169=>42|170=>65|240=>63|276=>77|n=>n,fun|0=>0|3=>3|4=>4|5=>5|9=>9|20=>20|37=>83|70=>82|72=>85|75=>88|80=>91|127=>117|164=>130|n=>n,fun|n=>n⟩
set_option maxRecDepth 100000 in
theorem Tryd.laysn166:Go.Proofs.Lays.n166 Tryd.prog Tryd.laysR_166:={ mixed:=by kernel_rfl,f166:=Tryd.func41.trans (congrArg some (by kernel_rfl)),f240:=Tryd.func63.trans (congrArg some (by kernel_rfl)),f276:=Tryd.func77.trans (congrArg some (by kernel_rfl)),t0:=Tryd.underlying0,a0:=Tryd.isAgg0,z0:=Tryd.sizeOf0,v0:=Tryd.zeroValue0,t3:=Tryd.underlying3,a3:=Tryd.isAgg3,z3:=Tryd.sizeOf3,v3:=Tryd.zeroValue3,t4:=Tryd.underlying4,a4:=Tryd.isAgg4,z4:=Tryd.sizeOf4,v4:=Tryd.zeroValue4,t9:=Tryd.underlying9,a9:=Tryd.isAgg9,z9:=Tryd.sizeOf9,v9:=Tryd.zeroValue9,t20:=Tryd.underlying20,a20:=Tryd.isAgg20,z20:=Tryd.sizeOf20,v20:=Tryd.zeroValue20,t37:=Tryd.underlying83,a37:=Tryd.isAgg83,z37:=Tryd.sizeOf83,v37:=Tryd.zeroValue83,t70:=Tryd.underlying82,a70:=Tryd.isAgg82,z70:=Tryd.sizeOf82,v70:=Tryd.zeroValue82,t72:=Tryd.underlying85,a72:=Tryd.isAgg85,z72:=Tryd.sizeOf85,v72:=Tryd.zeroValue85,t75:=Tryd.underlying88,a75:=Tryd.isAgg88,z75:=Tryd.sizeOf88,v75:=Tryd.zeroValue88,t164:=Tryd.underlying130,a164:=Tryd.isAgg130,z164:=Tryd.sizeOf130,v164:=Tryd.zeroValue130 }
set_option maxRecDepth 100000 in
theorem Tryd.laysn170:Go.Proofs.Lays.n170 Tryd.prog Tryd.laysR_166:={ mixed:=by kernel_rfl,f170:=Tryd.func65.trans (congrArg some (by kernel_rfl)),t0:=Tryd.underlying0,a0:=Tryd.isAgg0,z0:=Tryd.sizeOf0,v0:=Tryd.zeroValue0,t3:=Tryd.underlying3,a3:=Tryd.isAgg3,z3:=Tryd.sizeOf3,v3:=Tryd.zeroValue3,t37:=Tryd.underlying83,a37:=Tryd.isAgg83,z37:=Tryd.sizeOf83,v37:=Tryd.zeroValue83,t70:=Tryd.underlying82,a70:=Tryd.isAgg82,z70:=Tryd.sizeOf82,v70:=Tryd.zeroValue82,t72:=Tryd.underlying85,a72:=Tryd.isAgg85,z72:=Tryd.sizeOf85,v72:=Tryd.zeroValue85 }
set_option maxRecDepth 100000 in
theorem Tryd.laysn169:Go.Proofs.Lays.n169 Tryd.prog Tryd.laysR_166:={ mixed:=by kernel_rfl,f169:=Tryd.func42.trans (congrArg some (by kernel_rfl)),t0:=Tryd.underlying0,a0:=Tryd.isAgg0,z0:=Tryd.sizeOf0,v0:=Tryd.zeroValue0,t3:=Tryd.underlying3,a3:=Tryd.isAgg3,z3:=Tryd.sizeOf3,v3:=Tryd.zeroValue3,t9:=Tryd.underlying9,a9:=Tryd.isAgg9,z9:=Tryd.sizeOf9,v9:=Tryd.zeroValue9,t37:=Tryd.underlying83,a37:=Tryd.isAgg83,z37:=Tryd.sizeOf83,v37:=Tryd.zeroValue83,t70:=Tryd.underlying82,a70:=Tryd.isAgg82,z70:=Tryd.sizeOf82,v70:=Tryd.zeroValue82,t72:=Tryd.underlying85,a72:=Tryd.isAgg85,z72:=Tryd.sizeOf85,v72:=Tryd.zeroValue85,t127:=Tryd.underlying117,a127:=Tryd.isAgg117,z127:=Tryd.sizeOf117,v127:=Tryd.zeroValue117 }
theorem Do:Builder.Extra Tryd.prog Tryd.laysR_166:={ sizeBuilder:=by kernel_rfl,liesBuilder:=by kernel_rfl,t5:=Tryd.underlying5,a5:=Tryd.isAgg5,z5:=Tryd.sizeOf5,v5:=Tryd.zeroValue5,infoByte:=by kernel_rfl,cellsByte:=by kernel_rfl,sizeByte:=by kernel_rfl,neB5:=by decide }
abbrev IR(B b:Nat)(g:List UInt8)(w:World):Prop:=Lib.IsBuilder 85 5 B b (Lib.byteCells g) w
theorem ry{T e:TypeId}{B b:Nat}{bs:List Value}{w w':World}(h:Lib.IsBuilder T e B b bs w)(hb:Below w.heap.size w w'):Lib.IsBuilder T e B b bs w':=by
 have key:∀p,Lib.BuilderAt T e B b p bs w→Lib.BuilderAt T e B b p bs w':=by
  rintro p ⟨h1,v,h2,h3,h4⟩
  refine⟨h1,v,?_,?_,h4⟩
  ·rw[hb.block b (Array.getElem?_eq_some_iff.1 h2).1];exact h2
  ·refine⟨h3.1,?_⟩
   rcases h3.2 with hn| ⟨g,cap,cur,rfl,k1,k2,rest⟩
   ·exact .inl hn
   ·exact .inr ⟨g,cap,cur,rfl,k1,by rw[hb.block g (Array.getElem?_eq_some_iff.1 k2).1];exact k2,rest⟩
 rcases h with h|h
 ·exact .inl (key _ h)
 ·exact .inr (key _ h)
theorem q6{B B':Nat}{w w':World}(h:Below B' w w')(hB:B≤B'):Below B w w':=⟨h.os,h.tape,h.output,h.size,fun k hk=>h.block k (by omega)⟩
theorem wV(B b:Nat)(g s:List UInt8)(w:World)(h:IR B b g w)(hlen:g.length+s.length≤140737488355328)(hBw:B≤w.heap.size):
  Calls Tryd.prog 41 #[.pointer (some ⟨b,0,none⟩),.string (mkB s)] w fun e w'=>e=.returned (.tuple #[.int .i64 s.length,.nilIface])∧(IR B b (g++s) w'∧Below B w w'):=
 (Any.Builder_WriteString Tryd.laysn166 Do B b (Lib.byteCells g) (mkB s) w h (by rw[Lib.byteCells_length];exact hlen) hBw).mono fun e w' k=>by
  obtain⟨k1,k2,k3⟩:=k
  refine⟨k1,.inr ?_,k3⟩
  rw[Lib.byteCells_append,show Lib.byteCells s=Lib.strCells (mkB s) from(Lib.strCells_eq (mkB s)).symm]
  exact k2
theorem we(B b:Nat)(g:List UInt8)(w:World)(h:IR B b g w):
  Calls Tryd.prog 65 #[.pointer (some ⟨b,0,none⟩)] w fun e w'=>e=.returned (.int .i64 g.length)∧w'=w:=
 (Any.Builder_Len Tryd.laysn170 B b (Lib.byteCells g) w h).mono fun e w' k=>by rw[Lib.byteCells_length] at k;exact k
theorem UR(B b:Nat)(g:List UInt8)(w:World)(h:IR B b g w)(hBw:B≤w.heap.size):
  Calls Tryd.prog 42 #[.pointer (some ⟨b,0,none⟩)] w fun e w'=>e=.returned (.string (mkB g))∧Below B w w':=
 Any.Builder_String_any Tryd.laysn169 Do B b g w h hBw
theorem lk{P:Program}{f:FuncId}{us:List AV}{u:AV}{vs:List Value}{X:GW}(h:ai P f us [] (fun out H=>out=.ret u∧H=[]))(hl:vs.length=us.length)(hg:∀b n,X.g b=some n→b < X.w.heap.size)
  (hr:∀ (i:Nat) u x,us[i]? =some u→vs[i]? =some x→Rel X u x∧cw (some u)=none):
  Calls P f vs.toArray X.w fun e w'=>∃X' y,e=.returned y∧X'.w=w'∧Rel X' u y∧Below X.w.heap.size X.w w'∧(∀b n,X'.g b=some n→b < w'.heap.size)∧∀b,b < X.w.heap.size→X'.g b=X.g b:=by
 have hnown:∀r,AS.own ⟨us.length,slotsOf 0 us,[],[]⟩ r=none:=by
  intro r
  cases r with
  |c k o=>rfl
  |s t=>
   simp only[AS.own]
   cases hlk:look (slotsOf 0 us) t with
   |none=>rfl
   |some u=>
    obtain⟨_,h2⟩:=cY us 0 t u hlk
    rw[Nat.sub_zero] at h2
    have ht:t < vs.length:=by rw[hl];exact(List.getElem?_eq_some_iff.1 h2).1
    exact(hr t u vs[t] h2 (List.getElem?_eq_getElem ht)).2
 have hs:SimE (fun b=>b < X.w.heap.size) X ⟨us.length,slotsOf 0 us,[],[]⟩ vs.toArray:=by
  refine⟨⟨by simp[hl],hg,fun b hb=>hb,fun t u hu=> ?_,fun k cs hk=>by simp[av] at hk,fun x r hx=>by simp[av] at hx,(fun r sz l ho=>by rw[hnown r] at ho;cases ho),(fun r r' sz l sz' l' a n c a' n' c' _ ho=>by rw[hnown r] at ho;cases ho)⟩,(fun p hp=>by cases hp)⟩
  obtain⟨_,h2⟩:=cY us 0 t u hu
  rw[Nat.sub_zero] at h2
  have ht:t < vs.length:=by rw[hl];exact(List.getElem?_eq_some_iff.1 h2).1
  have:vs.toArray.getD t undef=vs[t] :=by simp[ht]
  rw[this]
  exact(hr t u vs[t] h2 (List.getElem?_eq_getElem ht)).1
 refine(h.2 _ X vs.toArray hs).mono fun e w' ⟨X',out,H',p1,p2,p3,p4⟩=> ?_
 obtain⟨rfl,rfl⟩:=p2
 obtain⟨y,rfl,hy⟩:=p3
 subst p1
 exact⟨X',y,rfl,rfl,by simpa using hy.slot 0 u (by simp[ab]),⟨p4.os,p4.tape,p4.output,p4.size,fun b hb=>(p4.frame b hb).1⟩,hy.gb,fun b hb=>(p4.frame b hb).2⟩
theorem jT{B:Nat}{w w':World}{a:Addr}{v:Value}(hb:Below B w w')(ha:a.block < B)(h:w.cell? a=some v):w'.cell? a=some v:=by
 have:=hb.block a.block ha
 simp only[World.cell?,this] at h ⊢
 exact h
end Go.Proofs.YtobacplonkjigaaDoor
namespace Go.Proofs.YtobacplonkjigaaDoor
open Go.RowKit Go.Lib P
set_option maxHeartbeats 1000000 in
set_option maxRecDepth 100000 in
theorem EN(s:ByteArray)(c:Int)(w:World):Calls Tryd.prog 76 #[.string s,.int .u8 c] w fun e w'=>e=.returned (.int .i64 (Lib.indexByte s.data.toList c.toNat.toUInt8))∧w'=w:=by
 go_enter Tryd.func76,Tryd.ntmps76
 go_wp2
 rw[run_callFunc_extern Tryd.func88 (by kernel_rfl) (by kernel_rfl) (by kernel_rfl) (e:=Extern.BytealgIndexByte.indexByte) (by kernel_rfl),Lib.run_indexByteString]
 simp only[Result.andThen]
 rw[Oper.upon_value]
 go_wp2
 go_ret
 exact⟨rfl,rfl⟩
def pE(N:Nat)(s:List UInt8)(c:UInt8):Option Int:=some (Lib.indexByte s c)
def pW(r:Int):TV EE.T:=.a (.d (.int .i64) r)
def mZ(N:Nat):List (TV EE.T)→PV EE.T
 | [u0,u1] =>match eB .str u0,eB .byte u1 with
   |some x0,some x1=>.opt (pE N x0 x1) pW
   |_,_=>.bad
 |_=>.bad
theorem OC(s:List UInt8)(c:UInt8)(ρ:Rn):ai Tryd.prog 76 (([.a (.d .str s),.a (.d .byte c)] :List (TV EE.T)).map (TV.to EE.toEnc ρ)) [] (fun out H=>out=.ret ((pW (Lib.indexByte s c)).to EE.toEnc ρ)∧H=[]):=by
 refine pR (vs:=[.string (mkB s),.int .u8 ((UInt8.toNat c:Nat):Int)]) ⟨_,Tryd.func76,by kernel_rfl,by kernel_rfl⟩ fun w=> ?_
 refine(EN (mkB s) ((UInt8.toNat c:Nat):Int) w).mono fun e w' ⟨h1,h2⟩=>⟨?_,?_⟩
 ·rw[h1,show(((UInt8.toNat c:Nat):Int)).toNat.toUInt8=c from UInt8.ofNat_toNat];rfl
 ·subst h2;exact Below.refl _ _
theorem vb(N:Nat)(us:List (TV EE.T)):(mZ N us).ok fun u=>∀ρ,ai Tryd.prog 76 (us.map (TV.to EE.toEnc ρ)) [] (fun out H=>out=.ret (u.to EE.toEnc ρ)∧H=[]):=by
 unfold mZ
 split
 ·split
  ·rename_i u0 u1 x0 x1 h0 h1
   intro z hz ρ
   cases hz
   exact bq (us':=([.a (.d .str x0),.a (.d .byte x1)] :List (TV EE.T))) ⟨bb h0 ρ,bb h1 ρ,trivial⟩ (OC x0 x1 ρ)
  ·trivial
 ·trivial
end Go.Proofs.YtobacplonkjigaaDoor
namespace Go.Proofs.YtobacplonkjigaaDoor
open Go.RowKit P
theorem xW{P:Program}{T:Tys P}{σ:AS}{t u ty e:TypeId}{x y:Operand}{pos:String}{af:Array Edge}{g:Option (Nat × Bool)}{d by_ sz N:Nat}{us:List AV}{du:TypeDesc}(hx:opV σ x=some (.cl sz []))(ht:look T.ty t=some (.slice e))(hu:look T.ty u=some du)(hnz:du=.string∨∃e',du=.slice e')(hz:look T.sz e=some (sz,by_))(hb1:1≤by_)
  (hsrc:∀F X (a:Act),SimE F X σ a.tmps→∃vs,SrcA P X sz N N us (a.eval y) vs) (hN:0 < N) (hfit:N * by_≤140737488355328) (hpl:fM us) (hd:Nat.ble (d+1) σ.n=true)
  {R:AS→Prop} (hR:∀k' cap (vs:List Value),gm k' σ.h→N≤cap→(us++vs.map AV.v).length=cap * sz→R ((σ.box k' (us++vs.map AV.v)).put d (.v (.slice (some ⟨k',0,none⟩) N cap)))):cy P ⟨some d,.call { callee:=.builtin .append,args:= #[x,y],argTypes:= #[t,u] },ty,pos,af,g⟩ σ R:=by
 refine nE (Fact:=fun cap sp=>N≤cap∧(us++sp).length=cap * sz∧∃vs:List Value,sp=vs.map AV.v) rfl hd (fun cap sp h v hv=> ?_) (fun F X a hs=> ?_) (fun k' cap sp hk ⟨h1,h2,vs,h3⟩=>by subst h3;exact hR k' cap vs hk h1 h2)
 ·rcases List.mem_append.1 hv with hv|hv
  ·exact hpl v hv
  ·obtain⟨vs,rfl⟩:=h.2.2
   obtain⟨z,_,rfl⟩:=List.mem_map.1 hv;rfl
 ·have hrel:=bt hs hx
  obtain⟨vs,hv⟩:=hsrc F X a hs
  obtain⟨i,hi1,hi2,hi3,zv,hi4,hi5⟩:=T.szOk _ _ _ hz
  generalize hxv:a.eval x=xv at hrel
  cases hrel with
  |cl _ _ ad n hr=>
   have hn:n=0:=by
    obtain⟨a1,c1,h1⟩:=gy hr
    cases h1;rfl
   subst hn
   have hcge:=grownCap_ge X.w (0+N) 0 e
   have hold:∀w',w'.heap=X.w.heap→(Builtin.firstCells i.size 0 (.slice ad 0 0)).run P w'=.ok ([] :List Value).toArray w':=fun w' _=>by
    cases ad with
    |none=>simp[Builtin.firstCells]
    |some b=>exact run_firstCells_some (P:=P) (w:=w') i.size 0 b 0 0 [] (by simp) (fun j v hv=>by simp at hv)
   have hrun:=gc (P:=P) (ty:=ty) (sLen:=0) (sCap:=0) (a:=ad) (m:=N) (olds:=[]) (news:=vs) (x:=a.eval y) (T.tyOk _ _ ht) (T.tyOk _ _ hu) hnz hi1 hi4 ⟨hv.len,by rw[hi2];exact hv.first,by rw[hi2];exact hv.lv⟩ hold (by omega) (by rw[hi3,Nat.zero_add];exact hfit) (by rw[hi3];exact hb1)
   rw[Nat.zero_add] at hrun hcge
   refine⟨_,e,grownCap X.w N 0 e,(Builtin.zeroCells zv.cells (grownCap X.w N 0 e - N)).toList.map .v,⟨hcge,?_,_,rfl⟩,cb hxv rfl hrun,?_,fun j u0 v hu0 hv0=> ?_⟩
   ·rw[List.length_append,hv.lu,List.length_map,Array.length_toList]
    have:(Builtin.zeroCells zv.cells (grownCap X.w N 0 e - N)).size=(grownCap X.w N 0 e - N) * sz:=by simp[Builtin.zeroCells,hi5]
    rw[this,← Nat.add_mul];congr 1;omega
   ·simp only[Array.size_append,List.size_toArray,List.length_append,hv.lu,hv.lv,List.length_map,Array.length_toList,List.length_nil,Nat.zero_add]
   ·have hl0:(([] :List Value).toArray++vs.toArray++Builtin.zeroCells zv.cells (grownCap X.w N 0 e - N))[j]? =(vs++ (Builtin.zeroCells zv.cells (grownCap X.w N 0 e - N)).toList)[j]? :=by
     rw[← Array.getElem?_toList];simp
    rw[hl0] at hv0
    refine rA (by rw[hv.lu,hv.lv]) hv.rel (fun i u v hu hv=> ?_) j u0 v hu0 hv0
    rw[List.getElem?_map,hv] at hu
    cases hu
    exact .v _
section
attribute [local irreducible] AS.nf OpV aY Stk lz vU ai cy v6 v8 Awp Fk D9 F2
set_option maxHeartbeats 2000000
set_option maxRecDepth 100000 in
theorem M5(n:Int)(l:List Int)(hl:l.length < 1000000):
  ai Tryd.prog 69 [.sl false 1 ((n::l).map fun x=>[.v (.int .i64 x)])] [] (fun out H=>∃ (k c:Nat) (vs:List Value),out=.ret (.v (.slice (some ⟨k,0,none⟩) (l.length+1) c))∧H=[(k,((n::l).map fun x=>[AV.v (.int .i64 x)]).flatten++vs.map AV.v)] ∧(l.length+1)+vs.length=c):=by
 have hone:∀r∈((n::l).map fun x=>[AV.v (.int .i64 x)]),r.length=1∧∀u∈r,u.one=true∧cw (some u)=none:=fun r hr=>by
  obtain⟨x,_,rfl⟩:=List.mem_map.1 hr
  exact⟨rfl,fun u hu=>by rw[List.mem_singleton.1 hu];exact⟨rfl,rfl⟩⟩
 have hln:((n::l).map fun x=>[AV.v (.int .i64 x)]).length=l.length+1:=by simp
 generalize hL:((n::l).map fun x=>[AV.v (.int .i64 x)])=L at hone hln ⊢
 have hne:L≠[] :=fun e=>by rw[e] at hln;simp at hln
 refine kV _ 8 [.tmp 2] Tryd.func69 (by kernel_rfl) rfl rfl rfl rfl ?_
 dsimp only[slotsOf]
 repeat (first
  | ((first|apply lP|apply iS);(next=>(first| (simp only[go_sem,Nat.reduceBEq,Nat.reduceEqDiff,reduceIte,reduceCtorEq,String.reduceEq,Nat.reduceAdd,Int.reduceToNat];exact rfl)|exact rfl)))
  | (apply gd rfl rfl rfl rfl;(next=>(first
   | (refine fg (T:=TT) rfl ?_;(first|exact trivial|omega| (simp[NFL] <;> omega)))
   | (apply opk ⟨_,.move _,_,_,_,_⟩;first|exact bm (bg _) (.inl rfl)|fail)
   | (apply opk ⟨_,.binOp .eql _ _ _ _,_,_,_,_⟩;first
    | (refine di rfl rfl rfl ?_;(next=>(first|exact rfl| (simp only[cz];omega)| (simp only[cz];simp[NFL] <;> omega))))
    | (refine dk rfl rfl rfl ?_;(next=>(first|exact rfl| (simp only[cz];omega)| (simp only[cz];simp[NFL] <;> omega))))
    |exact bi rfl rfl rfl
    | (refine fX rfl rfl rfl ?_;(next=>(first|rfl|assumption)))
    | (refine fW rfl rfl rfl ?_;(next=>(first|rfl|assumption)))
    |exact cR rfl rfl rfl
    |fail)
   | (apply opk ⟨_,.buildSlice _ _ _,_,_,_,_⟩;first|exact cP (T:=TT) rfl rfl rfl rfl rfl rfl rfl|fail)
   |fail)))
  | (refine arO _ ?_;first
   | (refine arO ⟨_,.move _,_,_,_,_⟩ ?_;first|refine dv rfl rfl rfl rfl ?_|fail)
   | (refine arO ⟨_,.assign _,_,_,_,_⟩ ?_;first
    |refine cr rfl rfl rfl rfl ?_
    |refine lX rfl rfl rfl rfl (bm (bg _) (.inr rfl)) ?_
    |fail)
   | (refine arO ⟨_,.call { callee:=.builtin .append,args:=_,argTypes:=_ },_,_,_,_⟩ ?_;first
    | (apply ie rfl rfl;(next=>(first
     | (apply a7 (T:=TT) rfl rfl rfl rfl rfl rfl rfl rfl rfl rfl;(next=>(first|exact trivial|exact az _|assumption| (simp[bE,AV.one,AV.rd,AV.cells,cst,Value.oneCell'] <;> omega)));(next=>(first|omega| (simp[NFL] <;> omega))))
     | (apply a7 (T:=TT) rfl (lb aH rfl) rfl rfl rfl rfl rfl rfl rfl rfl;(next=>(first|exact trivial|exact az _|assumption| (simp[bE,AV.one,AV.rd,AV.cells,cst,Value.oneCell'] <;> omega)));(next=>(first|omega| (simp[NFL] <;> omega))))
     | (apply a7 (T:=TT) rfl (lb (bX (by first|assumption| (intro e;exact absurd e.symm (by assumption))) aH) rfl) rfl rfl rfl rfl rfl rfl rfl rfl;(next=>(first|exact trivial|exact az _|assumption| (simp[bE,AV.one,AV.rd,AV.cells,cst,Value.oneCell'] <;> omega)));(next=>(first|omega| (simp[NFL] <;> omega))))
     | (apply cU (T:=TT) rfl rfl rfl rfl rfl rfl rfl rfl rfl;(next=>(first|exact trivial|exact az _|assumption| (simp[bE,AV.one,AV.rd,AV.cells,cst,Value.oneCell'] <;> omega)));(next=>(first|omega| (simp[NFL] <;> omega))))
     |fail)))
    |fail)
   |fail)
  |refine iH ?_
  | (refine arE ?_;refine gi [0,2,4] rfl ?_)
  |refine dM ?_
  |refine eH ?_
  |refine gk ?_
  |refine iI ?_
  |refine e9 rfl ?_
  | (refine arC (.cond _ _ _) ?_;first
   | (refine bU rfl ?_ ?_;(next=>(first|rfl| (simp only[decide_eq_true_eq,beq_iff_eq,bne_iff_ne,ge_iff_le,gt_iff_lt,ne_eq,Bool.not_eq_true',decide_eq_false_iff_not];omega))))
   | (refine bz rfl ?_ ?_;(next=>(first
    |rfl
    | (simp only[decide_eq_false_iff_not,beq_eq_false_iff_ne,bne_eq_false_iff_eq,ge_iff_le,gt_iff_lt,ne_eq,Bool.not_eq_false',decide_eq_true_eq];omega))))
   |fail)
  |refine gh ?_
  |refine eb ?_
  |refine dp rfl ?_
  |refine dq ?_
  |refine dm ?_
  | (refine arC .ret ?_;refine gQ [2] ?_)
  |refine d8 ?_
  |refine d9 ?_
  |refine ea ?_
  |refine gu ?_
  |fail)
 refine dZ rfl rfl (wZ (.inl ⟨rfl,rfl⟩) (TT.tyOk 96 (.slice 3) rfl) rfl rfl rfl (fun b hb=> ?_))
 cases b with
 |true=>exact absurd (hb rfl) hne
 |false=>
  repeat (first
   | ((first|apply lP|apply iS);(next=>(first| (simp only[go_sem,Nat.reduceBEq,Nat.reduceEqDiff,reduceIte,reduceCtorEq,String.reduceEq,Nat.reduceAdd,Int.reduceToNat];exact rfl)|exact rfl)))
   | (apply gd rfl rfl rfl rfl;(next=>exact su (T:=TT) rfl rfl))
   | (apply gd rfl rfl rfl rfl;(next=>(first
    | (refine fg (T:=TT) rfl ?_;(first|exact trivial|omega| (simp[NFL] <;> omega)))
    | (apply opk ⟨_,.move _,_,_,_,_⟩;first|exact bm (bg _) (.inl rfl)|fail)
    | (apply opk ⟨_,.binOp .eql _ _ _ _,_,_,_,_⟩;first
     | (refine di rfl rfl rfl ?_;(next=>(first|exact rfl| (simp only[cz];omega)| (simp only[cz];simp[NFL] <;> omega))))
     | (refine dk rfl rfl rfl ?_;(next=>(first|exact rfl| (simp only[cz];omega)| (simp only[cz];simp[NFL] <;> omega))))
     |exact bi rfl rfl rfl
     | (refine fX rfl rfl rfl ?_;(next=>(first|rfl|assumption)))
     | (refine fW rfl rfl rfl ?_;(next=>(first|rfl|assumption)))
     |exact cR rfl rfl rfl
     |fail)
    | (apply opk ⟨_,.buildSlice _ _ _,_,_,_,_⟩;first|exact cP (T:=TT) rfl rfl rfl rfl rfl rfl rfl|fail)
    |fail)))
   | (refine arO _ ?_;first
    | (refine arO ⟨_,.move _,_,_,_,_⟩ ?_;first|refine dv rfl rfl rfl rfl ?_|fail)
    | (refine arO ⟨_,.assign _,_,_,_,_⟩ ?_;first
     |refine cr rfl rfl rfl rfl ?_
     |refine lX rfl rfl rfl rfl (bm (bg _) (.inr rfl)) ?_
     |fail)
    | (refine arO ⟨_,.call { callee:=.builtin .append,args:=_,argTypes:=_ },_,_,_,_⟩ ?_;first
     | (apply ie rfl rfl;(next=>(first
      | (apply a7 (T:=TT) rfl rfl rfl rfl rfl rfl rfl rfl rfl rfl;(next=>(first|exact trivial|exact az _|assumption| (simp[bE,AV.one,AV.rd,AV.cells,cst,Value.oneCell'] <;> omega)));(next=>(first|omega| (simp[NFL] <;> omega))))
      | (apply a7 (T:=TT) rfl (lb aH rfl) rfl rfl rfl rfl rfl rfl rfl rfl;(next=>(first|exact trivial|exact az _|assumption| (simp[bE,AV.one,AV.rd,AV.cells,cst,Value.oneCell'] <;> omega)));(next=>(first|omega| (simp[NFL] <;> omega))))
      | (apply a7 (T:=TT) rfl (lb (bX (by first|assumption| (intro e;exact absurd e.symm (by assumption))) aH) rfl) rfl rfl rfl rfl rfl rfl rfl rfl;(next=>(first|exact trivial|exact az _|assumption| (simp[bE,AV.one,AV.rd,AV.cells,cst,Value.oneCell'] <;> omega)));(next=>(first|omega| (simp[NFL] <;> omega))))
      | (apply cU (T:=TT) rfl rfl rfl rfl rfl rfl rfl rfl rfl;(next=>(first|exact trivial|exact az _|assumption| (simp[bE,AV.one,AV.rd,AV.cells,cst,Value.oneCell'] <;> omega)));(next=>(first|omega| (simp[NFL] <;> omega))))
      |fail)))
     |fail)
    |fail)
   |refine iH ?_
   | (refine arE ?_;refine gi [0,2,4] rfl ?_)
   |refine dM ?_
   |refine eH ?_
   |refine gk ?_
   |refine iI ?_
   |refine e9 rfl ?_
   | (refine arC (.cond _ _ _) ?_;first
    | (refine bU rfl ?_ ?_;(next=>(first|rfl| (simp only[decide_eq_true_eq,beq_iff_eq,bne_iff_ne,ge_iff_le,gt_iff_lt,ne_eq,Bool.not_eq_true',decide_eq_false_iff_not];omega))))
    | (refine bz rfl ?_ ?_;(next=>(first
     |rfl
     | (simp only[decide_eq_false_iff_not,beq_eq_false_iff_ne,bne_eq_false_iff_eq,ge_iff_le,gt_iff_lt,ne_eq,Bool.not_eq_false',decide_eq_true_eq];omega))))
    |fail)
   |refine gh ?_
   |refine eb ?_
   |refine dp rfl ?_
   |refine dq ?_
   |refine dm ?_
   | (refine arC .ret ?_;refine gQ [2] ?_)
   |refine d8 ?_
   |refine d9 ?_
   |refine ea ?_
   |refine gu ?_
   |fail)
  have hfl:L.flatten.length=L.length * 1:=mO (L:=L) fun q hq=>(hone q hq).1
  refine dZ rfl rfl (xW (T:=TT) (sz:=1) (by_:=8) (N:=L.length) (us:=L.flatten) rfl rfl rfl (.inr ⟨_,rfl⟩) rfl (by decide) (fun F X a hs=> ?_) (by omega) (by omega) (fun u hu=> ?_) rfl ?_)
  ·exact wR (P:=Tryd.prog) (by decide) (bt hs (u:=.sl false 1 L) rfl) (fun q hq u hu=>((hone q hq).2 u hu).1)
  ·obtain⟨r,h1,h2⟩:=List.mem_flatten.1 hu
   exact((hone r h1).2 u h2).2
  intro k' cap vs hk' h1 h2
  repeat (first
   | ((first|apply lP|apply iS);(next=>(first| (simp only[go_sem,Nat.reduceBEq,Nat.reduceEqDiff,reduceIte,reduceCtorEq,String.reduceEq,Nat.reduceAdd,Int.reduceToNat];exact rfl)|exact rfl)))
   | (apply gd rfl rfl rfl rfl;(next=>(first
    | (refine fg (T:=TT) rfl ?_;(first|exact trivial|omega| (simp[NFL] <;> omega)))
    | (apply opk ⟨_,.move _,_,_,_,_⟩;first|exact bm (bg _) (.inl rfl)|fail)
    | (apply opk ⟨_,.binOp .eql _ _ _ _,_,_,_,_⟩;first
     | (refine di rfl rfl rfl ?_;(next=>(first|exact rfl| (simp only[cz];omega)| (simp only[cz];simp[NFL] <;> omega))))
     | (refine dk rfl rfl rfl ?_;(next=>(first|exact rfl| (simp only[cz];omega)| (simp only[cz];simp[NFL] <;> omega))))
     |exact bi rfl rfl rfl
     | (refine fX rfl rfl rfl ?_;(next=>(first|rfl|assumption)))
     | (refine fW rfl rfl rfl ?_;(next=>(first|rfl|assumption)))
     |exact cR rfl rfl rfl
     |fail)
    | (apply opk ⟨_,.buildSlice _ _ _,_,_,_,_⟩;first|exact cP (T:=TT) rfl rfl rfl rfl rfl rfl rfl|fail)
    |fail)))
   | (refine arO _ ?_;first
    | (refine arO ⟨_,.move _,_,_,_,_⟩ ?_;first|refine dv rfl rfl rfl rfl ?_|fail)
    | (refine arO ⟨_,.assign _,_,_,_,_⟩ ?_;first
     |refine cr rfl rfl rfl rfl ?_
     |refine lX rfl rfl rfl rfl (bm (bg _) (.inr rfl)) ?_
     |fail)
    | (refine arO ⟨_,.call { callee:=.builtin .append,args:=_,argTypes:=_ },_,_,_,_⟩ ?_;first
     | (apply ie rfl rfl;(next=>(first
      | (apply a7 (T:=TT) rfl rfl rfl rfl rfl rfl rfl rfl rfl rfl;(next=>(first|exact trivial|exact az _|assumption| (simp[bE,AV.one,AV.rd,AV.cells,cst,Value.oneCell'] <;> omega)));(next=>(first|omega| (simp[NFL] <;> omega))))
      | (apply a7 (T:=TT) rfl (lb aH rfl) rfl rfl rfl rfl rfl rfl rfl rfl;(next=>(first|exact trivial|exact az _|assumption| (simp[bE,AV.one,AV.rd,AV.cells,cst,Value.oneCell'] <;> omega)));(next=>(first|omega| (simp[NFL] <;> omega))))
      | (apply a7 (T:=TT) rfl (lb (bX (by first|assumption| (intro e;exact absurd e.symm (by assumption))) aH) rfl) rfl rfl rfl rfl rfl rfl rfl rfl;(next=>(first|exact trivial|exact az _|assumption| (simp[bE,AV.one,AV.rd,AV.cells,cst,Value.oneCell'] <;> omega)));(next=>(first|omega| (simp[NFL] <;> omega))))
      | (apply cU (T:=TT) rfl rfl rfl rfl rfl rfl rfl rfl rfl;(next=>(first|exact trivial|exact az _|assumption| (simp[bE,AV.one,AV.rd,AV.cells,cst,Value.oneCell'] <;> omega)));(next=>(first|omega| (simp[NFL] <;> omega))))
      |fail)))
     |fail)
    |fail)
   |refine iH ?_
   | (refine arE ?_;refine gi [0,2,4] rfl ?_)
   |refine dM ?_
   |refine eH ?_
   |refine gk ?_
   |refine iI ?_
   |refine e9 rfl ?_
   | (refine arC (.cond _ _ _) ?_;first
    | (refine bU rfl ?_ ?_;(next=>(first|rfl| (simp only[decide_eq_true_eq,beq_iff_eq,bne_iff_ne,ge_iff_le,gt_iff_lt,ne_eq,Bool.not_eq_true',decide_eq_false_iff_not];omega))))
    | (refine bz rfl ?_ ?_;(next=>(first
     |rfl
     | (simp only[decide_eq_false_iff_not,beq_eq_false_iff_ne,bne_eq_false_iff_eq,ge_iff_le,gt_iff_lt,ne_eq,Bool.not_eq_false',decide_eq_true_eq];omega))))
    |fail)
   |refine gh ?_
   |refine eb ?_
   |refine dp rfl ?_
   |refine dq ?_
   |refine dm ?_
   | (refine arC .ret ?_;refine gQ [2] ?_)
   |refine d8 ?_
   |refine d9 ?_
   |refine ea ?_
   |refine gu ?_
   |fail)
  exact⟨_,rfl,k',cap,vs,by rw[hln],rfl,by rw[List.length_append,hfl,List.length_map] at h2;omega⟩
end
def mC(N:Nat)(l:List Int):Option (PR (Nat × List Int)):=match l with
 | [] =>none
 |n::r=>if r.length < 1000000 then some (.ok (r.length+1,n::r)) else none
def EZ(r:Nat × List Int):TV EE.T:=.a (.vec (.int .i64) 300000 r.1)
def BB(r:Nat × List Int):List (Nat × TB EE.T):=[(300000,.vec 300000 (.int .i64) r.2)]
def qg(N:Nat)(us:List (TV EE.T))(hs:List (Nat × TB EE.T)):XR EE.T:=
 gdX (gJ us 1) <| bnX (aD (.sl (.int .i64)) us 0) fun x0=>.mv (mC N x0) [] [] 1 EZ BB
theorem r8(N:Nat):XOk Tryd.prog EE 69 (qg N):=fun us hs=>
 aQ fun h1=>ah fun x0 h2=>fun p hz ρ hi=>by
  unfold mC at hz
  split at hz
  ·cases hz
  ·rename_i n r
   split at hz
   ·rename_i hl
    cases hz
    refine Nn (us':=[.a (.d (.sl (.int .i64)) (n::r))]) (h0:=[]) (ids:=[]) (ρ':=ρ) ⟨la h2,bY h1⟩ trivial (M5 n r hl) ?_
    rintro out H ⟨k,c,vs,rfl,rfl,hc⟩
    have hlive:a8 (dA ρ 300000 ⟨k,false,vs⟩) (TB.vec 300000 (.int .i64) (n::r):TB EE.T)=true:=by simp[a8]
    refine⟨dA ρ 300000 ⟨k,false,vs⟩,(fun i hi=>by cases hi),?_,?_,Inj.one⟩
    ·show AOut.ret _=AOut.ret (.v (vecV _ _ _))
     congr 2
     simp[vecV,dA,csz]
     omega
    ·refine Eq.trans ?_ (dQ (ρ:=dA ρ 300000 ⟨k,false,vs⟩) (k:=300000) EE.toEnc [] hlive).symm
     have e1:(dA ρ 300000 ⟨k,false,vs⟩) 300000=k:=by simp[Rn.b,dA]
     have e2:(TB.vec 300000 (.int .i64) (n::r):TB EE.T).to EE.toEnc (dA ρ 300000 ⟨k,false,vs⟩)=((n::r).map fun x=>[AV.v (.int .i64 x)]).flatten++vs.map AV.v:=by
      show _++ ((dA ρ 300000 ⟨k,false,vs⟩).k 300000).sp.map AV.v=_
      rw[show(dA ρ 300000 ⟨k,false,vs⟩).k 300000=⟨k,false,vs⟩ by simp[dA]]
      rfl
     rw[e1,e2];rfl
   ·cases hz
end Go.Proofs.YtobacplonkjigaaDoor
namespace Go.Proofs.YtobacplonkjigaaDoor
open Go.RowKit P
set_option maxRecDepth 100000
abbrev bJ:=UInt8 × Bool × (List UInt8) × Int × Int × Nat × (List Vstep)
def be(N:Nat)(y0_0:List UInt8)(y0_1:Int)(y0_2:Int)(y0_3:Nat)(y1:List Vstep):Option (PR bJ):=
 bif decide (y0_1 < (y0_0.length:Int)) then
  (bN y0_0 y0_1).bind fun z1=>
  some (.ok (z1,true,y0_0,y0_1,y0_2,y0_3,y1))
 else
  some (.ok (0,false,y0_0,y0_1,y0_2,y0_3,y1))
abbrev bH:=(List UInt8) × Int × Int × Nat × (List Vstep)
def aP(N:Nat)(x1:Int)(x2:Int)(y0_0:List UInt8)(y0_1:Int)(y0_2:Int)(y0_3:Nat)(y1:List Vstep):Option (PR bH):=
 some (.pan (Value.iface 53 (.agg #[.int .i64 x1,.int .i64 x2])))
abbrev aK:=(List Vstep) × (List Vstep)
def bO(N:Nat)(x0_o:Nat)(x0_n:Nat)(y0:List Vstep):Option (PR aK):=
 (JJ x0_o x0_n y0).bind fun z1=>
 (jf 32 ([] :List Vstep) z1).bind fun z2=>
 some (.ok (z2,y0))
abbrev bR:=(List Vstep) × (List UInt8) × Int × Int × Nat × (List Vstep)
def dr(N:Nat)(x1:Int)(y0_0:List UInt8)(y0_1:Int)(y0_2:Int)(y0_3:Nat)(y1:List Vstep):Option (PR bR):=
 (FE y0_3 x1 (y0_3:Int)).bind fun z1=>
 (bO N z1.1 (y0_3 - z1.1) y1).bind fun z2=>
 match z2 with
 |.pan vz2=>
  some (.pan vz2)
 |.ok z3=>
  (NL y0_3 z3.2 x1).bind fun z4=>
  some (.ok (z3.1,y0_0,y0_1,y0_2,z4.length,z4))
abbrev bT:=Int × (List UInt8) × Int × Int × Nat × (List Vstep)
def ak(N:Nat)(x1:Vstep)(y0_0:List UInt8)(y0_1:Int)(y0_2:Int)(y0_3:Nat)(y1:List Vstep):Option (PR bT):=
 (vg 32 y0_3 y1 ([x1] :List Vstep)).bind fun z1=>
 some (.ok (w64 ((z1.length:Int) - 1),y0_0,y0_1,y0_2,z1.length,z1))
abbrev aC:=(List UInt8) × Int × Int × Nat × (List Vstep)
def cH(N:Nat)(k2:Int→(List Vstep)→Int→Int→(List UInt8)→Int→Int→Nat→(List Vstep)→Option (PR aC))(n:Nat)(x6:Int)(x16:List Vstep)(x17:Int)(x18:Int)(b8:Vstep)(WL:List UInt8)(WJ:Int)(WK:Int)(WI:Nat)(WM:List Vstep):Option (PR aC):=
 (ak N b8 WL WJ WK WI WM).bind fun z2=>
 match z2 with
 |.pan vz2=>
  some (.pan vz2)
 |.ok z3=>
  k2 x6 x16 x17 (w64 (x18+1)) z3.2.1 z3.2.2.1 z3.2.2.2.1 z3.2.2.2.2.1 z3.2.2.2.2.2
def bK(N:Nat):Nat→Int→(List Vstep)→Int→Int→(List UInt8)→Int→Int→Nat→(List Vstep)→Option (PR aC)
 |0,_,_,_,_,_,_,_,_,_=>none
 |n+1,x6,x16,x17,x18,WL,WJ,WK,WI,WM=>
  bif decide (x18 < x17) then
   (bN x16 x18).bind fun z1=>
   bif z1.kind==1 then
    cH N (bK N n) n x6 x16 x17 x18 ({ kind:=z1.kind,a:=w64 (z1.a+x6),b:=w64 (z1.b+x6),set_:=z1.set_ }:Vstep) WL WJ WK WI WM
   else
    bif z1.kind==2 then
     cH N (bK N n) n x6 x16 x17 x18 ({ kind:=z1.kind,a:=w64 (z1.a+x6),b:=z1.b,set_:=z1.set_ }:Vstep) WL WJ WK WI WM
    else
     cH N (bK N n) n x6 x16 x17 x18 z1 WL WJ WK WI WM
  else
   some (.ok (WL,WJ,WK,WI,WM))
def bB(N:Nat)(x1:List Vstep)(x2:Int)(y0_0:List UInt8)(y0_1:Int)(y0_2:Int)(y0_3:Nat)(y1:List Vstep):Option (PR aC):=
 bK N N (w64 ((y0_3:Int) - x2)) x1 (x1.length:Int) 0 y0_0 y0_1 y0_2 y0_3 y1
abbrev iQ:=Option (List Bool)
def kE(N:Nat)(x0:UInt8):Option iQ:=
 (gN 256 (b2i x0)).bind fun z1=>
 (zB (List.replicate 256 false) (0+z1) true).bind fun z2=>
 (tP 256 z2).bind fun z3=>
 some (some z3)
abbrev bW:=Bool × (List UInt8) × Int × Int × Nat × (List Vstep)
def bn(N:Nat)(x1:UInt8)(y0_0:List UInt8)(y0_1:Int)(y0_2:Int)(y0_3:Nat)(y1:List Vstep):Option (PR bW):=
 (be N y0_0 y0_1 y0_2 y0_3 y1).bind fun z1=>
 match z1 with
 |.pan vz1=>
  some (.pan vz1)
 |.ok z2=>
  bif z2.2.1 then
   bif (b2i z2.1)==(b2i x1) then
    some (.ok (true,z2.2.2.1,w64 (z2.2.2.2.1+1),z2.2.2.2.2.1,z2.2.2.2.2.2.1,z2.2.2.2.2.2.2))
   else
    some (.ok (false,z2.2.2.1,z2.2.2.2.1,z2.2.2.2.2.1,z2.2.2.2.2.2.1,z2.2.2.2.2.2.2))
  else
   some (.ok (false,z2.2.2.1,z2.2.2.2.1,z2.2.2.2.2.1,z2.2.2.2.2.2.1,z2.2.2.2.2.2.2))
def cX(N:Nat)(x0:List UInt8)(x1:UInt8):Option Int:=
 (pE N x0 x1).bind fun z1=>
 some z1
abbrev aX:=UInt8 × (List UInt8) × Int × Int × Nat × (List Vstep)
def dF(N:Nat)(n:Nat)(x3:UInt8)(WL:List UInt8)(WJ:Int)(WK:Int)(WI:Nat)(WM:List Vstep):Option (PR aX):=
 (aP N 1 WJ WL WJ WK WI WM).bind fun z4=>
 match z4 with
 |.pan vz4=>
  some (.pan vz4)
 |.ok z5=>
  some (.ok (x3,z5.1,w64 (z5.2.1+1),z5.2.2.1,z5.2.2.2.1,z5.2.2.2.2))
def cM(N:Nat)(y0_0:List UInt8)(y0_1:Int)(y0_2:Int)(y0_3:Nat)(y1:List Vstep):Option (PR aX):=
 (be N y0_0 y0_1 y0_2 y0_3 y1).bind fun z1=>
 match z1 with
 |.pan vz1=>
  some (.pan vz1)
 |.ok z2=>
  bif !z2.2.1 then
   dF N N z2.1 z2.2.2.1 z2.2.2.2.1 z2.2.2.2.2.1 z2.2.2.2.2.2.1 z2.2.2.2.2.2.2
  else
   (cX N ([91,93,92,94,45] :List UInt8) z2.1).bind fun z3=>
   bif decide (z3≥0) then
    dF N N z2.1 z2.2.2.1 z2.2.2.2.1 z2.2.2.2.2.1 z2.2.2.2.2.2.1 z2.2.2.2.2.2.2
   else
    some (.ok (z2.1,z2.2.2.1,w64 (z2.2.2.2.1+1),z2.2.2.2.2.1,z2.2.2.2.2.2.1,z2.2.2.2.2.2.2))
abbrev ae:=(Option (List Bool)) × (List UInt8) × Int × Int × Nat × (List Vstep)
def dO(N:Nat)(k4:Bool→Bool→(List Bool)→(List UInt8)→Int→Int→Nat→(List Vstep)→Option (PR ae)):Nat→Bool→UInt8→Int→(List Bool)→(List UInt8)→Int→Int→Nat→(List Vstep)→Option (PR ae)
 |0,_,_,_,_,_,_,_,_,_=>none
 |n+1,x3,x7,x9,b4,WL,WJ,WK,WI,WM=>
  bif decide (x9≤(w64 (b2i x7))) then
   (gN 256 x9).bind fun z18=>
   (zB b4 (0+z18) true).bind fun z19=>
   dO N k4 n x3 x7 (w64 (x9+1)) z19 WL WJ WK WI WM
  else
   k4 x3 false b4 WL WJ WK WI WM
def cv(N:Nat)(k4:Bool→Bool→(List Bool)→(List UInt8)→Int→Int→Nat→(List Vstep)→Option (PR ae))(n:Nat)(x3:Bool)(x6:UInt8)(x7:UInt8)(b4:List Bool)(WL:List UInt8)(WJ:Int)(WK:Int)(WI:Nat)(WM:List Vstep):Option (PR ae):=
 dO N k4 n x3 x7 (w64 (b2i x6)) b4 WL WJ WK WI WM
def ed(N:Nat)(k4:Bool→Bool→(List Bool)→(List UInt8)→Int→Int→Nat→(List Vstep)→Option (PR ae))(n:Nat)(x3:Bool)(b4:List Bool)(WL:List UInt8)(WJ:Int)(WK:Int)(WI:Nat)(WM:List Vstep):Option (PR ae):=
 (cM N WL WJ WK WI WM).bind fun z5=>
 match z5 with
 |.pan vz5=>
  some (.pan vz5)
 |.ok z6=>
  (bn N 45 z6.2.1 z6.2.2.1 z6.2.2.2.1 z6.2.2.2.2.1 z6.2.2.2.2.2).bind fun z7=>
  match z7 with
  |.pan vz7=>
   some (.pan vz7)
  |.ok z8=>
   bif z8.1 then
    (cM N z8.2.1 z8.2.2.1 z8.2.2.2.1 z8.2.2.2.2.1 z8.2.2.2.2.2).bind fun z9=>
    match z9 with
    |.pan vz9=>
     some (.pan vz9)
    |.ok z10=>
     bif decide ((b2i z10.1) < (b2i z6.1)) then
      (aP N 3 z8.2.2.1 z10.2.1 z10.2.2.1 z10.2.2.2.1 z10.2.2.2.2.1 z10.2.2.2.2.2).bind fun z11=>
      match z11 with
      |.pan vz11=>
       some (.pan vz11)
      |.ok z12=>
       cv N k4 n x3 z6.1 z10.1 b4 z12.1 z12.2.1 z12.2.2.1 z12.2.2.2.1 z12.2.2.2.2
     else
      cv N k4 n x3 z6.1 z10.1 b4 z10.2.1 z10.2.2.1 z10.2.2.2.1 z10.2.2.2.2.1 z10.2.2.2.2.2
   else
    cv N k4 n x3 z6.1 z6.1 b4 z8.2.1 z8.2.2.1 z8.2.2.2.1 z8.2.2.2.2.1 z8.2.2.2.2.2
def dP(N:Nat):Nat→Bool→Int→(List Bool)→(List UInt8)→Int→Int→Nat→(List Vstep)→Option (PR ae)
 |0,_,_,_,_,_,_,_,_=>none
 |n+1,x3,x46,b4,WL,WJ,WK,WI,WM=>
  bif decide (x46 < 256) then
   (gN 256 x46).bind fun z13=>
   (b4[0+z13]?).bind fun z14=>
   (gN 256 x46).bind fun z15=>
   (zB b4 (0+z15) (!(z14==x3))).bind fun z16=>
   dP N n x3 (w64 (x46+1)) z16 WL WJ WK WI WM
  else
   (tP 256 b4).bind fun z17=>
   some (.ok ((some z17),WL,WJ,WK,WI,WM))
def cE(N:Nat):Nat→Bool→Bool→(List Bool)→(List UInt8)→Int→Int→Nat→(List Vstep)→Option (PR ae)
 |0,_,_,_,_,_,_,_,_=>none
 |n+1,x3,x5,b4,WL,WJ,WK,WI,WM=>
  bif x5 then
   ed N (cE N n) n x3 b4 WL WJ WK WI WM
  else
   (bn N 93 WL WJ WK WI WM).bind fun z3=>
   match z3 with
   |.pan vz3=>
    some (.pan vz3)
   |.ok z4=>
    bif !z4.1 then
     ed N (cE N n) n x3 b4 z4.2.1 z4.2.2.1 z4.2.2.2.1 z4.2.2.2.2.1 z4.2.2.2.2.2
    else
     dP N n x3 0 b4 z4.2.1 z4.2.2.1 z4.2.2.2.1 z4.2.2.2.2.1 z4.2.2.2.2.2
def eX(N:Nat)(y0_0:List UInt8)(y0_1:Int)(y0_2:Int)(y0_3:Nat)(y1:List Vstep):Option (PR ae):=
 (bn N 94 y0_0 y0_1 y0_2 y0_3 y1).bind fun z1=>
 match z1 with
 |.pan vz1=>
  some (.pan vz1)
 |.ok z2=>
  cE N N z2.1 true (List.replicate 256 false) z2.2.1 z2.2.2.1 z2.2.2.2.1 z2.2.2.2.2.1 z2.2.2.2.2.2
structure RecC where
 n:Nat
 k:(List UInt8)→Int→Int→Nat→(List Vstep)→Option (PR (Bool × (List UInt8) × Int × Int × Nat × (List Vstep)))
def eW(N:RecC)(y0_0:List UInt8)(y0_1:Int)(y0_2:Int)(y0_3:Nat)(y1:List Vstep):Option (PR (Bool × (List UInt8) × Int × Int × Nat × (List Vstep))):=N.k y0_0 y0_1 y0_2 y0_3 y1
abbrev bG:=Bool × (List UInt8) × Int × Int × Nat × (List Vstep)
def eG(N:RecC)(y0_0:List UInt8)(y0_1:Int)(y0_2:Int)(y0_3:Nat)(y1:List Vstep):Option (PR bG):=
 (eW N y0_0 y0_1 y0_2 y0_3 y1).bind fun z1=>
 match z1 with
 |.pan vz1=>
  some (.pan vz1)
 |.ok z2=>
  some (.ok (z2.1,z2.2.1,z2.2.2.1,z2.2.2.2.1,z2.2.2.2.2.1,z2.2.2.2.2.2))
abbrev aj:=Bool × (List UInt8) × Int × Int × Nat × (List Vstep)
def dG(N:RecC):Nat→Int→(List Bool)→(List UInt8)→Int→Int→Nat→(List Vstep)→Option (PR aj)
 |0,_,_,_,_,_,_,_=>none
 |n+1,x51,b4,WL,WJ,WK,WI,WM=>
  bif decide (x51 < 256) then
   (gN 256 x51).bind fun z13=>
   (zB b4 (0+z13) true).bind fun z14=>
   dG N n (w64 (x51+1)) z14 WL WJ WK WI WM
  else
   (tP 256 b4).bind fun z15=>
   (ak N.n ({ kind:=0,a:=0,b:=0,set_:=(some z15) }:Vstep) WL WJ WK WI WM).bind fun z16=>
   match z16 with
   |.pan vz16=>
    some (.pan vz16)
   |.ok z17=>
    some (.ok (false,z17.2.1,z17.2.2.1,z17.2.2.2.1,z17.2.2.2.2.1,z17.2.2.2.2.2))
def dC(N:RecC)(n:Nat)(x6:UInt8)(WL:List UInt8)(WJ:Int)(WK:Int)(WI:Nat)(WM:List Vstep):Option (PR aj):=
 (aP N.n 1 WJ WL WJ WK WI WM).bind fun z34=>
 match z34 with
 |.pan vz34=>
  some (.pan vz34)
 |.ok z35=>
  (kE N.n x6).bind fun z36=>
  (ak N.n ({ kind:=0,a:=0,b:=0,set_:=z36 }:Vstep) z35.1 (w64 (z35.2.1+1)) z35.2.2.1 z35.2.2.2.1 z35.2.2.2.2).bind fun z37=>
  match z37 with
  |.pan vz37=>
   some (.pan vz37)
  |.ok z38=>
   some (.ok (false,z38.2.1,z38.2.2.1,z38.2.2.2.1,z38.2.2.2.2.1,z38.2.2.2.2.2))
def ap(N:RecC)(n:Nat)(x6:UInt8)(x7:Bool)(x8:Bool)(WL:List UInt8)(WJ:Int)(WK:Int)(WI:Nat)(WM:List Vstep):Option (PR aj):=
 bif !x7 then
  dC N n x6 WL WJ WK WI WM
 else
  bif x8 then
   dC N n x6 WL WJ WK WI WM
  else
   (kE N.n x6).bind fun z18=>
   (ak N.n ({ kind:=0,a:=0,b:=0,set_:=z18 }:Vstep) WL (w64 (WJ+1)) WK WI WM).bind fun z19=>
   match z19 with
   |.pan vz19=>
    some (.pan vz19)
   |.ok z20=>
    some (.ok (false,z20.2.1,z20.2.2.1,z20.2.2.2.1,z20.2.2.2.2.1,z20.2.2.2.2.2))
def dB(N:RecC)(n:Nat)(WL:List UInt8)(WJ:Int)(WK:Int)(WI:Nat)(WM:List Vstep):Option (PR aj):=
 (ak N.n ({ kind:=3,a:=w64 (2 * (w64 (WK+1))),b:=0,set_:=(none:Option (List Bool)) }:Vstep) WL (w64 (WJ+1)) (w64 (WK+1)) WI WM).bind fun z21=>
 match z21 with
 |.pan vz21=>
  some (.pan vz21)
 |.ok z22=>
  (eW N z22.2.1 z22.2.2.1 z22.2.2.2.1 z22.2.2.2.2.1 z22.2.2.2.2.2).bind fun z23=>
  match z23 with
  |.pan vz23=>
   some (.pan vz23)
  |.ok z24=>
   (ak N.n ({ kind:=3,a:=w64 ((w64 (2 * (w64 (WK+1))))+1),b:=0,set_:=(none:Option (List Bool)) }:Vstep) z24.2.1 z24.2.2.1 z24.2.2.2.1 z24.2.2.2.2.1 z24.2.2.2.2.2).bind fun z25=>
   match z25 with
   |.pan vz25=>
    some (.pan vz25)
   |.ok z26=>
    (bn N.n 41 z26.2.1 z26.2.2.1 z26.2.2.2.1 z26.2.2.2.2.1 z26.2.2.2.2.2).bind fun z27=>
    match z27 with
    |.pan vz27=>
     some (.pan vz27)
    |.ok z28=>
     bif !z28.1 then
      (aP N.n 1 z28.2.2.1 z28.2.1 z28.2.2.1 z28.2.2.2.1 z28.2.2.2.2.1 z28.2.2.2.2.2).bind fun z29=>
      match z29 with
      |.pan vz29=>
       some (.pan vz29)
      |.ok z30=>
       some (.ok (z24.1,z30.1,z30.2.1,z30.2.2.1,z30.2.2.2.1,z30.2.2.2.2))
     else
      some (.ok (z24.1,z28.2.1,z28.2.2.1,z28.2.2.2.1,z28.2.2.2.2.1,z28.2.2.2.2.2))
def dS(N:RecC)(n:Nat)(x3:UInt8)(WL:List UInt8)(WJ:Int)(WK:Int)(WI:Nat)(WM:List Vstep):Option (PR aj):=
 (kE N.n x3).bind fun z31=>
 (ak N.n ({ kind:=0,a:=0,b:=0,set_:=z31 }:Vstep) WL (w64 (WJ+1)) WK WI WM).bind fun z32=>
 match z32 with
 |.pan vz32=>
  some (.pan vz32)
 |.ok z33=>
  some (.ok (false,z33.2.1,z33.2.2.1,z33.2.2.2.1,z33.2.2.2.2.1,z33.2.2.2.2.2))
def eF(N:RecC)(y0_0:List UInt8)(y0_1:Int)(y0_2:Int)(y0_3:Nat)(y1:List Vstep):Option (PR aj):=
 (bN y0_0 y0_1).bind fun z1=>
 bif (b2i z1)==(b2i 46) then
  dG N N.n 0 (List.replicate 256 false) y0_0 (w64 (y0_1+1)) y0_2 y0_3 y1
 else
  bif (b2i z1)==(b2i 92) then
   (be N.n y0_0 (w64 (y0_1+1)) y0_2 y0_3 y1).bind fun z2=>
   match z2 with
   |.pan vz2=>
    some (.pan vz2)
   |.ok z3=>
    bif decide ((b2i z3.1)≥(b2i 97)) then
     bif decide ((b2i z3.1)≤(b2i 122)) then
      ap N N.n z3.1 z3.2.1 true z3.2.2.1 z3.2.2.2.1 z3.2.2.2.2.1 z3.2.2.2.2.2.1 z3.2.2.2.2.2.2
     else
      bif decide ((b2i z3.1)≥(b2i 65)) then
       bif decide ((b2i z3.1)≤(b2i 90)) then
        ap N N.n z3.1 z3.2.1 true z3.2.2.1 z3.2.2.2.1 z3.2.2.2.2.1 z3.2.2.2.2.2.1 z3.2.2.2.2.2.2
       else
        bif decide ((b2i z3.1)≥(b2i 48)) then
         ap N N.n z3.1 z3.2.1 (decide ((b2i z3.1)≤(b2i 57))) z3.2.2.1 z3.2.2.2.1 z3.2.2.2.2.1 z3.2.2.2.2.2.1 z3.2.2.2.2.2.2
        else
         ap N N.n z3.1 z3.2.1 false z3.2.2.1 z3.2.2.2.1 z3.2.2.2.2.1 z3.2.2.2.2.2.1 z3.2.2.2.2.2.2
      else
       bif decide ((b2i z3.1)≥(b2i 48)) then
        ap N N.n z3.1 z3.2.1 (decide ((b2i z3.1)≤(b2i 57))) z3.2.2.1 z3.2.2.2.1 z3.2.2.2.2.1 z3.2.2.2.2.2.1 z3.2.2.2.2.2.2
       else
        ap N N.n z3.1 z3.2.1 false z3.2.2.1 z3.2.2.2.1 z3.2.2.2.2.1 z3.2.2.2.2.2.1 z3.2.2.2.2.2.2
    else
     bif decide ((b2i z3.1)≥(b2i 65)) then
      bif decide ((b2i z3.1)≤(b2i 90)) then
       ap N N.n z3.1 z3.2.1 true z3.2.2.1 z3.2.2.2.1 z3.2.2.2.2.1 z3.2.2.2.2.2.1 z3.2.2.2.2.2.2
      else
       bif decide ((b2i z3.1)≥(b2i 48)) then
        ap N N.n z3.1 z3.2.1 (decide ((b2i z3.1)≤(b2i 57))) z3.2.2.1 z3.2.2.2.1 z3.2.2.2.2.1 z3.2.2.2.2.2.1 z3.2.2.2.2.2.2
       else
        ap N N.n z3.1 z3.2.1 false z3.2.2.1 z3.2.2.2.1 z3.2.2.2.2.1 z3.2.2.2.2.2.1 z3.2.2.2.2.2.2
     else
      bif decide ((b2i z3.1)≥(b2i 48)) then
       ap N N.n z3.1 z3.2.1 (decide ((b2i z3.1)≤(b2i 57))) z3.2.2.1 z3.2.2.2.1 z3.2.2.2.2.1 z3.2.2.2.2.2.1 z3.2.2.2.2.2.2
      else
       ap N N.n z3.1 z3.2.1 false z3.2.2.1 z3.2.2.2.1 z3.2.2.2.2.1 z3.2.2.2.2.2.1 z3.2.2.2.2.2.2
  else
   bif (b2i z1)==(b2i 91) then
    (eX N.n y0_0 (w64 (y0_1+1)) y0_2 y0_3 y1).bind fun z4=>
    match z4 with
    |.pan vz4=>
     some (.pan vz4)
    |.ok z5=>
     (ak N.n ({ kind:=0,a:=0,b:=0,set_:=z5.1 }:Vstep) z5.2.1 z5.2.2.1 z5.2.2.2.1 z5.2.2.2.2.1 z5.2.2.2.2.2).bind fun z6=>
     match z6 with
     |.pan vz6=>
      some (.pan vz6)
     |.ok z7=>
      some (.ok (false,z7.2.1,z7.2.2.1,z7.2.2.2.1,z7.2.2.2.2.1,z7.2.2.2.2.2))
   else
    bif (b2i z1)==(b2i 40) then
     bif y0_2==9 then
      (aP N.n 2 y0_1 y0_0 y0_1 y0_2 y0_3 y1).bind fun z8=>
      match z8 with
      |.pan vz8=>
       some (.pan vz8)
      |.ok z9=>
       dB N N.n z9.1 z9.2.1 z9.2.2.1 z9.2.2.2.1 z9.2.2.2.2
     else
      dB N N.n y0_0 y0_1 y0_2 y0_3 y1
    else
     (cX N.n ([42,43,63,41,124,93] :List UInt8) z1).bind fun z10=>
     bif decide (z10≥0) then
      (aP N.n 1 y0_1 y0_0 y0_1 y0_2 y0_3 y1).bind fun z11=>
      match z11 with
      |.pan vz11=>
       some (.pan vz11)
      |.ok z12=>
       dS N N.n z1 z12.1 z12.2.1 z12.2.2.1 z12.2.2.2.1 z12.2.2.2.2
     else
      dS N N.n z1 y0_0 y0_1 y0_2 y0_3 y1
abbrev aE:=Bool × (List UInt8) × Int × Int × Nat × (List Vstep)
def br(N:RecC)(n:Nat)(x3:Int)(x6:UInt8)(WL:List UInt8)(WJ:Int)(WK:Int)(WI:Nat)(WM:List Vstep):Option (PR aE):=
 (dr N.n x3 WL (w64 (WJ+1)) WK WI WM).bind fun z8=>
 match z8 with
 |.pan vz8=>
  some (.pan vz8)
 |.ok z9=>
  bif (b2i x6)==(b2i 42) then
   (ak N.n ({ kind:=1,a:=0,b:=0,set_:=(none:Option (List Bool)) }:Vstep) z9.2.1 z9.2.2.1 z9.2.2.2.1 z9.2.2.2.2.1 z9.2.2.2.2.2).bind fun z10=>
   match z10 with
   |.pan vz10=>
    some (.pan vz10)
   |.ok z11=>
    (gN z11.2.2.2.2.1 z11.1).bind fun z12=>
    (z11.2.2.2.2.2[z12]?).bind fun z13=>
    (bB N.n z9.1 x3 z11.2.1 z11.2.2.1 z11.2.2.2.1 z11.2.2.2.2.1 (List.set z11.2.2.2.2.2 z12 ({ kind:=z13.kind,a:=(z11.2.2.2.2.1:Int),b:=z13.b,set_:=z13.set_ }:Vstep))).bind fun z14=>
    match z14 with
    |.pan vz14=>
     some (.pan vz14)
    |.ok z15=>
     (ak N.n ({ kind:=2,a:=z11.1,b:=0,set_:=(none:Option (List Bool)) }:Vstep) z15.1 z15.2.1 z15.2.2.1 z15.2.2.2.1 z15.2.2.2.2).bind fun z16=>
     match z16 with
     |.pan vz16=>
      some (.pan vz16)
     |.ok z17=>
      (gN z17.2.2.2.2.1 z11.1).bind fun z18=>
      (z17.2.2.2.2.2[z18]?).bind fun z19=>
      some (.ok (true,z17.2.1,z17.2.2.1,z17.2.2.2.1,z17.2.2.2.2.1,List.set z17.2.2.2.2.2 z18 ({ kind:=z19.kind,a:=z19.a,b:=(z17.2.2.2.2.1:Int),set_:=z19.set_ }:Vstep)))
  else
   bif (b2i x6)==(b2i 43) then
    (bB N.n z9.1 x3 z9.2.1 z9.2.2.1 z9.2.2.2.1 z9.2.2.2.2.1 z9.2.2.2.2.2).bind fun z20=>
    match z20 with
    |.pan vz20=>
     some (.pan vz20)
    |.ok z21=>
     (ak N.n ({ kind:=1,a:=x3,b:=0,set_:=(none:Option (List Bool)) }:Vstep) z21.1 z21.2.1 z21.2.2.1 z21.2.2.2.1 z21.2.2.2.2).bind fun z22=>
     match z22 with
     |.pan vz22=>
      some (.pan vz22)
     |.ok z23=>
      (gN z23.2.2.2.2.1 z23.1).bind fun z24=>
      (z23.2.2.2.2.2[z24]?).bind fun z25=>
      some (.ok (false,z23.2.1,z23.2.2.1,z23.2.2.2.1,z23.2.2.2.2.1,List.set z23.2.2.2.2.2 z24 ({ kind:=z25.kind,a:=z25.a,b:=(z23.2.2.2.2.1:Int),set_:=z25.set_ }:Vstep)))
   else
    (ak N.n ({ kind:=1,a:=0,b:=0,set_:=(none:Option (List Bool)) }:Vstep) z9.2.1 z9.2.2.1 z9.2.2.2.1 z9.2.2.2.2.1 z9.2.2.2.2.2).bind fun z26=>
    match z26 with
    |.pan vz26=>
     some (.pan vz26)
    |.ok z27=>
     (gN z27.2.2.2.2.1 z27.1).bind fun z28=>
     (z27.2.2.2.2.2[z28]?).bind fun z29=>
     (bB N.n z9.1 x3 z27.2.1 z27.2.2.1 z27.2.2.2.1 z27.2.2.2.2.1 (List.set z27.2.2.2.2.2 z28 ({ kind:=z29.kind,a:=(z27.2.2.2.2.1:Int),b:=z29.b,set_:=z29.set_ }:Vstep))).bind fun z30=>
     match z30 with
     |.pan vz30=>
      some (.pan vz30)
     |.ok z31=>
      (gN z31.2.2.2.1 z27.1).bind fun z32=>
      (z31.2.2.2.2[z32]?).bind fun z33=>
      some (.ok (true,z31.1,z31.2.1,z31.2.2.1,z31.2.2.2.1,List.set z31.2.2.2.2 z32 ({ kind:=z33.kind,a:=z33.a,b:=(z31.2.2.2.1:Int),set_:=z33.set_ }:Vstep)))
def cj(N:RecC)(n:Nat)(x3:Int)(x4:Bool)(x5:Bool)(x6:UInt8)(WL:List UInt8)(WJ:Int)(WK:Int)(WI:Nat)(WM:List Vstep):Option (PR aE):=
 bif x5 then
  bif x4 then
   bif (b2i x6) != (b2i 63) then
    (aP N.n 4 WJ WL WJ WK WI WM).bind fun z6=>
    match z6 with
    |.pan vz6=>
     some (.pan vz6)
    |.ok z7=>
     br N n x3 x6 z7.1 z7.2.1 z7.2.2.1 z7.2.2.2.1 z7.2.2.2.2
   else
    br N n x3 x6 WL WJ WK WI WM
  else
   br N n x3 x6 WL WJ WK WI WM
 else
  br N n x3 x6 WL WJ WK WI WM
def ek(N:RecC)(y0_0:List UInt8)(y0_1:Int)(y0_2:Int)(y0_3:Nat)(y1:List Vstep):Option (PR aE):=
 (bN y0_0 y0_1).bind fun z1=>
 (eF N y0_0 y0_1 y0_2 y0_3 y1).bind fun z2=>
 match z2 with
 |.pan vz2=>
  some (.pan vz2)
 |.ok z3=>
  (be N.n z3.2.1 z3.2.2.1 z3.2.2.2.1 z3.2.2.2.2.1 z3.2.2.2.2.2).bind fun z4=>
  match z4 with
  |.pan vz4=>
   some (.pan vz4)
  |.ok z5=>
   bif !z5.2.1 then
    some (.ok (z3.1,z5.2.2.1,z5.2.2.2.1,z5.2.2.2.2.1,z5.2.2.2.2.2.1,z5.2.2.2.2.2.2))
   else
    bif (b2i z5.1) != (b2i 42) then
     bif (b2i z5.1) != (b2i 43) then
      bif (b2i z5.1) != (b2i 63) then
       some (.ok (z3.1,z5.2.2.1,z5.2.2.2.1,z5.2.2.2.2.1,z5.2.2.2.2.2.1,z5.2.2.2.2.2.2))
      else
       cj N N.n (y0_3:Int) ((b2i z1)==(b2i 40)) z3.1 z5.1 z5.2.2.1 z5.2.2.2.1 z5.2.2.2.2.1 z5.2.2.2.2.2.1 z5.2.2.2.2.2.2
     else
      cj N N.n (y0_3:Int) ((b2i z1)==(b2i 40)) z3.1 z5.1 z5.2.2.1 z5.2.2.2.1 z5.2.2.2.2.1 z5.2.2.2.2.2.1 z5.2.2.2.2.2.2
    else
     cj N N.n (y0_3:Int) ((b2i z1)==(b2i 40)) z3.1 z5.1 z5.2.2.1 z5.2.2.2.1 z5.2.2.2.2.1 z5.2.2.2.2.2.1 z5.2.2.2.2.2.2
abbrev bc:=Bool × (List UInt8) × Int × Int × Nat × (List Vstep)
def cG(N:RecC):Nat→Bool→(List UInt8)→Int→Int→Nat→(List Vstep)→Option (PR bc)
 |0,_,_,_,_,_,_=>none
 |n+1,x3,WL,WJ,WK,WI,WM=>
  (be N.n WL WJ WK WI WM).bind fun z1=>
  match z1 with
  |.pan vz1=>
   some (.pan vz1)
  |.ok z2=>
   bif !z2.2.1 then
    some (.ok (x3,z2.2.2.1,z2.2.2.2.1,z2.2.2.2.2.1,z2.2.2.2.2.2.1,z2.2.2.2.2.2.2))
   else
    bif (b2i z2.1)==(b2i 124) then
     some (.ok (x3,z2.2.2.1,z2.2.2.2.1,z2.2.2.2.2.1,z2.2.2.2.2.2.1,z2.2.2.2.2.2.2))
    else
     bif (b2i z2.1)==(b2i 41) then
      some (.ok (x3,z2.2.2.1,z2.2.2.2.1,z2.2.2.2.2.1,z2.2.2.2.2.2.1,z2.2.2.2.2.2.2))
     else
      (ek N z2.2.2.1 z2.2.2.2.1 z2.2.2.2.2.1 z2.2.2.2.2.2.1 z2.2.2.2.2.2.2).bind fun z3=>
      match z3 with
      |.pan vz3=>
       some (.pan vz3)
      |.ok z4=>
       bif !z4.1 then
        cG N n false z4.2.1 z4.2.2.1 z4.2.2.2.1 z4.2.2.2.2.1 z4.2.2.2.2.2
       else
        cG N n x3 z4.2.1 z4.2.2.1 z4.2.2.2.1 z4.2.2.2.2.1 z4.2.2.2.2.2
def fe(N:RecC)(y0_0:List UInt8)(y0_1:Int)(y0_2:Int)(y0_3:Nat)(y1:List Vstep):Option (PR bc):=
 cG N N.n true y0_0 y0_1 y0_2 y0_3 y1
abbrev au:=Bool × (List UInt8) × Int × Int × Nat × (List Vstep)
def dD(N:RecC)(k3:Int→Bool→(List UInt8)→Int→Int→Nat→(List Vstep)→Option (PR au))(n:Nat)(x4:Bool)(x7:Int)(WL:List UInt8)(WJ:Int)(WK:Int)(WI:Nat)(WM:List Vstep):Option (PR au):=
 (gN WI x7).bind fun z19=>
 (WM[z19]?).bind fun z20=>
 some (.ok (x4,WL,WJ,WK,WI,List.set WM z19 ({ kind:=z20.kind,a:=(WI:Int),b:=z20.b,set_:=z20.set_ }:Vstep)))
def cu(N:RecC):Nat→Int→Bool→(List UInt8)→Int→Int→Nat→(List Vstep)→Option (PR au)
 |0,_,_,_,_,_,_,_=>none
 |n+1,x3,x4,WL,WJ,WK,WI,WM=>
  (bn N.n 124 WL WJ WK WI WM).bind fun z3=>
  match z3 with
  |.pan vz3=>
   some (.pan vz3)
  |.ok z4=>
   bif z4.1 then
    (dr N.n x3 z4.2.1 z4.2.2.1 z4.2.2.2.1 z4.2.2.2.2.1 z4.2.2.2.2.2).bind fun z5=>
    match z5 with
    |.pan vz5=>
     some (.pan vz5)
    |.ok z6=>
     (ak N.n ({ kind:=1,a:=0,b:=0,set_:=(none:Option (List Bool)) }:Vstep) z6.2.1 z6.2.2.1 z6.2.2.2.1 z6.2.2.2.2.1 z6.2.2.2.2.2).bind fun z7=>
     match z7 with
     |.pan vz7=>
      some (.pan vz7)
     |.ok z8=>
      (gN z8.2.2.2.2.1 z8.1).bind fun z9=>
      (z8.2.2.2.2.2[z9]?).bind fun z10=>
      (bB N.n z6.1 x3 z8.2.1 z8.2.2.1 z8.2.2.2.1 z8.2.2.2.2.1 (List.set z8.2.2.2.2.2 z9 ({ kind:=z10.kind,a:=(z8.2.2.2.2.1:Int),b:=z10.b,set_:=z10.set_ }:Vstep))).bind fun z11=>
      match z11 with
      |.pan vz11=>
       some (.pan vz11)
      |.ok z12=>
       (ak N.n ({ kind:=2,a:=0,b:=0,set_:=(none:Option (List Bool)) }:Vstep) z12.1 z12.2.1 z12.2.2.1 z12.2.2.2.1 z12.2.2.2.2).bind fun z13=>
       match z13 with
       |.pan vz13=>
        some (.pan vz13)
       |.ok z14=>
        (gN z14.2.2.2.2.1 z8.1).bind fun z15=>
        (z14.2.2.2.2.2[z15]?).bind fun z16=>
        (eG N z14.2.1 z14.2.2.1 z14.2.2.2.1 z14.2.2.2.2.1 (List.set z14.2.2.2.2.2 z15 ({ kind:=z16.kind,a:=z16.a,b:=(z14.2.2.2.2.1:Int),set_:=z16.set_ }:Vstep))).bind fun z17=>
        match z17 with
        |.pan vz17=>
         some (.pan vz17)
        |.ok z18=>
         bif z18.1 then
          dD N (cu N n) n true z14.1 z18.2.1 z18.2.2.1 z18.2.2.2.1 z18.2.2.2.2.1 z18.2.2.2.2.2
         else
          dD N (cu N n) n x4 z14.1 z18.2.1 z18.2.2.1 z18.2.2.2.1 z18.2.2.2.2.1 z18.2.2.2.2.2
   else
    some (.ok (x4,z4.2.1,z4.2.2.1,z4.2.2.2.1,z4.2.2.2.2.1,z4.2.2.2.2.2))
def eE(N:RecC)(y0_0:List UInt8)(y0_1:Int)(y0_2:Int)(y0_3:Nat)(y1:List Vstep):Option (PR au):=
 (fe N y0_0 y0_1 y0_2 y0_3 y1).bind fun z1=>
 match z1 with
 |.pan vz1=>
  some (.pan vz1)
 |.ok z2=>
  cu N N.n (y0_3:Int) z2.1 z2.2.1 z2.2.2.1 z2.2.2.2.1 z2.2.2.2.2.1 z2.2.2.2.2.2
def gD(n0:Nat):Nat→(List UInt8)→Int→Int→Nat→(List Vstep)→Option (PR (Bool × (List UInt8) × Int × Int × Nat × (List Vstep)))
 |0,_,_,_,_,_=>none
 |m+1,y0_0,y0_1,y0_2,y0_3,y1=>eE ⟨n0,gD n0 m⟩ y0_0 y0_1 y0_2 y0_3 y1
abbrev aZ:=List (List UInt8)
def dH(N:Nat)(k3:(Option VMask)→(List UInt8)→(List Int)→(List (List UInt8))→Int→Option aZ)(n:Nat)(x0:Option VMask)(x1:List UInt8)(x2:List Int)(x7:List (List UInt8))(x8:Int)(x9:List UInt8):Option aZ:=
 (jf 16 x7 ([x9] :List (List UInt8))).bind fun z8=>
 k3 x0 x1 x2 z8 (w64 (x8+1))
def cA(N:Nat):Nat→(Option VMask)→(List UInt8)→(List Int)→(List (List UInt8))→Int→Option aZ
 |0,_,_,_,_,_=>none
 |n+1,x0,x1,x2,x7,x8=>
  (x0).bind fun z1=>
  bif decide (x8≤z1.Groups) then
   (bN x2 (w64 (2 * x8))).bind fun z2=>
   bif decide (z2≥0) then
    (bN x2 (w64 ((w64 (2 * x8))+1))).bind fun z3=>
    (bN x2 (w64 (2 * x8))).bind fun z4=>
    bif decide (z3≥z4) then
     (bN x2 (w64 (2 * x8))).bind fun z5=>
     (bN x2 (w64 ((w64 (2 * x8))+1))).bind fun z6=>
     (oG x1 z5 z6).bind fun z7=>
     dH N (cA N n) n x0 x1 x2 x7 x8 z7
    else
     dH N (cA N n) n x0 x1 x2 x7 x8 ([] :List UInt8)
   else
    dH N (cA N n) n x0 x1 x2 x7 x8 ([] :List UInt8)
  else
   some x7
def gS(N:Nat)(x0:Option VMask)(x1:List UInt8)(x2:List Int):Option aZ:=
 cA N N x0 x1 x2 ([] :List (List UInt8)) 1
def ic(N:Nat)(x0:UInt8):Option Bool:=
 bif decide ((b2i x0)≥(b2i 48)) then
  some (decide ((b2i x0)≤(b2i 57)))
 else
  some false
abbrev dy:=(List Vpiece) × Bool
def dt(N:Nat):Nat→(List UInt8)→(List Vpiece)→Option dy
 |0,_,_=>none
 |n+1,x0,x4=>
  bif !decide (x0=([] :List UInt8)) then
   (bN x0 0).bind fun z1=>
   bif (b2i z1) != (b2i 36) then
    (O8 x0 ([36] :List UInt8)).bind fun z2=>
    (cX N z2 36).bind fun z3=>
    (oG x0 0 z3).bind fun z4=>
    (jf 24 x4 ([({ text:=z4,group:=(-1) }:Vpiece)] :List Vpiece)).bind fun z5=>
    (oG x0 z3 (x0.length:Int)).bind fun z6=>
    dt N n z6 z5
   else
    (oG x0 1 (x0.length:Int)).bind fun z7=>
    bif decide (z7=([] :List UInt8)) then
     some (([] :List Vpiece),false)
    else
     (bN z7 0).bind fun z8=>
     bif (b2i z8)==(b2i 36) then
      (jf 24 x4 ([({ text:=([36] :List UInt8),group:=(-1) }:Vpiece)] :List Vpiece)).bind fun z9=>
      (oG z7 1 (z7.length:Int)).bind fun z10=>
      dt N n z10 z9
     else
      (bN z7 0).bind fun z11=>
      (ic N z11).bind fun z12=>
      bif z12 then
       (bN z7 0).bind fun z13=>
       (jf 24 x4 ([({ text:=([] :List UInt8),group:=w64 (b2i (toB (IntKind.wrap .u8 ((b2i z13) - (b2i 48))))) }:Vpiece)] :List Vpiece)).bind fun z14=>
       (oG z7 1 (z7.length:Int)).bind fun z15=>
       dt N n z15 z14
      else
       bif decide ((z7.length:Int) > 2) then
        (bN z7 0).bind fun z16=>
        bif (b2i z16)==(b2i 123) then
         (bN z7 1).bind fun z17=>
         (ic N z17).bind fun z18=>
         bif z18 then
          (bN z7 2).bind fun z19=>
          bif (b2i z19)==(b2i 125) then
           (bN z7 1).bind fun z20=>
           (jf 24 x4 ([({ text:=([] :List UInt8),group:=w64 (b2i (toB (IntKind.wrap .u8 ((b2i z20) - (b2i 48))))) }:Vpiece)] :List Vpiece)).bind fun z21=>
           (oG z7 3 (z7.length:Int)).bind fun z22=>
           dt N n z22 z21
          else
           some (([] :List Vpiece),false)
         else
          some (([] :List Vpiece),false)
        else
         some (([] :List Vpiece),false)
       else
        some (([] :List Vpiece),false)
  else
   some (x4,true)
def g9(N:Nat)(x0:List UInt8):Option dy:=
 dt N N x0 ([] :List Vpiece)
structure RecC2 where
 n:Nat
 k:(Option VMask)→Nat→Vthread→Int→(List Vthread)→(List (Int × Bool))→Option (PR (Nat × (List Vthread) × (List (Int × Bool))))
def dX(N:RecC2)(x0:Option VMask)(x1_n:Nat)(x3:Vthread)(x4:Int)(y0:List Vthread)(y1:List (Int × Bool)):Option (PR (Nat × (List Vthread) × (List (Int × Bool)))):=N.k x0 x1_n x3 x4 y0 y1
abbrev bu:=Nat × (List Vthread) × (List (Int × Bool))
def jk(N:RecC2)(n:Nat)(x0:Option VMask)(x1_n:Nat)(x4:Int)(b8:Vthread)(b11:Vstep)(WP:List (Int × Bool))(WQ:List Vthread):Option (PR bu):=
 bif b11.kind==2 then
  (dX N x0 x1_n ({ at_:=b11.a,slots:=b8.slots }:Vthread) x4 WQ WP).bind fun z3=>
  match z3 with
  |.pan vz3=>
   some (.pan vz3)
  |.ok z4=>
   some (.ok (z4.1,z4.2.1,z4.2.2))
 else
  bif b11.kind==1 then
   (dX N x0 x1_n ({ at_:=b11.a,slots:=b8.slots }:Vthread) x4 WQ WP).bind fun z5=>
   match z5 with
   |.pan vz5=>
    some (.pan vz5)
   |.ok z6=>
    (dX N x0 z6.1 ({ at_:=b11.b,slots:=b8.slots }:Vthread) x4 z6.2.1 z6.2.2).bind fun z7=>
    match z7 with
    |.pan vz7=>
     some (.pan vz7)
    |.ok z8=>
     some (.ok (z8.1,z8.2.1,z8.2.2))
  else
   bif b11.kind==3 then
    (mC N.n b8.slots).bind fun z9=>
    match z9 with
    |.pan vz9=>
     some (.pan vz9)
    |.ok z10=>
     (gN z10.1 b11.a).bind fun z11=>
     (z10.2[z11]?).bind fun z12=>
     (tP z10.1 (List.set z10.2 z11 x4)).bind fun z13=>
     (dX N x0 x1_n ({ at_:=w64 (b8.at_+1),slots:=z13 }:Vthread) x4 WQ WP).bind fun z14=>
     match z14 with
     |.pan vz14=>
      some (.pan vz14)
     |.ok z15=>
      some (.ok (z15.1,z15.2.1,z15.2.2))
   else
    (vg 32 x1_n WQ ([b8] :List Vthread)).bind fun z16=>
    some (.ok (z16.length,z16,WP))
def i9(N:RecC2)(x0:Option VMask)(x1_n:Nat)(x3:Vthread)(x4:Int)(y0:List Vthread)(y1:List (Int × Bool)):Option (PR bu):=
 bif (wI y1 x3.at_).getD false then
  some (.ok (x1_n,y0,y1))
 else
  (x0).bind fun z1=>
  (bN z1.steps x3.at_).bind fun z2=>
  jk N N.n x0 x1_n x4 x3 z2 (Dm y1 x3.at_ true) y0
def iv(n0:Nat):Nat→(Option VMask)→Nat→Vthread→Int→(List Vthread)→(List (Int × Bool))→Option (PR (Nat × (List Vthread) × (List (Int × Bool))))
 |0,_,_,_,_,_,_=>none
 |m+1,x0,x1_n,x3,x4,y0,y1=>i9 ⟨n0,iv n0 m⟩ x0 x1_n x3 x4 y0 y1
def cC(N:Nat)(x0:Option VMask)(x1_n:Nat)(x3:Vthread)(x4:Int)(y0:List Vthread)(y1:List (Int × Bool)):Option (PR (Nat × (List Vthread) × (List (Int × Bool)))):=iv N N x0 x1_n x3 x4 y0 y1
end Go.Proofs.YtobacplonkjigaaDoor
