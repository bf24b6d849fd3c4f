/- Texts of this seat's, what the claim needs of them. -/
import Derived.Test.YtlakomilichhnaaGreatDoorZOc
import Derived.Test.YtlakomilichhnaaGreatDoorYXOl
import Derived.Test.YtlakomilichhnaaGreatDoorYXShelf
namespace Go.Proofs.YtlakomilichhnaaGreatDoor
set_option maxHeartbeats 1600000
set_option maxRecDepth 100000
open Go.RowKit
open Go renaming Calls→Ac,World→A9,wpList_append_own→Ci
open IntKind renaming i64→AU,wrap_i64→AP
open Lib renaming hid→J,size_eq→Ak
open List renaming drop_drop→BT,drop_eq_nil_of_le→AB,drop_zero→AM,length_append→Af,length_drop→AG,length_nil→BL,length_take→Az,map_append→AS
open Nat renaming zero_le→Ae
open Proofs.Tryz renaming func246→Ax,ntmps246→As,prog→A3,underlying26→Bb
open Tx renaming cell_one_at→DB,extract_wid→Fw,foldC→Am,foldP→FN,foldS→Do,foldStep→Dv,foldT→BH,letter→I6,own_later→E4,rdec→Bv,retb→Ay,sepW→F0,wStep→Jw,wid→Ch,words→Bh
theorem fold_0_c (n:Int) (w:A9) (h:0≤n∧n≤64) :
  Ac A3 246 #[.int .i64 n] w fun e w'=>e=.returned (.string ⟨#[]⟩)∧w=w':=by
 have t0:n<65:=by omega
 have t1:n<192:=by omega
 clear h
 go_enter Ax,As
 go_wp2
 go_ret
 exact⟨rfl,rfl⟩
theorem fold_91_c (n:Int) (w:A9) (h:91≤n∧n≤191) :
  Ac A3 246 #[.int .i64 n] w fun e w'=>e=.returned (.string ⟨#[]⟩)∧w=w':=by
 have t0:(65:Int)≤n:=by omega
 have t1:(90:Int)<n:=by omega
 have t2:n<192:=by omega
 clear h
 go_enter Ax,As
 go_wp2
 go_ret
 exact⟨rfl,rfl⟩
theorem fold_256_c (n:Int) (w:A9) (h:256≤n∧n≤1000000000) :
  Ac A3 246 #[.int .i64 n] w fun e w'=>e=.returned (.string ⟨#[]⟩)∧w=w':=by
 have t0:(65:Int)≤n:=by omega
 have t1:(90:Int)<n:=by omega
 have t2:(192:Int)≤n:=by omega
 have t3:(255:Int)<n:=by omega
 clear h
 go_enter Ax,As
 go_wp2
 go_ret
 exact⟨rfl,rfl⟩
theorem fold_215_c (n:Int) (w:A9) (h:215≤n∧n≤215) :
  Ac A3 246 #[.int .i64 n] w fun e w'=>e=.returned (.string ⟨#[]⟩)∧w=w':=by
 have t0:(65:Int)≤n:=by omega
 have t1:(90:Int)<n:=by omega
 have t2:(192:Int)≤n:=by omega
 have t3:n≤255:=by omega
 have t4:(n == (215:Int))=true:=by simp;omega
 clear h
 go_enter Ax,As
 go_wp2
 go_ret
 exact⟨rfl,rfl⟩
theorem fold_247_c (n:Int) (w:A9) (h:247≤n∧n≤247) :
  Ac A3 246 #[.int .i64 n] w fun e w'=>e=.returned (.string ⟨#[]⟩)∧w=w':=by
 have t0:(65:Int)≤n:=by omega
 have t1:(90:Int)<n:=by omega
 have t2:(192:Int)≤n:=by omega
 have t3:n≤255:=by omega
 have t4:(n == (215:Int))=false:=by simp;omega
 have t5:(n == (247:Int))=true:=by simp;omega
 clear h
 go_enter Ax,As
 go_wp2
 go_ret
 exact⟨rfl,rfl⟩
theorem fold_223_c (n:Int) (w:A9) (h:223≤n∧n≤223) :
  Ac A3 246 #[.int .i64 n] w fun e w'=>e=.returned (.string ⟨#[115,115]⟩)∧w=w':=by
 have t0:(65:Int)≤n:=by omega
 have t1:(90:Int)<n:=by omega
 have t2:(192:Int)≤n:=by omega
 have t3:n≤255:=by omega
 have t4:(n == (215:Int))=false:=by simp;omega
 have t5:(n == (247:Int))=false:=by simp;omega
 have t6:(n == (223:Int))=true:=by simp;omega
 clear h
 go_enter Ax,As
 go_wp2
 go_ret
 exact⟨rfl,rfl⟩
theorem fold_255_c (n:Int) (w:A9) (h:255≤n∧n≤255) :
  Ac A3 246 #[.int .i64 n] w fun e w'=>e=.returned (.string ⟨#[121]⟩)∧w=w':=by
 have t0:(65:Int)≤n:=by omega
 have t1:(90:Int)<n:=by omega
 have t2:(192:Int)≤n:=by omega
 have t3:n≤255:=by omega
 have t4:(n == (215:Int))=false:=by simp;omega
 have t5:(n == (247:Int))=false:=by simp;omega
 have t6:(n == (223:Int))=false:=by simp;omega
 have t7:(n == (255:Int))=true:=by simp;omega
 clear h
 go_enter Ax,As
 go_wp2
 go_ret
 exact⟨rfl,rfl⟩
theorem fold_192_c (n:Int) (w:A9) (h:192≤n∧n≤197) :
  Ac A3 246 #[.int .i64 n] w fun e w'=>e=.returned (.string ⟨#[97]⟩)∧w=w':=by
 have t0:(65:Int)≤n:=by omega
 have t1:(90:Int)<n:=by omega
 have t2:(192:Int)≤n:=by omega
 have t3:n≤255:=by omega
 have t4:(n == (215:Int))=false:=by simp;omega
 have t5:(n == (247:Int))=false:=by simp;omega
 have t6:(n == (223:Int))=false:=by simp;omega
 have t7:(n == (255:Int))=false:=by simp;omega
 have t8:n<224:=by omega
 have t9:n≤197:=by omega
 clear h
 go_enter Ax,As
 go_wp2
 go_ret
 exact⟨rfl,rfl⟩
theorem fold_198_c (n:Int) (w:A9) (h:198≤n∧n≤198) :
  Ac A3 246 #[.int .i64 n] w fun e w'=>e=.returned (.string ⟨#[97,101]⟩)∧w=w':=by
 have t0:(65:Int)≤n:=by omega
 have t1:(90:Int)<n:=by omega
 have t2:(192:Int)≤n:=by omega
 have t3:n≤255:=by omega
 have t4:(n == (215:Int))=false:=by simp;omega
 have t5:(n == (247:Int))=false:=by simp;omega
 have t6:(n == (223:Int))=false:=by simp;omega
 have t7:(n == (255:Int))=false:=by simp;omega
 have t8:n<224:=by omega
 have t9:(197:Int)<n:=by omega
 have t10:(n == (198:Int))=true:=by simp;omega
 clear h
 go_enter Ax,As
 go_wp2
 go_ret
 exact⟨rfl,rfl⟩
theorem fold_199_c (n:Int) (w:A9) (h:199≤n∧n≤199) :
  Ac A3 246 #[.int .i64 n] w fun e w'=>e=.returned (.string ⟨#[99]⟩)∧w=w':=by
 have t0:(65:Int)≤n:=by omega
 have t1:(90:Int)<n:=by omega
 have t2:(192:Int)≤n:=by omega
 have t3:n≤255:=by omega
 have t4:(n == (215:Int))=false:=by simp;omega
 have t5:(n == (247:Int))=false:=by simp;omega
 have t6:(n == (223:Int))=false:=by simp;omega
 have t7:(n == (255:Int))=false:=by simp;omega
 have t8:n<224:=by omega
 have t9:(197:Int)<n:=by omega
 have t10:(n == (198:Int))=false:=by simp;omega
 have t11:(n == (199:Int))=true:=by simp;omega
 clear h
 go_enter Ax,As
 go_wp2
 go_ret
 exact⟨rfl,rfl⟩
theorem fold_200_c (n:Int) (w:A9) (h:200≤n∧n≤203) :
  Ac A3 246 #[.int .i64 n] w fun e w'=>e=.returned (.string ⟨#[101]⟩)∧w=w':=by
 have t0:(65:Int)≤n:=by omega
 have t1:(90:Int)<n:=by omega
 have t2:(192:Int)≤n:=by omega
 have t3:n≤255:=by omega
 have t4:(n == (215:Int))=false:=by simp;omega
 have t5:(n == (247:Int))=false:=by simp;omega
 have t6:(n == (223:Int))=false:=by simp;omega
 have t7:(n == (255:Int))=false:=by simp;omega
 have t8:n<224:=by omega
 have t9:(197:Int)<n:=by omega
 have t10:(n == (198:Int))=false:=by simp;omega
 have t11:(n == (199:Int))=false:=by simp;omega
 have t12:n≤203:=by omega
 clear h
 go_enter Ax,As
 go_wp2
 go_ret
 exact⟨rfl,rfl⟩
theorem fold_204_c (n:Int) (w:A9) (h:204≤n∧n≤207) :
  Ac A3 246 #[.int .i64 n] w fun e w'=>e=.returned (.string ⟨#[105]⟩)∧w=w':=by
 have t0:(65:Int)≤n:=by omega
 have t1:(90:Int)<n:=by omega
 have t2:(192:Int)≤n:=by omega
 have t3:n≤255:=by omega
 have t4:(n == (215:Int))=false:=by simp;omega
 have t5:(n == (247:Int))=false:=by simp;omega
 have t6:(n == (223:Int))=false:=by simp;omega
 have t7:(n == (255:Int))=false:=by simp;omega
 have t8:n<224:=by omega
 have t9:(197:Int)<n:=by omega
 have t10:(n == (198:Int))=false:=by simp;omega
 have t11:(n == (199:Int))=false:=by simp;omega
 have t12:(203:Int)<n:=by omega
 have t13:n≤207:=by omega
 clear h
 go_enter Ax,As
 go_wp2
 go_ret
 exact⟨rfl,rfl⟩
theorem fold_208_c (n:Int) (w:A9) (h:208≤n∧n≤208) :
  Ac A3 246 #[.int .i64 n] w fun e w'=>e=.returned (.string ⟨#[100]⟩)∧w=w':=by
 have t0:(65:Int)≤n:=by omega
 have t1:(90:Int)<n:=by omega
 have t2:(192:Int)≤n:=by omega
 have t3:n≤255:=by omega
 have t4:(n == (215:Int))=false:=by simp;omega
 have t5:(n == (247:Int))=false:=by simp;omega
 have t6:(n == (223:Int))=false:=by simp;omega
 have t7:(n == (255:Int))=false:=by simp;omega
 have t8:n<224:=by omega
 have t9:(197:Int)<n:=by omega
 have t10:(n == (198:Int))=false:=by simp;omega
 have t11:(n == (199:Int))=false:=by simp;omega
 have t12:(203:Int)<n:=by omega
 have t13:(207:Int)<n:=by omega
 have t14:(n == (208:Int))=true:=by simp;omega
 clear h
 go_enter Ax,As
 go_wp2
 go_ret
 exact⟨rfl,rfl⟩
theorem fold_209_c (n:Int) (w:A9) (h:209≤n∧n≤209) :
  Ac A3 246 #[.int .i64 n] w fun e w'=>e=.returned (.string ⟨#[110]⟩)∧w=w':=by
 have t0:(65:Int)≤n:=by omega
 have t1:(90:Int)<n:=by omega
 have t2:(192:Int)≤n:=by omega
 have t3:n≤255:=by omega
 have t4:(n == (215:Int))=false:=by simp;omega
 have t5:(n == (247:Int))=false:=by simp;omega
 have t6:(n == (223:Int))=false:=by simp;omega
 have t7:(n == (255:Int))=false:=by simp;omega
 have t8:n<224:=by omega
 have t9:(197:Int)<n:=by omega
 have t10:(n == (198:Int))=false:=by simp;omega
 have t11:(n == (199:Int))=false:=by simp;omega
 have t12:(203:Int)<n:=by omega
 have t13:(207:Int)<n:=by omega
 have t14:(n == (208:Int))=false:=by simp;omega
 have t15:(n == (209:Int))=true:=by simp;omega
 clear h
 go_enter Ax,As
 go_wp2
 go_ret
 exact⟨rfl,rfl⟩
theorem fold_210_c (n:Int) (w:A9) (h:210≤n∧n≤214) :
  Ac A3 246 #[.int .i64 n] w fun e w'=>e=.returned (.string ⟨#[111]⟩)∧w=w':=by
 have t0:(65:Int)≤n:=by omega
 have t1:(90:Int)<n:=by omega
 have t2:(192:Int)≤n:=by omega
 have t3:n≤255:=by omega
 have t4:(n == (215:Int))=false:=by simp;omega
 have t5:(n == (247:Int))=false:=by simp;omega
 have t6:(n == (223:Int))=false:=by simp;omega
 have t7:(n == (255:Int))=false:=by simp;omega
 have t8:n<224:=by omega
 have t9:(197:Int)<n:=by omega
 have t10:(n == (198:Int))=false:=by simp;omega
 have t11:(n == (199:Int))=false:=by simp;omega
 have t12:(203:Int)<n:=by omega
 have t13:(207:Int)<n:=by omega
 have t14:(n == (208:Int))=false:=by simp;omega
 have t15:(n == (209:Int))=false:=by simp;omega
 have t16:n≤216:=by omega
 clear h
 go_enter Ax,As
 go_wp2
 go_ret
 exact⟨rfl,rfl⟩
theorem fold_216_c (n:Int) (w:A9) (h:216≤n∧n≤216) :
  Ac A3 246 #[.int .i64 n] w fun e w'=>e=.returned (.string ⟨#[111]⟩)∧w=w':=by
 have t0:(65:Int)≤n:=by omega
 have t1:(90:Int)<n:=by omega
 have t2:(192:Int)≤n:=by omega
 have t3:n≤255:=by omega
 have t4:(n == (215:Int))=false:=by simp;omega
 have t5:(n == (247:Int))=false:=by simp;omega
 have t6:(n == (223:Int))=false:=by simp;omega
 have t7:(n == (255:Int))=false:=by simp;omega
 have t8:n<224:=by omega
 have t9:(197:Int)<n:=by omega
 have t10:(n == (198:Int))=false:=by simp;omega
 have t11:(n == (199:Int))=false:=by simp;omega
 have t12:(203:Int)<n:=by omega
 have t13:(207:Int)<n:=by omega
 have t14:(n == (208:Int))=false:=by simp;omega
 have t15:(n == (209:Int))=false:=by simp;omega
 have t16:n≤216:=by omega
 clear h
 go_enter Ax,As
 go_wp2
 go_ret
 exact⟨rfl,rfl⟩
theorem fold_217_c (n:Int) (w:A9) (h:217≤n∧n≤220) :
  Ac A3 246 #[.int .i64 n] w fun e w'=>e=.returned (.string ⟨#[117]⟩)∧w=w':=by
 have t0:(65:Int)≤n:=by omega
 have t1:(90:Int)<n:=by omega
 have t2:(192:Int)≤n:=by omega
 have t3:n≤255:=by omega
 have t4:(n == (215:Int))=false:=by simp;omega
 have t5:(n == (247:Int))=false:=by simp;omega
 have t6:(n == (223:Int))=false:=by simp;omega
 have t7:(n == (255:Int))=false:=by simp;omega
 have t8:n<224:=by omega
 have t9:(197:Int)<n:=by omega
 have t10:(n == (198:Int))=false:=by simp;omega
 have t11:(n == (199:Int))=false:=by simp;omega
 have t12:(203:Int)<n:=by omega
 have t13:(207:Int)<n:=by omega
 have t14:(n == (208:Int))=false:=by simp;omega
 have t15:(n == (209:Int))=false:=by simp;omega
 have t16:(216:Int)<n:=by omega
 have t17:n≤220:=by omega
 clear h
 go_enter Ax,As
 go_wp2
 go_ret
 exact⟨rfl,rfl⟩
theorem fold_221_c (n:Int) (w:A9) (h:221≤n∧n≤221) :
  Ac A3 246 #[.int .i64 n] w fun e w'=>e=.returned (.string ⟨#[121]⟩)∧w=w':=by
 have t0:(65:Int)≤n:=by omega
 have t1:(90:Int)<n:=by omega
 have t2:(192:Int)≤n:=by omega
 have t3:n≤255:=by omega
 have t4:(n == (215:Int))=false:=by simp;omega
 have t5:(n == (247:Int))=false:=by simp;omega
 have t6:(n == (223:Int))=false:=by simp;omega
 have t7:(n == (255:Int))=false:=by simp;omega
 have t8:n<224:=by omega
 have t9:(197:Int)<n:=by omega
 have t10:(n == (198:Int))=false:=by simp;omega
 have t11:(n == (199:Int))=false:=by simp;omega
 have t12:(203:Int)<n:=by omega
 have t13:(207:Int)<n:=by omega
 have t14:(n == (208:Int))=false:=by simp;omega
 have t15:(n == (209:Int))=false:=by simp;omega
 have t16:(216:Int)<n:=by omega
 have t17:(220:Int)<n:=by omega
 have t18:(n == (221:Int))=true:=by simp;omega
 clear h
 go_enter Ax,As
 go_wp2
 go_ret
 exact⟨rfl,rfl⟩
theorem fold_222_c (n:Int) (w:A9) (h:222≤n∧n≤222) :
  Ac A3 246 #[.int .i64 n] w fun e w'=>e=.returned (.string ⟨#[116,104]⟩)∧w=w':=by
 have t0:(65:Int)≤n:=by omega
 have t1:(90:Int)<n:=by omega
 have t2:(192:Int)≤n:=by omega
 have t3:n≤255:=by omega
 have t4:(n == (215:Int))=false:=by simp;omega
 have t5:(n == (247:Int))=false:=by simp;omega
 have t6:(n == (223:Int))=false:=by simp;omega
 have t7:(n == (255:Int))=false:=by simp;omega
 have t8:n<224:=by omega
 have t9:(197:Int)<n:=by omega
 have t10:(n == (198:Int))=false:=by simp;omega
 have t11:(n == (199:Int))=false:=by simp;omega
 have t12:(203:Int)<n:=by omega
 have t13:(207:Int)<n:=by omega
 have t14:(n == (208:Int))=false:=by simp;omega
 have t15:(n == (209:Int))=false:=by simp;omega
 have t16:(216:Int)<n:=by omega
 have t17:(220:Int)<n:=by omega
 have t18:(n == (221:Int))=false:=by simp;omega
 clear h
 go_enter Ax,As
 go_wp2
 go_ret
 exact⟨rfl,rfl⟩
theorem fold_224_c (n:Int) (w:A9) (h:224≤n∧n≤229) :
  Ac A3 246 #[.int .i64 n] w fun e w'=>e=.returned (.string ⟨#[97]⟩)∧w=w':=by
 obtain⟨m,hm⟩:∃ m,n - 32=m:=⟨_,rfl⟩
 have hw:AU.wrap (n - 32)=m:=by rw[AP];omega
 have t0:(65:Int)≤n:=by omega
 have t1:(90:Int)<n:=by omega
 have t2:(192:Int)≤n:=by omega
 have t3:n≤255:=by omega
 have t4:(n == (215:Int))=false:=by simp;omega
 have t5:(n == (247:Int))=false:=by simp;omega
 have t6:(n == (223:Int))=false:=by simp;omega
 have t7:(n == (255:Int))=false:=by simp;omega
 have t8:(224:Int)≤n:=by omega
 have t9:m≤197:=by omega
 clear h hm
 go_enter Ax,As
 go_wp2
 go_ret
 exact⟨rfl,rfl⟩
theorem fold_230_c (n:Int) (w:A9) (h:230≤n∧n≤230) :
  Ac A3 246 #[.int .i64 n] w fun e w'=>e=.returned (.string ⟨#[97,101]⟩)∧w=w':=by
 obtain⟨m,hm⟩:∃ m,n - 32=m:=⟨_,rfl⟩
 have hw:AU.wrap (n - 32)=m:=by rw[AP];omega
 have t0:(65:Int)≤n:=by omega
 have t1:(90:Int)<n:=by omega
 have t2:(192:Int)≤n:=by omega
 have t3:n≤255:=by omega
 have t4:(n == (215:Int))=false:=by simp;omega
 have t5:(n == (247:Int))=false:=by simp;omega
 have t6:(n == (223:Int))=false:=by simp;omega
 have t7:(n == (255:Int))=false:=by simp;omega
 have t8:(224:Int)≤n:=by omega
 have t9:(197:Int)<m:=by omega
 have t10:(m == (198:Int))=true:=by simp;omega
 clear h hm
 go_enter Ax,As
 go_wp2
 go_ret
 exact⟨rfl,rfl⟩
theorem fold_231_c (n:Int) (w:A9) (h:231≤n∧n≤231) :
  Ac A3 246 #[.int .i64 n] w fun e w'=>e=.returned (.string ⟨#[99]⟩)∧w=w':=by
 obtain⟨m,hm⟩:∃ m,n - 32=m:=⟨_,rfl⟩
 have hw:AU.wrap (n - 32)=m:=by rw[AP];omega
 have t0:(65:Int)≤n:=by omega
 have t1:(90:Int)<n:=by omega
 have t2:(192:Int)≤n:=by omega
 have t3:n≤255:=by omega
 have t4:(n == (215:Int))=false:=by simp;omega
 have t5:(n == (247:Int))=false:=by simp;omega
 have t6:(n == (223:Int))=false:=by simp;omega
 have t7:(n == (255:Int))=false:=by simp;omega
 have t8:(224:Int)≤n:=by omega
 have t9:(197:Int)<m:=by omega
 have t10:(m == (198:Int))=false:=by simp;omega
 have t11:(m == (199:Int))=true:=by simp;omega
 clear h hm
 go_enter Ax,As
 go_wp2
 go_ret
 exact⟨rfl,rfl⟩
theorem fold_232_c (n:Int) (w:A9) (h:232≤n∧n≤235) :
  Ac A3 246 #[.int .i64 n] w fun e w'=>e=.returned (.string ⟨#[101]⟩)∧w=w':=by
 obtain⟨m,hm⟩:∃ m,n - 32=m:=⟨_,rfl⟩
 have hw:AU.wrap (n - 32)=m:=by rw[AP];omega
 have t0:(65:Int)≤n:=by omega
 have t1:(90:Int)<n:=by omega
 have t2:(192:Int)≤n:=by omega
 have t3:n≤255:=by omega
 have t4:(n == (215:Int))=false:=by simp;omega
 have t5:(n == (247:Int))=false:=by simp;omega
 have t6:(n == (223:Int))=false:=by simp;omega
 have t7:(n == (255:Int))=false:=by simp;omega
 have t8:(224:Int)≤n:=by omega
 have t9:(197:Int)<m:=by omega
 have t10:(m == (198:Int))=false:=by simp;omega
 have t11:(m == (199:Int))=false:=by simp;omega
 have t12:m≤203:=by omega
 clear h hm
 go_enter Ax,As
 go_wp2
 go_ret
 exact⟨rfl,rfl⟩
theorem fold_236_c (n:Int) (w:A9) (h:236≤n∧n≤239) :
  Ac A3 246 #[.int .i64 n] w fun e w'=>e=.returned (.string ⟨#[105]⟩)∧w=w':=by
 obtain⟨m,hm⟩:∃ m,n - 32=m:=⟨_,rfl⟩
 have hw:AU.wrap (n - 32)=m:=by rw[AP];omega
 have t0:(65:Int)≤n:=by omega
 have t1:(90:Int)<n:=by omega
 have t2:(192:Int)≤n:=by omega
 have t3:n≤255:=by omega
 have t4:(n == (215:Int))=false:=by simp;omega
 have t5:(n == (247:Int))=false:=by simp;omega
 have t6:(n == (223:Int))=false:=by simp;omega
 have t7:(n == (255:Int))=false:=by simp;omega
 have t8:(224:Int)≤n:=by omega
 have t9:(197:Int)<m:=by omega
 have t10:(m == (198:Int))=false:=by simp;omega
 have t11:(m == (199:Int))=false:=by simp;omega
 have t12:(203:Int)<m:=by omega
 have t13:m≤207:=by omega
 clear h hm
 go_enter Ax,As
 go_wp2
 go_ret
 exact⟨rfl,rfl⟩
theorem fold_240_c (n:Int) (w:A9) (h:240≤n∧n≤240) :
  Ac A3 246 #[.int .i64 n] w fun e w'=>e=.returned (.string ⟨#[100]⟩)∧w=w':=by
 obtain⟨m,hm⟩:∃ m,n - 32=m:=⟨_,rfl⟩
 have hw:AU.wrap (n - 32)=m:=by rw[AP];omega
 have t0:(65:Int)≤n:=by omega
 have t1:(90:Int)<n:=by omega
 have t2:(192:Int)≤n:=by omega
 have t3:n≤255:=by omega
 have t4:(n == (215:Int))=false:=by simp;omega
 have t5:(n == (247:Int))=false:=by simp;omega
 have t6:(n == (223:Int))=false:=by simp;omega
 have t7:(n == (255:Int))=false:=by simp;omega
 have t8:(224:Int)≤n:=by omega
 have t9:(197:Int)<m:=by omega
 have t10:(m == (198:Int))=false:=by simp;omega
 have t11:(m == (199:Int))=false:=by simp;omega
 have t12:(203:Int)<m:=by omega
 have t13:(207:Int)<m:=by omega
 have t14:(m == (208:Int))=true:=by simp;omega
 clear h hm
 go_enter Ax,As
 go_wp2
 go_ret
 exact⟨rfl,rfl⟩
theorem fold_241_c (n:Int) (w:A9) (h:241≤n∧n≤241) :
  Ac A3 246 #[.int .i64 n] w fun e w'=>e=.returned (.string ⟨#[110]⟩)∧w=w':=by
 obtain⟨m,hm⟩:∃ m,n - 32=m:=⟨_,rfl⟩
 have hw:AU.wrap (n - 32)=m:=by rw[AP];omega
 have t0:(65:Int)≤n:=by omega
 have t1:(90:Int)<n:=by omega
 have t2:(192:Int)≤n:=by omega
 have t3:n≤255:=by omega
 have t4:(n == (215:Int))=false:=by simp;omega
 have t5:(n == (247:Int))=false:=by simp;omega
 have t6:(n == (223:Int))=false:=by simp;omega
 have t7:(n == (255:Int))=false:=by simp;omega
 have t8:(224:Int)≤n:=by omega
 have t9:(197:Int)<m:=by omega
 have t10:(m == (198:Int))=false:=by simp;omega
 have t11:(m == (199:Int))=false:=by simp;omega
 have t12:(203:Int)<m:=by omega
 have t13:(207:Int)<m:=by omega
 have t14:(m == (208:Int))=false:=by simp;omega
 have t15:(m == (209:Int))=true:=by simp;omega
 clear h hm
 go_enter Ax,As
 go_wp2
 go_ret
 exact⟨rfl,rfl⟩
theorem fold_242_c (n:Int) (w:A9) (h:242≤n∧n≤246) :
  Ac A3 246 #[.int .i64 n] w fun e w'=>e=.returned (.string ⟨#[111]⟩)∧w=w':=by
 obtain⟨m,hm⟩:∃ m,n - 32=m:=⟨_,rfl⟩
 have hw:AU.wrap (n - 32)=m:=by rw[AP];omega
 have t0:(65:Int)≤n:=by omega
 have t1:(90:Int)<n:=by omega
 have t2:(192:Int)≤n:=by omega
 have t3:n≤255:=by omega
 have t4:(n == (215:Int))=false:=by simp;omega
 have t5:(n == (247:Int))=false:=by simp;omega
 have t6:(n == (223:Int))=false:=by simp;omega
 have t7:(n == (255:Int))=false:=by simp;omega
 have t8:(224:Int)≤n:=by omega
 have t9:(197:Int)<m:=by omega
 have t10:(m == (198:Int))=false:=by simp;omega
 have t11:(m == (199:Int))=false:=by simp;omega
 have t12:(203:Int)<m:=by omega
 have t13:(207:Int)<m:=by omega
 have t14:(m == (208:Int))=false:=by simp;omega
 have t15:(m == (209:Int))=false:=by simp;omega
 have t16:m≤216:=by omega
 clear h hm
 go_enter Ax,As
 go_wp2
 go_ret
 exact⟨rfl,rfl⟩
theorem fold_248_c (n:Int) (w:A9) (h:248≤n∧n≤248) :
  Ac A3 246 #[.int .i64 n] w fun e w'=>e=.returned (.string ⟨#[111]⟩)∧w=w':=by
 obtain⟨m,hm⟩:∃ m,n - 32=m:=⟨_,rfl⟩
 have hw:AU.wrap (n - 32)=m:=by rw[AP];omega
 have t0:(65:Int)≤n:=by omega
 have t1:(90:Int)<n:=by omega
 have t2:(192:Int)≤n:=by omega
 have t3:n≤255:=by omega
 have t4:(n == (215:Int))=false:=by simp;omega
 have t5:(n == (247:Int))=false:=by simp;omega
 have t6:(n == (223:Int))=false:=by simp;omega
 have t7:(n == (255:Int))=false:=by simp;omega
 have t8:(224:Int)≤n:=by omega
 have t9:(197:Int)<m:=by omega
 have t10:(m == (198:Int))=false:=by simp;omega
 have t11:(m == (199:Int))=false:=by simp;omega
 have t12:(203:Int)<m:=by omega
 have t13:(207:Int)<m:=by omega
 have t14:(m == (208:Int))=false:=by simp;omega
 have t15:(m == (209:Int))=false:=by simp;omega
 have t16:m≤216:=by omega
 clear h hm
 go_enter Ax,As
 go_wp2
 go_ret
 exact⟨rfl,rfl⟩
theorem fold_249_c (n:Int) (w:A9) (h:249≤n∧n≤252) :
  Ac A3 246 #[.int .i64 n] w fun e w'=>e=.returned (.string ⟨#[117]⟩)∧w=w':=by
 obtain⟨m,hm⟩:∃ m,n - 32=m:=⟨_,rfl⟩
 have hw:AU.wrap (n - 32)=m:=by rw[AP];omega
 have t0:(65:Int)≤n:=by omega
 have t1:(90:Int)<n:=by omega
 have t2:(192:Int)≤n:=by omega
 have t3:n≤255:=by omega
 have t4:(n == (215:Int))=false:=by simp;omega
 have t5:(n == (247:Int))=false:=by simp;omega
 have t6:(n == (223:Int))=false:=by simp;omega
 have t7:(n == (255:Int))=false:=by simp;omega
 have t8:(224:Int)≤n:=by omega
 have t9:(197:Int)<m:=by omega
 have t10:(m == (198:Int))=false:=by simp;omega
 have t11:(m == (199:Int))=false:=by simp;omega
 have t12:(203:Int)<m:=by omega
 have t13:(207:Int)<m:=by omega
 have t14:(m == (208:Int))=false:=by simp;omega
 have t15:(m == (209:Int))=false:=by simp;omega
 have t16:(216:Int)<m:=by omega
 have t17:m≤220:=by omega
 clear h hm
 go_enter Ax,As
 go_wp2
 go_ret
 exact⟨rfl,rfl⟩
theorem fold_253_c (n:Int) (w:A9) (h:253≤n∧n≤253) :
  Ac A3 246 #[.int .i64 n] w fun e w'=>e=.returned (.string ⟨#[121]⟩)∧w=w':=by
 obtain⟨m,hm⟩:∃ m,n - 32=m:=⟨_,rfl⟩
 have hw:AU.wrap (n - 32)=m:=by rw[AP];omega
 have t0:(65:Int)≤n:=by omega
 have t1:(90:Int)<n:=by omega
 have t2:(192:Int)≤n:=by omega
 have t3:n≤255:=by omega
 have t4:(n == (215:Int))=false:=by simp;omega
 have t5:(n == (247:Int))=false:=by simp;omega
 have t6:(n == (223:Int))=false:=by simp;omega
 have t7:(n == (255:Int))=false:=by simp;omega
 have t8:(224:Int)≤n:=by omega
 have t9:(197:Int)<m:=by omega
 have t10:(m == (198:Int))=false:=by simp;omega
 have t11:(m == (199:Int))=false:=by simp;omega
 have t12:(203:Int)<m:=by omega
 have t13:(207:Int)<m:=by omega
 have t14:(m == (208:Int))=false:=by simp;omega
 have t15:(m == (209:Int))=false:=by simp;omega
 have t16:(216:Int)<m:=by omega
 have t17:(220:Int)<m:=by omega
 have t18:(m == (221:Int))=true:=by simp;omega
 clear h hm
 go_enter Ax,As
 go_wp2
 go_ret
 exact⟨rfl,rfl⟩
theorem fold_254_c (n:Int) (w:A9) (h:254≤n∧n≤254) :
  Ac A3 246 #[.int .i64 n] w fun e w'=>e=.returned (.string ⟨#[116,104]⟩)∧w=w':=by
 obtain⟨m,hm⟩:∃ m,n - 32=m:=⟨_,rfl⟩
 have hw:AU.wrap (n - 32)=m:=by rw[AP];omega
 have t0:(65:Int)≤n:=by omega
 have t1:(90:Int)<n:=by omega
 have t2:(192:Int)≤n:=by omega
 have t3:n≤255:=by omega
 have t4:(n == (215:Int))=false:=by simp;omega
 have t5:(n == (247:Int))=false:=by simp;omega
 have t6:(n == (223:Int))=false:=by simp;omega
 have t7:(n == (255:Int))=false:=by simp;omega
 have t8:(224:Int)≤n:=by omega
 have t9:(197:Int)<m:=by omega
 have t10:(m == (198:Int))=false:=by simp;omega
 have t11:(m == (199:Int))=false:=by simp;omega
 have t12:(203:Int)<m:=by omega
 have t13:(207:Int)<m:=by omega
 have t14:(m == (208:Int))=false:=by simp;omega
 have t15:(m == (209:Int))=false:=by simp;omega
 have t16:(216:Int)<m:=by omega
 have t17:(220:Int)<m:=by omega
 have t18:(m == (221:Int))=false:=by simp;omega
 clear h hm
 go_enter Ax,As
 go_wp2
 go_ret
 exact⟨rfl,rfl⟩
theorem Tx.foldC_up:∀ c,c<26→((⟨#[97,98,99,100,101,102,103,104,105,106,107,108,109,110,111,112,113,114,115,116,117,118,119,120,121,122]⟩:ByteArray).extract c (c+1))=⟨(Am (c+65)).toArray⟩:=by decide +kernel
theorem fold_up_c (k:Nat) (n:Int) (w:A9) (hk:k<26) (hn:n=((k+65:Nat):Int)) :
  Ac A3 246 #[.int .i64 n] w fun e w'=>e=.returned (.string ⟨(Am (k+65)).toArray⟩)∧w=w':=by
 have HQ:=J (Tx.foldC_up k hk)
 have g1:(65:Int)≤n:=by omega
 have g2:n≤90:=by omega
 have g3:AU.wrap (n - 65)=(k:Int):=by rw[AP];omega
 have g4:AU.wrap (n - 64)=((k+1:Nat):Int):=by rw[AP];omega
 have g5:(k:Int)≤((k+1:Nat):Int):=by omega
 have g6:((k+1:Nat):Int)≤26:=by omega
 clear hn
 go_enter Ax,As
 go_wp2
 go_ret
 exact⟨Tx.rets HQ.out,rfl⟩
theorem r01_fold_c (c:Nat) (w:A9) (hc:c≤1000000000) :
  Ac A3 246 #[.int .i64 c] w fun e w'=>e=.returned (.string ⟨(Am c).toArray⟩)∧w=w':=by
 by_cases h:c≤64
 ·rw[show Am c=[] from (show ∀ x,x<256→x≤64→Am x=[] by decide +kernel) c (by omega) (by omega)]
  exact fold_0_c c w (by omega)
 by_cases h:91≤c∧c≤191
 ·rw[show Am c=[] from (show ∀ x,x<256→91≤x→x≤191→Am x=[] by decide +kernel) c (by omega) (by omega) (by omega)]
  exact fold_91_c c w (by omega)
 by_cases h:256≤c
 ·rw[show Am c=[] from Tx.foldC_high (by omega)]
  exact fold_256_c c w (by omega)
 by_cases h:215≤c∧c≤215
 ·rw[show Am c=[] from (show ∀ x,x<256→215≤x→x≤215→Am x=[] by decide +kernel) c (by omega) (by omega) (by omega)]
  exact fold_215_c c w (by omega)
 by_cases h:247≤c∧c≤247
 ·rw[show Am c=[] from (show ∀ x,x<256→247≤x→x≤247→Am x=[] by decide +kernel) c (by omega) (by omega) (by omega)]
  exact fold_247_c c w (by omega)
 by_cases h:223≤c∧c≤223
 ·rw[show Am c=[115,115] from (show ∀ x,x<256→223≤x→x≤223→Am x=[115,115] by decide +kernel) c (by omega) (by omega) (by omega)]
  exact fold_223_c c w (by omega)
 by_cases h:255≤c∧c≤255
 ·rw[show Am c=[121] from (show ∀ x,x<256→255≤x→x≤255→Am x=[121] by decide +kernel) c (by omega) (by omega) (by omega)]
  exact fold_255_c c w (by omega)
 by_cases h:192≤c∧c≤197
 ·rw[show Am c=[97] from (show ∀ x,x<256→192≤x→x≤197→Am x=[97] by decide +kernel) c (by omega) (by omega) (by omega)]
  exact fold_192_c c w (by omega)
 by_cases h:198≤c∧c≤198
 ·rw[show Am c=[97,101] from (show ∀ x,x<256→198≤x→x≤198→Am x=[97,101] by decide +kernel) c (by omega) (by omega) (by omega)]
  exact fold_198_c c w (by omega)
 by_cases h:199≤c∧c≤199
 ·rw[show Am c=[99] from (show ∀ x,x<256→199≤x→x≤199→Am x=[99] by decide +kernel) c (by omega) (by omega) (by omega)]
  exact fold_199_c c w (by omega)
 by_cases h:200≤c∧c≤203
 ·rw[show Am c=[101] from (show ∀ x,x<256→200≤x→x≤203→Am x=[101] by decide +kernel) c (by omega) (by omega) (by omega)]
  exact fold_200_c c w (by omega)
 by_cases h:204≤c∧c≤207
 ·rw[show Am c=[105] from (show ∀ x,x<256→204≤x→x≤207→Am x=[105] by decide +kernel) c (by omega) (by omega) (by omega)]
  exact fold_204_c c w (by omega)
 by_cases h:208≤c∧c≤208
 ·rw[show Am c=[100] from (show ∀ x,x<256→208≤x→x≤208→Am x=[100] by decide +kernel) c (by omega) (by omega) (by omega)]
  exact fold_208_c c w (by omega)
 by_cases h:209≤c∧c≤209
 ·rw[show Am c=[110] from (show ∀ x,x<256→209≤x→x≤209→Am x=[110] by decide +kernel) c (by omega) (by omega) (by omega)]
  exact fold_209_c c w (by omega)
 by_cases h:210≤c∧c≤214
 ·rw[show Am c=[111] from (show ∀ x,x<256→210≤x→x≤214→Am x=[111] by decide +kernel) c (by omega) (by omega) (by omega)]
  exact fold_210_c c w (by omega)
 by_cases h:216≤c∧c≤216
 ·rw[show Am c=[111] from (show ∀ x,x<256→216≤x→x≤216→Am x=[111] by decide +kernel) c (by omega) (by omega) (by omega)]
  exact fold_216_c c w (by omega)
 by_cases h:217≤c∧c≤220
 ·rw[show Am c=[117] from (show ∀ x,x<256→217≤x→x≤220→Am x=[117] by decide +kernel) c (by omega) (by omega) (by omega)]
  exact fold_217_c c w (by omega)
 by_cases h:221≤c∧c≤221
 ·rw[show Am c=[121] from (show ∀ x,x<256→221≤x→x≤221→Am x=[121] by decide +kernel) c (by omega) (by omega) (by omega)]
  exact fold_221_c c w (by omega)
 by_cases h:222≤c∧c≤222
 ·rw[show Am c=[116,104] from (show ∀ x,x<256→222≤x→x≤222→Am x=[116,104] by decide +kernel) c (by omega) (by omega) (by omega)]
  exact fold_222_c c w (by omega)
 by_cases h:224≤c∧c≤229
 ·rw[show Am c=[97] from (show ∀ x,x<256→224≤x→x≤229→Am x=[97] by decide +kernel) c (by omega) (by omega) (by omega)]
  exact fold_224_c c w (by omega)
 by_cases h:230≤c∧c≤230
 ·rw[show Am c=[97,101] from (show ∀ x,x<256→230≤x→x≤230→Am x=[97,101] by decide +kernel) c (by omega) (by omega) (by omega)]
  exact fold_230_c c w (by omega)
 by_cases h:231≤c∧c≤231
 ·rw[show Am c=[99] from (show ∀ x,x<256→231≤x→x≤231→Am x=[99] by decide +kernel) c (by omega) (by omega) (by omega)]
  exact fold_231_c c w (by omega)
 by_cases h:232≤c∧c≤235
 ·rw[show Am c=[101] from (show ∀ x,x<256→232≤x→x≤235→Am x=[101] by decide +kernel) c (by omega) (by omega) (by omega)]
  exact fold_232_c c w (by omega)
 by_cases h:236≤c∧c≤239
 ·rw[show Am c=[105] from (show ∀ x,x<256→236≤x→x≤239→Am x=[105] by decide +kernel) c (by omega) (by omega) (by omega)]
  exact fold_236_c c w (by omega)
 by_cases h:240≤c∧c≤240
 ·rw[show Am c=[100] from (show ∀ x,x<256→240≤x→x≤240→Am x=[100] by decide +kernel) c (by omega) (by omega) (by omega)]
  exact fold_240_c c w (by omega)
 by_cases h:241≤c∧c≤241
 ·rw[show Am c=[110] from (show ∀ x,x<256→241≤x→x≤241→Am x=[110] by decide +kernel) c (by omega) (by omega) (by omega)]
  exact fold_241_c c w (by omega)
 by_cases h:242≤c∧c≤246
 ·rw[show Am c=[111] from (show ∀ x,x<256→242≤x→x≤246→Am x=[111] by decide +kernel) c (by omega) (by omega) (by omega)]
  exact fold_242_c c w (by omega)
 by_cases h:248≤c∧c≤248
 ·rw[show Am c=[111] from (show ∀ x,x<256→248≤x→x≤248→Am x=[111] by decide +kernel) c (by omega) (by omega) (by omega)]
  exact fold_248_c c w (by omega)
 by_cases h:249≤c∧c≤252
 ·rw[show Am c=[117] from (show ∀ x,x<256→249≤x→x≤252→Am x=[117] by decide +kernel) c (by omega) (by omega) (by omega)]
  exact fold_249_c c w (by omega)
 by_cases h:253≤c∧c≤253
 ·rw[show Am c=[121] from (show ∀ x,x<256→253≤x→x≤253→Am x=[121] by decide +kernel) c (by omega) (by omega) (by omega)]
  exact fold_253_c c w (by omega)
 by_cases h:254≤c∧c≤254
 ·rw[show Am c=[116,104] from (show ∀ x,x<256→254≤x→x≤254→Am x=[116,104] by decide +kernel) c (by omega) (by omega) (by omega)]
  exact fold_254_c c w (by omega)
 obtain⟨k,rfl⟩:∃ k,c=k+65:=⟨c - 65,by omega⟩
 exact fold_up_c k _ w (by omega) rfl
theorem r01_letter_c (c:Nat) (w:A9) :
  Ac A3 270 #[.int .i64 c] w fun e w'=>e=.returned (.bool (I6 c))∧w=w':=by
 obtain⟨b,hb⟩:∃ b,I6 c=b:=⟨_,rfl⟩
 rw[hb]
 unfold I6 at hb
 go_enter Tryz.func270,Tryz.ntmps270
 rcases (show c<48∨(48≤c∧c≤57)∨(57<c∧c<97)∨(97≤c∧c≤122)∨(122<c∧c<256)∨256≤c by omega) with g | ⟨g1,g2⟩ | ⟨g1,g2⟩ | ⟨g1,g2⟩ | ⟨g1,g2⟩ | g
 ·have:b=false:=by rw[← hb];simp;omega
  subst this;clear hb
  go_wp2
  go_ret
  exact⟨Ay (by first | rfl | (simp;done) | (simp;omega)),rfl⟩
 ·have:b=true:=by rw[← hb];simp;omega
  have g3:c<97:=by omega
  subst this;clear hb
  go_wp2
  go_ret
  exact⟨Ay (by first | rfl | (simp;done) | (simp;omega)),rfl⟩
 ·have:b=false:=by rw[← hb];simp;omega
  have g3:48≤c:=by omega
  have g4:c<256:=by omega
  subst this;clear hb
  go_wp2
  go_ret
  exact⟨Ay (by first | rfl | (simp;done) | (simp;omega)),rfl⟩
 ·have:b=true:=by rw[← hb];simp;omega
  subst this;clear hb
  go_wp2
  go_ret
  exact⟨Ay (by first | rfl | (simp;done) | (simp;omega)),rfl⟩
 ·have:b=false:=by rw[← hb];simp;omega
  have g3:97≤c:=by omega
  have g4:48≤c:=by omega
  have g5:57<c:=by omega
  subst this;clear hb
  go_wp2
  go_ret
  exact⟨Ay (by first | rfl | (simp;done) | (simp;omega)),rfl⟩
 ·have:b=true:=by rw[← hb];simp;omega
  have g3:97≤c:=by omega
  have g4:48≤c:=by omega
  have g5:57<c:=by omega
  have g6:122<c:=by omega
  subst this;clear hb
  go_wp2
  go_ret
  exact⟨Ay (by first | rfl | (simp;done) | (simp;omega)),rfl⟩
theorem Tx.fold_round {s:ByteArray}{k:Nat}{out out':List UInt8} (hlt:k<s.size) (hol:out.length≤2*k)
  (hv:BH Dv out (s.data.toList.drop k)=Do s.data.toList)
  (h:out++FN ((s.data.toList.drop k).take (Ch (s.data.toList.drop k))) (Bv (s.data.toList.drop k)).1=out') :
  out'.length≤2*(k+Ch (s.data.toList.drop k))∧BH Dv out' (s.data.toList.drop (k+Ch (s.data.toList.drop k)))=Do s.data.toList:=by
 have hw:=Tx.wid_pos (s.data.toList.drop k)
 constructor
 ·rw[← h,Af]
  have:(FN ((s.data.toList.drop k).take (Ch (s.data.toList.drop k))) (Bv (s.data.toList.drop k)).1).length≤2*Ch (s.data.toList.drop k):=by
   unfold FN
   split
   ·rw[Az];omega
   ·have:=Tx.foldC_len (Bv (s.data.toList.drop k)).1;omega
  omega
 ·rw[← hv,Tx.foldT_step Dv out (Tx.drop_ne (by rw[← Ak];exact hlt)),show Dv out ((s.data.toList.drop k).take (Ch (s.data.toList.drop k))) (Bv (s.data.toList.drop k)).1=out' from h,BT]
theorem r01_Fold_c (s:ByteArray) (w:A9) (hs:s.size≤1000000000) :
  Ac A3 188 #[.string s] w fun e w'=>e=.returned (.string ⟨(Do s.data.toList).toArray⟩)∧Below w.heap.size w w':=by
 go_enter Tryz.func188,Tryz.ntmps188
 go_wp2
 go_loopw [3,4] (fun o i wr=>∃ (k:Nat) (out:List UInt8),k≤s.size∧i=.int .i64 k∧o=.string ⟨out.toArray⟩∧out.length≤2*k∧Hid (BH Dv out (s.data.toList.drop k)=Do s.data.toList)∧Below w.heap.size w wr) (fun _ i _=>s.size - (intOf i).toNat)
 case atStart=>exact⟨0,[],Ae _,rfl,rfl,Ae _,J (by rw[AM];rfl),Below.refl _ _⟩
 case round =>
  obtain⟨k,out,hk,rfl,rfl,hol,hv,hb⟩:=hrel
  by_cases hlt:k<s.size
  ·obtain⟨hle,h3,h4,h5,h6⟩:=Tx.rdec_fits hlt
   have hr:=Tx.rdec_rune (s.data.toList.drop k)
   have hF:∃ f,Am (Bv (s.data.toList.drop k)).1=f:=⟨_,rfl⟩
   obtain⟨f,hf⟩:=hF
   have HF:=J hf;clear hf
   by_cases hfe:f=[]
   ·subst hfe
    have hs1:=Tx.fold_round (out':=out++(s.data.toList.drop k).take (Ch (s.data.toList.drop k))) hlt hol hv.out (by unfold FN;rw[HF.out,if_pos rfl])
    have H1:=J hs1;clear hs1
    go_wp2_with (first
     |(go_at_call 203;refine (r01_decode_c s k _ hlt (by omega)).mono ?_;rintro e w1 ⟨rfl,hb1⟩)
     |(go_at_call 245;refine (r01_size_c s k _ hlt (by omega)).mono ?_;rintro e w2 ⟨rfl,hb2⟩)
     |(go_at_call 246;refine (r01_fold_c _ _ (by omega)).mono ?_;rintro e w3 ⟨rfl,rfl⟩;rw[HF.out]))
    go_roundw
    case rel=>exact⟨k+Ch (s.data.toList.drop k),_,h5,by go_num,by rw[Tx.bcat,Fw],H1.out.1,J H1.out.2,(hb.trans (hb1.mono hb.size)).trans (hb2.mono (by have:=hb.size;have:=hb1.size;omega))⟩
    case measure=>simp[intOf];omega
   ·have hs1:=Tx.fold_round (out':=out++f) hlt hol hv.out (by unfold FN;rw[HF.out,if_neg hfe])
    have H1:=J hs1;clear hs1
    have hfl:f.length≤2:=by rw[← HF.out];exact Tx.foldC_len _
    have hfi:f.isEmpty=false:=by cases f <;> simp_all
    go_wp2_with (first
     |(go_at_call 203;refine (r01_decode_c s k _ hlt (by omega)).mono ?_;rintro e w1 ⟨rfl,hb1⟩)
     |(go_at_call 245;refine (r01_size_c s k _ hlt (by omega)).mono ?_;rintro e w2 ⟨rfl,hb2⟩)
     |(go_at_call 246;refine (r01_fold_c _ _ (by omega)).mono ?_;rintro e w3 ⟨rfl,rfl⟩;rw[HF.out]))
    go_roundw
    case rel=>exact⟨k+Ch (s.data.toList.drop k),_,h5,by go_num,by rw[Tx.bcat],H1.out.1,J H1.out.2,(hb.trans (hb1.mono hb.size)).trans (hb2.mono (by have:=hb.size;have:=hb1.size;omega))⟩
    case measure=>simp[intOf];omega
  ·go_wp2
   go_ret
   have:s.data.toList.drop k=[]:=AB (by rw[← Ak];omega)
   exact⟨Tx.rets (by rw[← hv.out,this,Tx.foldT_nil]),hb⟩
namespace Tx
theorem words_round {l:List UInt8}{k:Nat}{st st':List (List UInt8) × List UInt8} (hlt:k<l.length) (hn:st.2.length≤k) (hc:st.1.length≤k)
  (hv:wEnd (foldT (wStep sepW) st (l.drop k))=fieldsT sepW l)
  (h:wStep sepW st ((l.drop k).take (wid (l.drop k))) (rdec (l.drop k)).1=st') :
  st'.2.length≤k+wid (l.drop k)∧st'.1.length≤k+wid (l.drop k)∧wEnd (foldT (wStep sepW) st' (l.drop (k+wid (l.drop k))))=fieldsT sepW l:=by
 have hw:=wid_pos (l.drop k)
 have htl:((l.drop k).take (wid (l.drop k))).length≤wid (l.drop k):=by rw[Az];omega
 refine⟨?_,?_,?_⟩
 ·rw[← h]
  unfold wStep
  repeat' split
  all_goals first | omega | (simp only[Af,BL];omega)
 ·rw[← h]
  unfold wStep
  repeat' split
  all_goals first | omega | (simp only[Af,List.length_cons,BL];omega)
 ·rw[← hv,foldT_step (wStep sepW) st (drop_ne hlt),h,BT]
theorem foldS_len2 (l:List UInt8):(foldS l).length≤2*l.length:=by
 have:∀ (n:Nat) (l out:List UInt8),l.length≤n→(foldT foldStep out l).length≤out.length+2*l.length:=by
  intro n
  induction n with
  | zero =>
   intro l out h
   have:=List.eq_nil_of_length_eq_zero (Nat.le_zero.1 h)
   subst this
   rw[foldT_nil];omega
  | succ n ih =>
   intro l out h
   by_cases hne:l=[]
   ·subst hne;rw[foldT_nil];omega
   ·rw[foldT_step foldStep out hne]
    have hw:=wid_pos l
    have hwl:=wid_le hne
    have h1:=ih (l.drop (wid l)) (foldStep out (l.take (wid l)) (rdec l).1) (by rw[AG];omega)
    have h2:(foldStep out (l.take (wid l)) (rdec l).1).length≤out.length+2*wid l:=by
     unfold foldStep foldP
     rw[Af]
     split
     ·rw[Az];omega
     ·have:=foldC_len (rdec l).1;omega
    rw[AG]at h1
    omega
 have:=this l.length l [] (Nat.le_refl _)
 simpa [foldS] using this
end Tx
theorem r01_Words_c (s:ByteArray) (w:A9) (hs:s.size≤400000000) :
  Ac A3 212 #[.string s] w fun e w'=>∃ v,e=.returned v∧w'.ownsRow w.heap.size 9 1 v (Bh s.data.toList).length ((Bh s.data.toList).map Tx.sv)∧Below w.heap.size w w':=by
 obtain⟨i0,hi0,hz0,hz1,hz2⟩:=info_parts info_str
 obtain⟨f,hf⟩:∃ f:ByteArray,(⟨(Do s.data.toList).toArray⟩:ByteArray)=f:=⟨_,rfl⟩
 have hfw:Bh s.data.toList=Tx.fieldsT F0 f.data.toList:=by rw[← hf];rfl
 have hfl:f.size≤2*s.size+2:=by
  rw[← hf,Tx.size_mk]
  have:=Tx.foldS_len2 s.data.toList
  rw[← Ak]at this
  omega
 have HF:=J hf;clear hf
 have HW:=J hfw;clear hfw
 have HI:=J hi0;clear hi0
 go_enter Tryz.func212,Tryz.ntmps212
 go_wp2_with (go_at_call 188;refine (r01_Fold_c s _ (by omega)).mono ?_;rintro e w0 ⟨rfl,hb0⟩;rw[HF.out])
 go_loopw [3,4,5] (fun o d i wr=>∃ (k:Nat) (out:List (List UInt8)) (wd:List UInt8),k≤f.size∧i=.int .i64 k∧d=.string ⟨wd.toArray⟩∧wd.length≤k∧out.length≤k∧wr.ownsRow w.heap.size 9 1 o out.length (out.map Tx.sv)∧Hid (Tx.wEnd (BH (Jw F0) (out,wd) (f.data.toList.drop k))=Tx.fieldsT F0 f.data.toList)∧Below w.heap.size w wr) (fun _ _ i _=>f.size - (intOf i).toNat)
 case atStart=>exact⟨0,[],[],Ae _,rfl,rfl,Ae _,Ae _,World.ownsRow_nil _ _ _ _,J (by rw[AM];rfl),hb0⟩
 case round =>
  obtain⟨k,out,wd,hk,rfl,rfl,hwl,hol,hown,hv,hb⟩:=hrel
  by_cases hlt:k<f.size
  ·obtain⟨hle,h3,h4,h5,h6⟩:=Tx.rdec_fits hlt
   have hlt2:k<f.data.toList.length:=by rw[← Ak];exact hlt
   obtain⟨b,hbl⟩:∃ b,I6 (Bv (f.data.toList.drop k)).1=b:=⟨_,rfl⟩
   have HB:=J hbl;clear hbl
   cases b with
   | true =>
    have hs1:=Tx.words_round (st':=(out,wd++(f.data.toList.drop k).take (Ch (f.data.toList.drop k)))) hlt2 hwl hol hv.out (by unfold Jw F0;rw[HB.out];rfl)
    have H1:=J hs1;clear hs1 hlt2
    go_wp2_with (first
     |(go_at_call 203;refine (r01_decode_c f k _ hlt (by omega)).mono ?_;rintro e w1 ⟨rfl,hb1⟩)
     |(go_at_call 245;refine (r01_size_c f k _ hlt (by omega)).mono ?_;rintro e w2 ⟨rfl,hb2⟩)
     |(go_at_call 270;refine (r01_letter_c _ _).mono ?_;rintro e w3 ⟨rfl,rfl⟩;rw[HB.out]))
    go_roundw
    case rel=>exact⟨k+Ch (f.data.toList.drop k),out,_,h5,by go_num,by rw[Tx.bcat,Fw],H1.out.1,H1.out.2.1,E4 hb2 (E4 hb1 hown),J H1.out.2.2,(hb.trans (hb1.mono hb.size)).trans (hb2.mono (by have:=hb.size;have:=hb1.size;omega))⟩
    case measure=>simp[intOf];omega
   | false =>
    by_cases hwd:wd=[]
    ·subst hwd
     have hs1:=Tx.words_round (st':=(out,[])) hlt2 hwl hol hv.out (by unfold Jw F0;rw[HB.out];rfl)
     have H1:=J hs1;clear hs1 hlt2
     go_wp2_with (first
      |(go_at_call 203;refine (r01_decode_c f k _ hlt (by omega)).mono ?_;rintro e w1 ⟨rfl,hb1⟩)
      |(go_at_call 245;refine (r01_size_c f k _ hlt (by omega)).mono ?_;rintro e w2 ⟨rfl,hb2⟩)
      |(go_at_call 270;refine (r01_letter_c _ _).mono ?_;rintro e w3 ⟨rfl,rfl⟩;rw[HB.out]))
     go_roundw
     case rel=>exact⟨k+Ch (f.data.toList.drop k),out,[],h5,by go_num,rfl,Ae _,H1.out.2.1,E4 hb2 (E4 hb1 hown),J H1.out.2.2,(hb.trans (hb1.mono hb.size)).trans (hb2.mono (by have:=hb.size;have:=hb1.size;omega))⟩
     case measure=>simp[intOf];omega
    ·have hs1:=Tx.words_round (st':=(out++[wd],[])) hlt2 hwl hol hv.out (by unfold Jw F0;rw[HB.out];simp[hwd])
     have H1:=J hs1;clear hs1 hlt2
     have hwi:wd.isEmpty=false:=by cases wd <;> simp_all
     clear hwd
     go_wp2_with (first
      |(go_at_call 203;refine (r01_decode_c f k _ hlt (by omega)).mono ?_;rintro e w1 ⟨rfl,hb1⟩)
      |(go_at_call 245;refine (r01_size_c f k _ hlt (by omega)).mono ?_;rintro e w2 ⟨rfl,hb2⟩)
      |(go_at_call 270;refine (r01_letter_c _ _).mono ?_;rintro e w3 ⟨rfl,rfl⟩;rw[HB.out];have hown2:=E4 hb2 (E4 hb1 hown);have hs2:=hb1.size;have hs3:=hb2.size)
      |(at_builtin;go_must (refine Ci _ rfl _ _ 26 rfl w.heap.size 9 i0 (.string ⟨#[]⟩) 1 16 Bb HI.out hz0 hz1 hz2 rfl (by decide) _ out.length _ rfl (hown2.alloc _) ⟨_,0,none⟩ 1 1 [Tx.sv wd] rfl rfl (DB _ _ (by first | rfl | simp) _ _) (by simp[Value.oneCell']) (by unfold maxLen;omega) (by omega) (by have:=hb.size;simp;omega) ?_);intro v' w4 hown4 hg4 hnil4))
     go_roundw
     case rel=>exact⟨k+Ch (f.data.toList.drop k),out++[wd],[],h5,by go_num,rfl,Ae _,H1.out.2.1,by rw[Af,AS];exact hown4,J H1.out.2.2,((hb.trans (hb1.mono hb.size)).trans (hb2.mono (by have:=hb.size;omega))).trans (((Tx.newb _ _).mono (by have:=hb.size;omega)).grown hg4 (by have:=hb.size;simp;omega) (fun j hj=>(hown2.lt j hj).1))⟩
     case measure=>simp[intOf];omega
  ·have hd:f.data.toList.drop k=[]:=AB (by rw[← Ak];omega)
   rw[hd,Tx.foldT_nil]at hv
   by_cases hwd:wd=[]
   ·subst hwd
    have hE:out=Bh s.data.toList:=by rw[HW.out,← hv.out];rfl
    go_wp2
    go_ret
    rw[← hE]
    exact⟨_,rfl,hown,hb⟩
   ·have hE:out++[wd]=Bh s.data.toList:=by rw[HW.out,← hv.out];unfold Tx.wEnd;rw[if_neg hwd]
    have HE:=J hE
    have hwi:wd.isEmpty=false:=by cases wd <;> simp_all
    clear hwd hE hd
    go_wp2_with (at_builtin;go_must (refine Ci _ rfl _ _ 26 rfl w.heap.size 9 i0 (.string ⟨#[]⟩) 1 16 Bb HI.out hz0 hz1 hz2 rfl (by decide) _ out.length _ rfl (hown.alloc _) ⟨_,0,none⟩ 1 1 [Tx.sv wd] rfl rfl (DB _ _ (by first | rfl | simp) _ _) (by simp[Value.oneCell']) (by unfold maxLen;omega) (by omega) (by have:=hb.size;simp;omega) ?_);intro v' w4 hown4 hg4 hnil4)
    go_ret
    rw[← HE.out,Af,AS]
    exact⟨_,rfl,hown4,hb.trans (((Tx.newb _ _).mono hb.size).grown hg4 (by have:=hb.size;simp;omega) (fun j hj=>(hown.lt j hj).1))⟩
end Go.Proofs.YtlakomilichhnaaGreatDoor
