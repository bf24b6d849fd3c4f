/- Texts of this seat's, what the claim needs of them. -/
import Derived.Test.YtlakomilichhnaaGreatDoorYMOe
import Derived.Test.YtlakomilichhnaaGreatDoorYMOr
import Derived.Test.YtlakomilichhnaaGreatDoorYMOc
namespace Go.Proofs.YtlakomilichhnaaGreatDoor
set_option maxHeartbeats 3200000
set_option maxRecDepth 100000
open Go.RowKit
open Go renaming cell_later→A0
open Lib renaming hid→J,size_eq→Ak,toList_data→AA
open List renaming contains_iff_mem→ED,drop_eq_nil_of_le→AB,drop_zero→AM,getD_eq_getElem?_getD→Bc,getElem?_eq_getElem→A7,getElem?_map→AE,isPrefixOf_iff_prefix→Be,length_map→At,mem_of_getElem?→Ag
open Nat renaming lt_or_ge→Cv,pow_le_pow_right→GB,zero_le→Ae
open Rc renaming allV→BX,firstNZ→FK,firstNZ_step→Hq,yearF→Jv,yearIn→Er
open RowKit renaming Below→A6,intOf→Ad
open Tx renaming ret1→Av,retb→Ay,step→A8
namespace Rc
open Go.Lib
theorem has_none {codes:ByteArray}{x:UInt8} (h:∀ j,j<codes.size→codes.data.toList.getD j 0≠x):codes.data.toList.contains x=false:=by
 rw[Bool.eq_false_iff]
 intro h1
 rw[ED]at h1
 obtain⟨j,hj,e⟩:=List.mem_iff_getElem.1 h1
 refine h j (by rw[Ak];exact hj) ?_
 rw[Bc,A7 hj]
 exact e
theorem has_some {codes:ByteArray}{x:UInt8}{j:Nat} (hj:j<codes.size) (h:codes.data.toList.getD j 0=x):hasCode codes.data.toList x=true:=by
 unfold hasCode
 rw[Bool.or_eq_true,ED]
 refine .inr ?_
 have hj2:j<codes.data.toList.length:=by rw[← Ak];exact hj
 rw[← h,Bc,A7 hj2]
 exact List.getElem_mem _
theorem has_empty {codes:ByteArray}{x:UInt8} (h:codes.data.toList.contains x=false):hasCode codes.data.toList x=codes.toList.isEmpty:=by
 unfold hasCode
 rw[h,Bool.or_false,AA]
end Rc
theorem r07_in_c (x:UInt8) (codes:ByteArray) (w:World) (hs:codes.size≤9223372036854775000) :
  Calls Tryz.prog 213 #[.int .u8 x.toNat,.string codes] w fun e w'=>e=.returned (.bool (Rc.hasCode codes.data.toList x))∧w=w':=by
 go_enter Tryz.func213,Tryz.ntmps213
 go_wp2
 go_loop [5] (fun i=>∃ (k:Nat),k≤codes.size∧i=.int .i64 k∧Hid (∀ j,j<k→codes.data.toList.getD j 0≠x)) (fun i=>codes.size - (Ad i).toNat)
 case atStart=>exact⟨0,Ae _,rfl,J (fun j hj=>absurd hj (by omega))⟩
 case round =>
  obtain⟨k,hk,rfl,hE⟩:=hrel
  by_cases hlt:k<codes.size
  ·obtain⟨y,hy⟩:∃ y,codes.data.toList.getD k 0=y:=⟨_,rfl⟩
   have e0:∀ h,codes[k]'h=y:=fun h=>by rw[← hy,Tx.getD_at codes k h]
   have hq:=Rc.u8_eq (a:=y) (b:=x)
   by_cases hyx:y=x
   ·have HH:=J (Rc.has_some hlt (hy.trans hyx))
    have hq2:(y == x)=true:=by simpa using hyx
    rw[hq2]at hq
    clear hy hyx hq2
    go_wp2
    go_ret
    exact⟨Ay HH.out.symm,rfl⟩
   ·have hE2:Hid (∀ j,j<k+1→codes.data.toList.getD j 0≠x):=J (fun j hj=>by
     rcases Cv j k with h1 | h1
     ·exact hE.out j h1
     ·obtain rfl:j=k:=by omega
      rw[hy];exact hyx)
    have hq2:(y == x)=false:=by simpa using hyx
    rw[hq2]at hq
    clear hy hyx hq2
    go_wp2
    go_round
    case rel=>exact⟨k+1,by omega,by go_num,hE2⟩
    case measure=>simp[Ad];omega
  ·obtain rfl:k=codes.size:=by omega
   have HH:=J (Rc.has_empty (Rc.has_none hE.out))
   go_wp2
   go_ret
   exact⟨Ay HH.out.symm,rfl⟩
theorem r07_All_c (f:Rc.Fl) (a:Option Addr) (c:Nat) (codes:ByteArray) (w:World) (h:Rc.SubA w a c f.subs) (hl:f.subs.length≤1000) (hs:codes.size≤1000) :
  Calls Tryz.prog 142 #[.agg #[.string f.tag,.string f.ind,.slice a f.subs.length c,.int .i64 f.auth],.string codes] w fun e w'=>∃ va vc,e=.returned (.slice va (BX f.subs codes.data.toList).length vc)∧SLA w' va vc (BX f.subs codes.data.toList)∧A6 w.heap.size w w':=by
 obtain⟨i0,hi0,hz0,hz1,hz2⟩:=info_parts info_str
 obtain⟨W,hW⟩:∃ W,w.alloc (.cells #[.string f.tag,.string f.ind,.slice a f.subs.length c,.int .i64 f.auth] 84)=W:=⟨_,rfl⟩
 have hB:A6 w.heap.size w W:=by rw[← hW];exact Tx.newb _ _
 have c2:W.cell? ⟨w.heap.size,2,none⟩=some (.slice a f.subs.length c):=by rw[← hW];simp
 have hS:=h.below hB
 have hcap:=h.cap
 go_enter Tryz.func142,Tryz.ntmps142
 go_wp2
 clear hW
 go_loopw [5,6] (fun v i wr=>∃ (k:Nat) (L:List ByteArray),k≤f.subs.length∧i=.int .i64 k∧Hid (L=BX (f.subs.take k) codes.data.toList)∧L.length≤k∧wr.ownsRow W.heap.size 9 1 v L.length (L.map Value.string)∧A6 W.heap.size W wr) (fun _ i _=>f.subs.length - (Ad i).toNat)
 case atStart=>exact⟨0,[],Ae _,rfl,J rfl,Nat.le_refl _,World.ownsRow_nil _ _ _ _,Below.refl _ _⟩
 case round =>
  obtain⟨k,L,hk,rfl,hL,hLk,hown,hb⟩:=hrel
  have hbs:=hb.size
  have hbw:=A8 hB hb
  replace c2:=A0 hb c2
  by_cases hlt:k<f.subs.length
  ·obtain⟨x,hx⟩:∃ x,f.subs[k]?=some x:=⟨_,A7 hlt⟩
   obtain⟨b,o,rfl,hbl,c0,c1⟩:=hS.get hx
   replace c0:=A0 hb c0
   replace c1:=A0 hb c1
   have hT:=Rc.allV_take codes.data.toList hx
   cases hH:Rc.hasCode codes.data.toList x.1 with
   | true =>
    rw[if_pos hH,← hL.out]at hT
    have HT:=J hT;clear hT
    have HH:=J hH;clear hH hx
    go_wp2_with (first
     |(go_at_call 213;refine (r07_in_c x.1 codes _ (by omega)).mono ?_;rintro e w1 ⟨rfl,rfl⟩;rw[HH.out])
     |(at_builtin;go_must (refine wpList_append_own _ rfl _ _ 26 rfl W.heap.size 9 i0 (.string ⟨#[]⟩) 1 16 Tryz.underlying26 hi0 hz0 hz1 hz2 rfl (by decide) _ L.length _ rfl (hown.alloc _) ⟨_,0,none⟩ 1 1 [.string x.2] rfl rfl (Tx.cell_one_at _ _ (by first | rfl | simp) _ _) (by simp[Value.oneCell']) (by unfold maxLen;omega) (by omega) (by simp;omega) ?_);intro v' w2 hown2 hg2 hnil2))
    have hb2:A6 W.heap.size W w2:=(hb.alloc hbs _).grown hg2 (by simp;omega) (fun j hj=>(hown.lt j hj).1)
    go_roundw
    case rel=>exact⟨k+1,L++[x.2],by omega,by go_num,J HT.out.symm,by simp;omega,by simpa using hown2,hb2⟩
    case measure=>simp[Ad];omega
   | false =>
    rw[if_neg (by simp[hH]),List.append_nil,← hL.out]at hT
    have HT:=J hT;clear hT
    have HH:=J hH;clear hH hx
    go_wp2_with (go_at_call 213;refine (r07_in_c x.1 codes _ (by omega)).mono ?_;rintro e w1 ⟨rfl,rfl⟩;rw[HH.out])
    go_roundw
    case rel=>exact⟨k+1,L,by omega,by go_num,J HT.out.symm,by omega,hown,hb⟩
    case measure=>simp[Ad];omega
  ·obtain rfl:k=f.subs.length:=by omega
   have hL2:=hL.out
   rw[Rc.take_all]at hL2
   subst hL2
   obtain⟨va,vc,rfl,hsl⟩:=SLA.of_own hown rfl
   go_wp2
   go_ret
   exact⟨va,vc,rfl,hsl,hbw⟩
namespace Rc
open Go.Lib
theorem pre_cut {s p:ByteArray} (_:p.size≤s.size):((s.extract 0 p.size).toList == p.toList)=hasPrefix s.data.toList p.data.toList:=by
 have e:(s.extract 0 p.size).toList=s.data.toList.take p.data.toList.length:=by
  rw[AA,← Ak]
  have:=Tx.extract_wid s 0 p.size
  rw[Nat.zero_add,AM]at this
  exact this
 rw[e,AA,Bool.eq_iff_iff,beq_iff_eq]
 unfold hasPrefix
 rw[Be,List.prefix_iff_eq_take]
 constructor
 ·intro h;exact h.symm
 ·intro h;exact h.symm
theorem pre_long {s p:ByteArray} (h:¬ p.size≤s.size):hasPrefix s.data.toList p.data.toList=false:=by
 rw[Bool.eq_false_iff]
 unfold hasPrefix
 rw[Ne,Be]
 intro h1
 have:=h1.length_le
 rw[← Ak,← Ak]at this
 omega
end Rc
theorem Begins_c (s p:ByteArray) (w:World) :
  Calls Tryz.prog 71 #[.string s,.string p] w fun e w'=>e=.returned (.bool (Lib.hasPrefix s.data.toList p.data.toList))∧w=w':=by
 by_cases h:p.size≤s.size
 ·have hq:=Rc.pre_cut h
  have g:((p.size:Int))≤(s.size:Int):=by omega
  go_enter Tryz.func71,Tryz.ntmps71
  go_wp2
  go_ret
  exact⟨Ay (by first | exact hq | rfl),rfl⟩
 ·have HQ:=J (Rc.pre_long h)
  have g:((s.size:Int))<(p.size:Int):=by omega
  go_enter Tryz.func71,Tryz.ntmps71
  go_wp2
  go_ret
  exact⟨Ay HQ.out.symm,rfl⟩
namespace Rc
open Go.Lib
def YS (L:By) (Y i n d:Nat):Prop:=(i≤L.length→yr n d (L.drop i)=Y)∧(L.length<i→Y=0)
def YB (n d:Nat):Prop:=n<10 ^ (min d 4)
theorem YB.zero:YB 0 0:=by unfold YB;decide
theorem YB.le {n d:Nat} (h:YB n d):n≤9999:=by
 unfold YB at h
 have:10 ^ (min d 4)≤10 ^ 4:=GB (by omega) (by omega)
 omega
theorem YB.d3 {n d:Nat} (h:YB n d) (hd:d+1≤4):n≤999:=by
 unfold YB at h
 have:10 ^ (min d 4)≤10 ^ 3:=GB (by omega) (by omega)
 omega
theorem YB.dig {n d:Nat} (h:YB n d) (hd:d+1≤4) {c:Nat} (hc:c≤9):YB (n*10+c) (d+1):=by
 unfold YB at *
 rw[show min (d+1) 4=d+1 by omega,Nat.pow_succ]
 rw[show min d 4=d by omega]at h
 omega
theorem YB.more {n d:Nat} (h:YB n d) (hd:¬ d+1≤4):YB n (d+1):=by
 unfold YB at *
 rw[show min (d+1) 4=4 by omega]
 rw[show min d 4=4 by omega]at h
 exact h
theorem YS.digit {L:By}{Y i n d:Nat} (h:YS L Y i n d) {c:UInt8} (hi:i<L.length) (hc:L.getD i 0=c) (hd:isD c):YS L Y (i+1) (if d+1≤4 then n*10+(c.toNat - 48) else n) (d+1):=by
 refine⟨fun _=>?_,fun h9=>by omega⟩
 have:=h.1 (by omega)
 rw[drop_cons L i hi,hc,yr_digit _ _ _ _ hd]at this
 exact this
theorem YS.other {L:By}{Y i n d:Nat} (h:YS L Y i n d) (hi:i≤L.length) (hc:i<L.length→¬ isD (L.getD i 0)):(d=4∧1000≤n∧n≤2199→Y=n)∧(¬ (d=4∧1000≤n∧n≤2199)→YS L Y (i+1) 0 0):=by
 have h1:=h.1 hi
 rcases Cv i L.length with hl | hl
 ·rw[drop_cons L i hl,yr_other _ _ _ _ (hc hl)]at h1
  exact⟨fun h9=>by rw[if_pos h9]at h1;exact h1.symm,fun h9=>by rw[if_neg h9]at h1;exact⟨fun _=>h1,fun h8=>by omega⟩⟩
 ·rw[AB hl,yr_nil]at h1
  exact⟨fun h9=>by rw[if_pos h9]at h1;exact h1.symm,fun h9=>by rw[if_neg h9]at h1;exact⟨fun h8=>by omega,fun _=>h1.symm⟩⟩
end Rc
theorem r08_year_c (s:ByteArray) (w:World) (hs:s.size≤1000000000) :
  Calls Tryz.prog 193 #[.string s] w fun e w'=>e=.returned (.int .i64 (Er s.data.toList))∧w=w':=by
 obtain⟨Y,hY⟩:∃ Y,Er s.data.toList=Y:=⟨_,rfl⟩
 have HY:=J hY;clear hY
 go_enter Tryz.func193,Tryz.ntmps193
 go_wp2
 go_loop [3,4,5] (fun vn vd vi=>∃ (i n d:Nat),i≤s.size+1∧d≤i∧vn=.int .i64 n∧vd=.int .i64 d∧vi=.int .i64 i∧Hid (Rc.YS s.data.toList Y i n d)∧Hid (Rc.YB n d)) (fun _ _ i=>s.size+1 - (Ad i).toNat)
 case atStart=>exact⟨0,0,0,by omega,Nat.le_refl _,rfl,rfl,rfl,J ⟨fun _=>HY.out,fun h=>absurd h (by omega)⟩,J Rc.YB.zero⟩
 case round =>
  obtain⟨i,n,d,hi,hdi,rfl,rfl,rfl,hYS,hYB⟩:=hrel
  have hn9:=hYB.out.le
  by_cases hle:i≤s.size
  ·obtain⟨x,hx⟩:∃ x,s.data.toList.getD i 0=x:=⟨_,rfl⟩
   have e0:∀ h,s[i]'h=x:=fun h=>by rw[← hx,Tx.getD_at s i h]
   have hL:=Ak s
   have HL:=J hL;clear hL
   by_cases hdig:i<s.size∧48≤x.toNat∧x.toNat≤57
   ·obtain⟨hlt,g1,g2⟩:=hdig
    have hst:=hYS.out.digit (by rw[← HL.out];exact hlt) hx ⟨g1,g2⟩
    have g1':(48:Int)≤(x.toNat:Int):=by omega
    have g2':(x.toNat:Int)≤57:=by omega
    by_cases hd4:d+1≤4
    ·rw[if_pos hd4]at hst
     have HB:=J (hYB.out.dig hd4 (c:=x.toNat - 48) (by omega))
     have hn3:=hYB.out.d3 hd4
     have HS:=J hst
     clear hst hx
     go_wp2
     go_round
     case rel=>exact⟨i+1,n*10+(x.toNat - 48),d+1,by omega,by omega,by go_num,by go_num,by go_num,HS,HB⟩
     case measure=>simp[Ad];omega
    ·rw[if_neg hd4]at hst
     have HB:=J (hYB.out.more hd4)
     have HS:=J hst
     clear hst hx
     go_wp2
     go_round
     case rel=>exact⟨i+1,n,d+1,by omega,by omega,rfl,by go_num,by go_num,HS,HB⟩
     case measure=>simp[Ad];omega
   ·obtain⟨ho1,ho2⟩:=hYS.out.other (by rw[← HL.out];exact hle) (fun hl9 hd9=>hdig ⟨by rw[HL.out];exact hl9,by rw[← hx];exact hd9⟩)
    by_cases hyes:d=4∧1000≤n∧n≤2199
    ·have HN:=J (ho1 hyes)
     obtain⟨rfl,g3,g4⟩:=hyes
     have g3':(1000:Int)≤(n:Int):=by omega
     have g4':(n:Int)≤2199:=by omega
     clear ho1 ho2 hx
     rcases (show i=s.size∨(i<s.size∧x.toNat<48)∨(i<s.size∧48≤x.toNat∧57<x.toNat) by omega) with rfl | ⟨h1,h2⟩ | ⟨h1,h2,h3⟩
     ·clear e0
      go_wp2
      go_ret
      exact⟨Av (by rw[HY.out,HN.out]),rfl⟩
     ·have h2':(x.toNat:Int)<48:=by omega
      go_wp2
      go_ret
      exact⟨Av (by rw[HY.out,HN.out]),rfl⟩
     ·have h2':(48:Int)≤(x.toNat:Int):=by omega
      have h3':(57:Int)<(x.toNat:Int):=by omega
      go_wp2
      go_ret
      exact⟨Av (by rw[HY.out,HN.out]),rfl⟩
    ·have HN:=J (ho2 hyes)
     clear ho1 ho2 hx
     rcases (show i=s.size∨(i<s.size∧x.toNat<48)∨(i<s.size∧48≤x.toNat∧57<x.toNat) by omega) with rfl | ⟨h1,h2⟩ | ⟨h1,h2,h3⟩
     ·clear e0
      by_cases hd:d=4
      ·subst hd
       by_cases h5:n<1000
       ·have h5':(n:Int)<1000:=by omega
        go_wp2
        go_round
        case rel=>exact⟨s.size+1,0,0,by omega,by omega,rfl,rfl,by go_num,HN,J Rc.YB.zero⟩
        case measure=>simp[Ad]
       ·have h5':(1000:Int)≤(n:Int):=by omega
        have h6':(2199:Int)<(n:Int):=by omega
        go_wp2
        go_round
        case rel=>exact⟨s.size+1,0,0,by omega,by omega,rfl,rfl,by go_num,HN,J Rc.YB.zero⟩
        case measure=>simp[Ad]
      ·have hd':((d:Int) == 4)=false:=beq_eq_false_iff_ne.2 (by omega)
       clear hd
       go_wp2
       go_round
       case rel=>exact⟨s.size+1,0,0,by omega,by omega,rfl,rfl,by go_num,HN,J Rc.YB.zero⟩
       case measure=>simp[Ad]
     ·have h2':(x.toNat:Int)<48:=by omega
      by_cases hd:d=4
      ·subst hd
       by_cases h5:n<1000
       ·have h5':(n:Int)<1000:=by omega
        go_wp2
        go_round
        case rel=>exact⟨i+1,0,0,by omega,by omega,rfl,rfl,by go_num,HN,J Rc.YB.zero⟩
        case measure=>simp[Ad];omega
       ·have h5':(1000:Int)≤(n:Int):=by omega
        have h6':(2199:Int)<(n:Int):=by omega
        go_wp2
        go_round
        case rel=>exact⟨i+1,0,0,by omega,by omega,rfl,rfl,by go_num,HN,J Rc.YB.zero⟩
        case measure=>simp[Ad];omega
      ·have hd':((d:Int) == 4)=false:=beq_eq_false_iff_ne.2 (by omega)
       clear hd
       go_wp2
       go_round
       case rel=>exact⟨i+1,0,0,by omega,by omega,rfl,rfl,by go_num,HN,J Rc.YB.zero⟩
       case measure=>simp[Ad];omega
     ·have h2':(48:Int)≤(x.toNat:Int):=by omega
      have h3':(57:Int)<(x.toNat:Int):=by omega
      by_cases hd:d=4
      ·subst hd
       by_cases h5:n<1000
       ·have h5':(n:Int)<1000:=by omega
        go_wp2
        go_round
        case rel=>exact⟨i+1,0,0,by omega,by omega,rfl,rfl,by go_num,HN,J Rc.YB.zero⟩
        case measure=>simp[Ad];omega
       ·have h5':(1000:Int)≤(n:Int):=by omega
        have h6':(2199:Int)<(n:Int):=by omega
        go_wp2
        go_round
        case rel=>exact⟨i+1,0,0,by omega,by omega,rfl,rfl,by go_num,HN,J Rc.YB.zero⟩
        case measure=>simp[Ad];omega
      ·have hd':((d:Int) == 4)=false:=beq_eq_false_iff_ne.2 (by omega)
       clear hd
       go_wp2
       go_round
       case rel=>exact⟨i+1,0,0,by omega,by omega,rfl,rfl,by go_num,HN,J Rc.YB.zero⟩
       case measure=>simp[Ad];omega
  ·obtain rfl:i=s.size+1:=by omega
   have h0:Y=0:=hYS.out.2 (by rw[← Ak];omega)
   have H0:=J h0;clear h0
   go_wp2
   go_ret
   exact⟨Av (by rw[HY.out,H0.out];rfl),rfl⟩
theorem r08_Year_c (fs:List Rc.Fl) (a:Option Addr) (c:Nat) (id ver kind:Int) (lang:ByteArray) (w:World) (h:Rc.FldA w a c fs) (hg:∀ f∈fs,Rc.Gd f) :
  Calls Tryz.prog 113 #[.agg #[.int .i64 id,.int .i64 ver,.int .i64 kind,.string lang,.slice a fs.length c]] w fun e w'=>e=.returned (.int .i64 (Rc.year fs))∧A6 w.heap.size w w':=by
 obtain⟨W,hW⟩:∃ W,w.alloc (.cells #[.int .i64 id,.int .i64 ver,.int .i64 kind,.string lang,.slice a fs.length c] 51)=W:=⟨_,rfl⟩
 have hB:A6 w.heap.size w W:=by rw[← hW];exact Tx.newb _ _
 have c4:W.cell? ⟨w.heap.size,4,none⟩=some (.slice a fs.length c):=by rw[← hW];simp
 have hS:=h.below hB
 have hcap:=h.cap
 have hmx:maxLen=9223372036854775807:=rfl
 have hmax:=h.max
 obtain⟨ys,hys⟩:∃ ys,fs.map (fun f=>if Rc.pubTag f then Jv (BX f.subs [99]) else 0)=ys:=⟨_,rfl⟩
 have hyr:Rc.year fs=FK ys:=by rw[← hys];rfl
 have HYS:=J hys;clear hys
 go_enter Tryz.func113,Tryz.ntmps113
 go_wp2
 clear hW
 go_loopw [3,4,5,6] (fun i _ _ _ wr=>∃ (k:Nat),k≤fs.length∧i=.int .i64 k∧Hid (FK (ys.drop k)=Rc.year fs)∧A6 W.heap.size W wr) (fun i _ _ _ _=>fs.length - (Ad i).toNat)
 case atStart=>exact⟨0,Ae _,rfl,J (by rw[AM,hyr]),Below.refl _ _⟩
 case round =>
  obtain⟨k,hk,rfl,hI,hb⟩:=hrel
  clear hyr
  have hbw:=A8 hB hb
  replace c4:=A0 hb c4
  by_cases hlt:k<fs.length
  ·obtain⟨f,hf⟩:∃ f,fs[k]?=some f:=⟨_,A7 hlt⟩
   have hgf:=hg f (Ag hf)
   obtain⟨b,o,sa,sc,rfl,hbl,d0,d1,d2,d3,hsub⟩:=hS.get hf
   replace d0:=A0 hb d0
   replace d1:=A0 hb d1
   replace d2:=A0 hb d2
   replace d3:=A0 hb d3
   have hsub1:=hsub.below hb
   have hyk:ys[k]?=some (if Rc.pubTag f then Jv (BX f.subs [99]) else 0):=by rw[← HYS.out,AE,hf];rfl
   have hst:=Hq hyk
   rw[hI.out]at hst
   cases h0:Rc.tagIs [50,54,48] f <;> cases h4:Rc.tagIs [50,54,52] f
   ·obtain⟨e0,e4,ep⟩:=Rc.pub_eq f h0 h4
    rw[ep]at hst
    simp only[Bool.or_self,Bool.false_eq_true,if_false,if_true]at hst
    have n0:(f.tag.toList != [50,54,48])=true:=by rw[bne,e0];rfl
    have n4:(f.tag.toList != [50,54,52])=true:=by rw[bne,e4];rfl
    have HS:=J hst;clear hst h0 h4 ep hyk
    go_wp2
    go_roundw
    case rel=>exact⟨k+1,by omega,by go_num,J HS.out.symm,hb⟩
    case measure=>simp[Ad];omega
   all_goals
    obtain⟨e0,e4,ep⟩:=Rc.pub_eq f h0 h4
    rw[ep]at hst
    simp only[Bool.or_self,Bool.or_true,Bool.true_or,if_true]at hst
    have n0:(f.tag.toList != [50,54,48])=!(f.tag.toList == [50,54,48]):=rfl
    have n4:(f.tag.toList != [50,54,52])=!(f.tag.toList == [50,54,52]):=rfl
    rw[e0]at n0
    rw[e4]at n4
    simp only[Bool.not_true,Bool.not_false]at n0 n4
    obtain⟨L,hL⟩:∃ L,BX f.subs [99]=L:=⟨_,rfl⟩
    have hsz:∀ x∈L,x.size≤100000:=fun x hx=>Rc.all_size hgf [99] (by rw[hL];exact hx)
    have hll:L.length≤1000:=by rw[← hL];exact (hgf.all _).1
    rw[hL]at hst
    have HS:=J hst;clear hst h0 h4 ep hyk
    have HL:=J hL;clear hL
    have HZ:=J hsz;clear hsz
    have HG:=J hgf;clear hgf
    go_wp2_with (go_at_call 142;refine (r07_All_c f sa sc ⟨#[99]⟩ _ hsub1 HG.out.1 (by decide)).mono ?_;rintro e w1 ⟨va,vc,rfl,hsla,hb1⟩;rw[show BX f.subs (⟨#[99]⟩:ByteArray).data.toList=L from HL.out]at hsla ⊢)
    have hbo:=A8 hb hb1
    replace c4:=A0 hb1 c4
    go_loop [5,6] (fun j _=>∃ (m:Nat),m≤L.length∧j=.int .i64 m∧Hid (FK ((L.map fun x=>Er x.data.toList).drop m)=Jv L)) (fun j _=>L.length - (Ad j).toNat)
    case atStart=>exact⟨0,Ae _,rfl,J (by rw[AM];rfl)⟩
    case round =>
     obtain⟨m,hm,rfl,hJ⟩:=hrel
     by_cases hml:m<L.length
     ·obtain⟨x,hx⟩:∃ x,L[m]?=some x:=⟨_,A7 hml⟩
      have hxs:=HZ.out x (Ag hx)
      obtain⟨b5,o5,rfl,hbl5,f0⟩:=hsla.get hx
      have hst:=Hq (l:=L.map fun x=>Er x.data.toList) (k:=m) (n:=Er x.data.toList) (by rw[AE,hx];rfl)
      rw[hJ.out]at hst
      obtain⟨Y,hY⟩:∃ Y,Er x.data.toList=Y:=⟨_,rfl⟩
      rw[hY]at hst
      have HY:=J hY;clear hY hx
      by_cases hy0:Y=0
      ·subst hy0
       rw[if_pos rfl]at hst
       have HT:=J hst;clear hst
       go_wp2_with (go_at_call 193;refine (r08_year_c x _ (by omega)).mono ?_;rintro e w3 ⟨rfl,rfl⟩;rw[HY.out])
       go_round
       case rel=>exact⟨m+1,by omega,by go_num,J HT.out.symm⟩
       case measure=>simp[Ad];omega
      ·rw[if_neg hy0]at hst
       have HT:=J hst;clear hst
       have hyp:0<(Y:Int):=by omega
       have hyp2:0<Y:=by omega
       have HU:=HS.out
       rw[HT.out,if_neg hy0]at HU
       have HU2:=J HU;clear HU hy0
       go_wp2_with (go_at_call 193;refine (r08_year_c x _ (by omega)).mono ?_;rintro e w3 ⟨rfl,rfl⟩;rw[HY.out])
       go_ret
       exact⟨Av (by rw[HU2.out]),A8 hbw hb1⟩
     ·obtain rfl:m=L.length:=by omega
      have hv:=hJ.out
      rw[AB (by rw[At];omega)]at hv
      have HU:=HS.out
      rw[← hv,if_pos (show FK []=0 from rfl)]at HU
      have HU2:=J HU;clear HU hv
      go_wp2
      go_roundw
      case rel=>exact⟨k+1,by omega,by go_num,J HU2.out.symm,hbo⟩
      case measure=>simp[Ad];omega
  ·obtain rfl:k=fs.length:=by omega
   have hv:=hI.out
   rw[AB (by rw[← HYS.out,At];omega)]at hv
   have HV:=J hv;clear hv
   go_wp2
   go_ret
   exact⟨Av (by rw[← HV.out];rfl),hbw⟩
end Go.Proofs.YtlakomilichhnaaGreatDoor
