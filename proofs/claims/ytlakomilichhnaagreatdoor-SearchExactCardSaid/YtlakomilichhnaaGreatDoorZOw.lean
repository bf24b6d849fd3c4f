/- Texts of this seat's, what the claim needs of them. -/
import Derived.Test.YtlakomilichhnaaGreatDoorZOu
import Derived.Test.YtlakomilichhnaaGreatDoorZOc
import Derived.Test.YtlakomilichhnaaGreatDoorZOv
import Derived.Defers
import Derived.Recover
import Derived.Laws.Pointers
namespace Go.Proofs.YtlakomilichhnaaGreatDoor
set_option maxHeartbeats 3200000
set_option maxRecDepth 100000
open Go.RowKit
open Br renaming cells_new_at→AR
open Br.FA renaming of_own→GS
open Go renaming Calls→Ac,Value→Ah,World→A9,heap_alloc_new→Ar,maxLen→Au
open Instr renaming makeFunc→Cl
open IntWalk renaming i64_in→Bj
open Lib renaming extract_data→E6,hid→J,indexByte→DJ,size_eq→Ak
open List renaming append_assoc→B0,append_nil→AD,drop_drop→BT,flatMap_append→BB,length_append→Af,length_cons→AO,length_drop→AG,length_nil→BL,length_take→Az,mem_cons→B9,mem_singleton→Bf,nil_append→D0,suffix_refl→Ek,tail_suffix→Iq,takeWhile_append_dropWhile→JN,take_succ_cons→G3
open Nat renaming le_refl→An,sub_self→IL
open Option renaming none→A4,some→A2
open Proofs.Tryz renaming func54→MT,ntmps54→LR,prog→A3,results54→KJ,underlying126→K6
open Qr renaming PS→CZ,QC→BY,Qy→BK,Res→El,Tok→D7,encQ→Dm,encT→Nl,far6→Ik,pOr→Hk,parse→Dl,rightE→F9,tokens→Bm,zeroQ→Ce
open Qr.Kp renaming put6→GX,refl→Jf
open RowKit renaming Below→A6,intOf→Ad
open Tx renaming blk→Aq,blk_far→Da,blk_later→Aj,blk_set→DC,drawn→Kf,newb→Aa,put6→Hx,valid→AL
open Value renaming oneCell'→AT
theorem info_tok:(A3.info? 205).map (fun i=>(i.zero,i.size,i.bytes))=A2 (A2 (.agg #[.int .u8 0,.string ⟨#[]⟩,.bool false]),3,32):=by kernel_rfl
theorem Qr.idx_c {s:ByteArray}{k:Nat}:DJ (s.extract (k+1) s.size).data.toList 34=DJ (s.data.toList.drop (k+1)) 34:=by
 rw[E6,List.take_of_length_le (by rw[AG,Ak];exact An _)]
theorem Qr.ext_eq (s:ByteArray) (a b:Nat):(⟨((s.data.toList.drop a).take (b - a)).toArray⟩:ByteArray)=s.extract a b:=by
 apply ByteArray.ext
 apply Array.toList_inj.1
 rw[E6]
theorem Tx.own_set {w:A9}{B e size n:Nat}{v:Ah}{xs:List Ah}{a:Addr} (ho:w.ownsRow B e size v n xs) (hne:∀ b,v.ownBlock=A2 b→b≠a.block) (u:Ah):(w.setCell a u).ownsRow B e size v n xs:=by
 refine⟨ho.1,?_⟩
 rcases ho.2 with h1 | ⟨k,cap,cur,h1,h2,h3,h4⟩
 ·exact .inl h1
 ·exact .inr ⟨k,cap,cur,h1,h2,Da h3 (hne k (by rw[h1];rfl)) u,h4⟩
theorem tokens_c (s:ByteArray) (w:A9) (hs:s.size≤100000) :
  Ac A3 116 #[.string s] w fun e w'=>∃ v,e=.returned v∧w'.ownsRow w.heap.size 205 3 v (Bm s.data.toList).length ((Bm s.data.toList).flatMap Nl)∧A6 w.heap.size w w':=by
 obtain⟨i0,hi0,hz0,hz1,hz2⟩:=info_parts info_tok
 have HI:=J hi0;clear hi0
 go_enter Tryz.func116,Tryz.ntmps116
 go_wp2
 go_loopw [3,4,5] (fun v gv i wr=>∃ (k:Nat) (out:List D7) (gl:Bool),k≤s.size∧i=.int .i64 k∧gv=.bool gl∧Hid (out++Qr.tokF gl (s.data.toList.drop k)=Bm s.data.toList)∧out.length≤k∧wr.ownsRow w.heap.size 205 3 v out.length (out.flatMap Nl)∧A6 w.heap.size w wr) (fun _ _ i _=>s.size - (Ad i).toNat)
 case atStart=>exact⟨0,[],false,Nat.zero_le _,rfl,rfl,J (by rw[List.drop_zero];rfl),Nat.zero_le _,World.ownsRow_nil _ _ _ _,Below.refl _ _⟩
 case round =>
  obtain⟨k,out,gl,hk,rfl,rfl,hT,hol,hown,hb⟩:=hrel
  have hbs:=hb.size
  by_cases hlt:k<s.size
  ·have hdr:=Qr.drop_at hlt
   obtain⟨c,hc⟩:∃ c,s[k]'hlt=c:=⟨_,rfl⟩
   rw[hc]at hdr
   have hcc:∀ h,s[k]'h=c:=fun _=>hc
   clear hc
   have HT:=J hT.out
   rw[hdr]at HT
   have HT2:=J HT.out;clear HT hT hdr
   by_cases c32:c=32
   ·subst c32
    have HN:Hid (out++Qr.tokF false (s.data.toList.drop (k+1))=Bm s.data.toList):=J (by rw[← HT2.out,Qr.tokF_blank])
    go_wp2
    go_roundw
    case rel=>exact⟨k+1,out,false,hlt,by go_num,rfl,HN,by omega,hown.alloc _,hb.trans ((Aa _ _).mono hb.size)⟩
    case measure=>simp[Ad];omega
   ·have n32:((c.toNat:Int) == 32)=false:=beq_eq_false_iff_ne.2 (Qr.kn (n:=32) (by decide) c32)
    by_cases csg:c=40∨c=41∨c=58∨c=42
    ·have HN:Hid ((out++[⟨c,[],gl⟩])++Qr.tokF true (s.data.toList.drop (k+1))=Bm s.data.toList):=J (by rw[← HT2.out,Qr.tokF_sign gl _ csg,B0];rfl)
     clear c32 n32
     rcases csg with rfl | rfl | rfl | rfl
     all_goals
      go_wp2_with (at_builtin;go_must (refine wpList_append_sl rfl _ _ 126 rfl w.heap.size 205 i0 _ 3 32 K6 HI.out hz0 hz1 hz2 rfl (by decide) _ out.length _ rfl ((hown.alloc _).alloc _) (A2 ⟨_,0,A4⟩) 1 1 [.int .u8 _,.string ⟨#[]⟩,.bool gl] rfl rfl (fun h9=>by cases h9) (fun ad had=>by cases had;exact AR _ _ (by first | rfl | simp) _ _) (by simp[AT]) (by unfold Au;omega) (by omega) (by simp;omega) ?_);intro v' w7 hown7 hg7 hnil7)
      go_roundw
      case rel=>exact⟨k+1,_,true,hlt,by go_num,rfl,HN,by rw[Af];simp;omega,by rw[Af,BB];exact hown7,((hb.trans ((Aa _ _).mono hb.size)).trans ((Aa _ _).mono (by simp;omega))).grown hg7 (by simp;omega) (fun j hj=>(hown.lt j hj).1)⟩
      case measure=>simp[Ad];omega
    ·by_cases c34:c=34
     ·subst c34
      have hIX:=Qr.idx_c (s:=s) (k:=k)
      clear csg c32 n32
      rcases Sp.indexByte_cut 34 (s.data.toList.drop (k+1)) with⟨h1,h2⟩ | ⟨i,h1,h2⟩
      ·have HN:Hid ((out++[⟨34,[],gl⟩])++Qr.tokF true (s.data.toList.drop (k+1))=Bm s.data.toList):=J (by rw[← HT2.out,Qr.tokF_open gl _ h2,B0];rfl)
       rw[h1]at hIX
       have HIX:=J hIX;clear hIX h1 h2
       go_wp2_with (first
        |(at_builtin;go_must (refine wpList_append_sl rfl _ _ 126 rfl w.heap.size 205 i0 _ 3 32 K6 HI.out hz0 hz1 hz2 rfl (by decide) _ out.length _ rfl ((hown.alloc _).alloc _) (A2 ⟨_,0,A4⟩) 1 1 [.int .u8 _,.string ⟨#[]⟩,.bool gl] rfl rfl (fun h9=>by cases h9) (fun ad had=>by cases had;exact AR _ _ (by first | rfl | simp) _ _) (by simp[AT]) (by unfold Au;omega) (by omega) (by simp;omega) ?_);intro v' w7 hown7 hg7 hnil7)
        |(go_at_call 185;refine (Tryz.strings_IndexByte _ 34 _).mono ?_;rintro e w5 ⟨rfl,rfl⟩;rw[show (34:Int).toNat.toUInt8=34 from rfl,HIX.out]))
       go_roundw
       case rel=>exact⟨k+1,_,true,hlt,by go_num,rfl,HN,by rw[Af];simp;omega,by rw[Af,BB];exact hown7,((hb.trans ((Aa _ _).mono hb.size)).trans ((Aa _ _).mono (by simp;omega))).grown hg7 (by simp;omega) (fun j hj=>(hown.lt j hj).1)⟩
       case measure=>simp[Ad];omega
      ·have hil:k+1+i<s.size:=by
        have:=(Lib.indexByte_some h1).1
        have:=(List.getElem?_eq_some_iff.1 this).1
        rw[AG,← Ak]at this
        omega
       have HN:Hid ((out++[⟨113,(s.data.toList.drop (k+1)).take i,gl⟩])++Qr.tokF true (s.data.toList.drop (k+(i+2)))=Bm s.data.toList):=J (by rw[← HT2.out,Qr.tokF_quote gl _ h2,B0,BT,show k+1+(i+1)=k+(i+2) by omega];rfl)
       have hxe:=Qr.ext_eq s (k+1) (k+1+i)
       rw[Nat.add_sub_cancel_left]at hxe
       have HXE:=J hxe;clear hxe
       rw[h1]at hIX
       have HIX:=J hIX;clear hIX h1 h2
       have hw1:=Bj ((k:Int)+1) ⟨by omega,by omega⟩
       have hw2:=Bj ((k:Int)+1+(i:Int)) ⟨by omega,by omega⟩
       have hw3:=Bj ((i:Int)+2) ⟨by omega,by omega⟩
       go_wp2_with (first
        |(go_at_call 185;refine (Tryz.strings_IndexByte _ 34 _).mono ?_;rintro e w5 ⟨rfl,rfl⟩;rw[show (34:Int).toNat.toUInt8=34 from rfl,HIX.out]))
       obtain⟨W6,hW6⟩:∃ W6,W6=wr.alloc (.cells #[.int .u8 34,.string ⟨#[]⟩,.bool gl] 205):=⟨_,rfl⟩
       have k6:W6.heap[wr.heap.size]?=A2 (.cells #[.int .u8 34,.string ⟨#[]⟩,.bool gl] 205 (0,0)):=by rw[hW6];exact Ar _ _
       have b6:A6 wr.heap.size wr W6:=by rw[hW6];exact Aa _ _
       have own6:=Tx.own_later b6 hown
       rw[← hW6]
       clear hW6
       obtain⟨c6,f6,l6⟩:=Aq k6
       have c60:=c6 0
       have c61:=c6 1
       have c62:=c6 2
       clear c6
       have hne6:∀ b,u3.ownBlock=A2 b→b≠wr.heap.size:=fun b hb=>by have:=(hown.lt b hb).2;omega
       have HNE:=J hne6;clear hne6
       go_region
       obtain⟨W8,hW8⟩:∃ W8,W8=((W6.setCell ⟨wr.heap.size,0,A4⟩ (.int .u8 113)).setCell ⟨wr.heap.size,1,A4⟩ (.string (s.extract (k+1) (k+1+i)))).drew:=⟨_,rfl⟩
       have k8:W8.heap[wr.heap.size]?=A2 (.cells #[.int .u8 113,.string (s.extract (k+1) (k+1+i)),.bool gl] 205 (0,0)):=by
        rw[hW8]
        have:=DC (i:=1) (DC (i:=0) k6 (.int .u8 113)) (.string (s.extract (k+1) (k+1+i)))
        exact (by simpa using this:((W6.setCell ⟨wr.heap.size,0,A4⟩ (.int .u8 113)).setCell ⟨wr.heap.size,1,A4⟩ (.string (s.extract (k+1) (k+1+i)))).heap[wr.heap.size]?=A2 (.cells #[.int .u8 113,.string (s.extract (k+1) (k+1+i)),.bool gl] 205 (0,0)))
       have own8:W8.ownsRow w.heap.size 205 3 u3 out.length (out.flatMap Nl):=by rw[hW8];exact Tx.own_set (Tx.own_set own6 HNE.out _) HNE.out _
       have b8:A6 w.heap.size w W8:=by rw[hW8];exact (((hb.trans (b6.mono hb.size)).setCell (show w.heap.size≤wr.heap.size by omega) _).setCell (show w.heap.size≤wr.heap.size by omega) _).drew
       have s8:=b8.size
       rw[← hW8]
       clear hW8 own6 b6 k6 c60 c61 c62 f6 l6
       obtain⟨c8,f8,l8⟩:=Aq k8
       have c80:=c8 0
       have c81:=c8 1
       have c82:=c8 2
       clear c8
       go_wp2_with (at_builtin;go_must (refine wpList_append_sl rfl _ _ 126 rfl w.heap.size 205 i0 _ 3 32 K6 HI.out hz0 hz1 hz2 rfl (by decide) _ out.length _ rfl (own8.alloc _) (A2 ⟨_,0,A4⟩) 1 1 [.int .u8 113,.string (s.extract (k+1) (k+1+i)),.bool gl] rfl rfl (fun h9=>by cases h9) (fun ad had=>by cases had;exact AR _ _ (by first | rfl | simp) _ _) (by simp[AT]) (by unfold Au;omega) (by omega) (by simp;omega) ?_);intro v' w7 hown7 hg7 hnil7)
       go_roundw
       case rel=>exact⟨k+(i+2),_,true,by omega,by go_num,rfl,HN,by rw[Af];simp;omega,by rw[Af,BB];have h9:=hown7;rw[← HXE.out]at h9;exact h9,(b8.alloc (by omega) _).grown hg7 (by simp;omega) (fun j hj=>(hown.lt j hj).1)⟩
       case measure=>simp[Ad];omega
     ·have hns:Qr.sgn c=false:=by
       unfold Qr.sgn
       simp only[Bool.or_eq_false_iff,beq_eq_false_iff_ne]
       exact⟨⟨⟨⟨⟨c32,fun h=>csg (.inl h)⟩,fun h=>csg (.inr (.inl h))⟩,fun h=>csg (.inr (.inr (.inl h)))⟩,fun h=>csg (.inr (.inr (.inr h)))⟩,c34⟩
      have n40:((c.toNat:Int) == 40)=false:=beq_eq_false_iff_ne.2 (Qr.kn (n:=40) (by decide) (fun h=>csg (.inl h)))
      have n41:((c.toNat:Int) == 41)=false:=beq_eq_false_iff_ne.2 (Qr.kn (n:=41) (by decide) (fun h=>csg (.inr (.inl h))))
      have n58:((c.toNat:Int) == 58)=false:=beq_eq_false_iff_ne.2 (Qr.kn (n:=58) (by decide) (fun h=>csg (.inr (.inr (.inl h)))))
      have n42:((c.toNat:Int) == 42)=false:=beq_eq_false_iff_ne.2 (Qr.kn (n:=42) (by decide) (fun h=>csg (.inr (.inr (.inr h)))))
      have n34:((c.toNat:Int) == 34)=false:=beq_eq_false_iff_ne.2 (Qr.kn (n:=34) (by decide) c34)
      have HNS:=J hns;clear hns csg c34 c32
      have HDR:Hid (s.data.toList.drop k=c::s.data.toList.drop (k+1)):=J (by rw[Qr.drop_at hlt,hcc])
      generalize wr=wo at *
      go_wp2
      obtain⟨W6,hW6⟩:∃ W6,W6=wo.alloc (.cells #[.int .u8 c.toNat,.string ⟨#[]⟩,.bool gl] 205):=⟨_,rfl⟩
      have k6:W6.heap[wo.heap.size]?=A2 (.cells #[.int .u8 c.toNat,.string ⟨#[]⟩,.bool gl] 205 (0,0)):=by rw[hW6];exact Ar _ _
      have b6:A6 wo.heap.size wo W6:=by rw[hW6];exact Aa _ _
      have own6:=Tx.own_later b6 hown
      rw[← hW6]
      clear hW6
      have HNE:Hid (∀ b,u3.ownBlock=A2 b→b≠wo.heap.size):=J (fun b hb=>by have:=(hown.lt b hb).2;omega)
      go_loopw [7] (fun nv wr=>∃ n:Nat,1≤n∧k+n≤s.size∧nv=.int .i64 n∧Hid (∀ j,1≤j→j<n→∀ h:k+j<s.size,Qr.sgn (s[k+j]'h)=false)∧wr=W6) (fun nv _=>s.size - (Ad nv).toNat)
      case atStart=>exact⟨1,by omega,hlt,rfl,J (fun j h1 h2=>by omega),rfl⟩
      case round =>
       obtain⟨n,hn1,hn2,rfl,hin,hwr⟩:=hrel
       have hwr':W6=wr:=hwr.symm
       clear hwr
       subst hwr'
       obtain⟨c6,f6,l6⟩:=Aq k6
       have c60:=c6 0
       have c61:=c6 1
       have c62:=c6 2
       clear c6
       obtain⟨N,hN⟩:∃ N,k+n=N:=⟨_,rfl⟩
       have hNi:(k:Int)+(n:Int)=(N:Int):=by omega
       have hw:=Bj (N:Int) ⟨by omega,by omega⟩
       have hNk:(k:Int)≤(N:Int):=by omega
       have hNs:(N:Int)≤(s.size:Int):=by omega
       by_cases hlt2:N<s.size
       ·have hltk:k+n<s.size:=by omega
        obtain⟨d,hd⟩:∃ d,s[N]'hlt2=d:=⟨_,rfl⟩
        have hkd:∀ h:k+n<s.size,s[k+n]'h=d:=fun h=>by rw[← hd];congr 1
        have HKD:=J hkd;clear hkd
        have hdd:∀ h,s[N]'h=d:=fun _=>hd
        clear hd
        have hix:DJ (⟨#[32,40,41,58,42,34]⟩:ByteArray).data.toList (d.toNat:Int).toNat.toUInt8=DJ [32,40,41,58,42,34] d:=by
         rw[Int.toNat_natCast]
         congr 1
         exact UInt8.ofNat_toNat
        obtain⟨IX,hIX⟩:∃ IX,DJ [32,40,41,58,42,34] d=IX:=⟨_,rfl⟩
        have hsi:=Qr.sgn_index d
        rw[hIX]at hix hsi
        have HIX:=J hix;clear hix hIX
        cases hsd:Qr.sgn d with
        | false =>
         have hix0:IX<0:=hsi.2 hsd
         have HI2:Hid (∀ j,1≤j→j<n+1→∀ h:k+j<s.size,Qr.sgn (s[k+j]'h)=false):=J (fun j h1 h2 h=>by
          by_cases hj:j<n
          ·exact hin.out j h1 hj h
          ·obtain rfl:j=n:=by omega
           rw[HKD.out]
           exact hsd)
         clear hsi hsd
         go_wp2_with (go_at_call 185;refine (Tryz.strings_IndexByte ⟨#[32,40,41,58,42,34]⟩ (d.toNat:Int) _).mono ?_;rintro e w5 ⟨rfl,hw5⟩;have hw5':=hw5.symm;clear hw5;subst hw5';rw[HIX.out])
         go_roundw
         case rel=>exact⟨n+1,by omega,by omega,by go_num,HI2,by first | trivial | rfl⟩
         case measure=>simp[Ad];omega
        | true =>
         have hix0:¬ IX<0:=fun h=>by rw[hsi.1 h]at hsd;cases hsd
         have HO:∀ h:k+n<s.size,Qr.sgn (s[k+n]'h)=true:=fun h=>by rw[HKD.out];exact hsd
         clear hsi hsd
         have hre:=Qr.run_at (s:=s) (k:=k) (n:=n) hn1 hn2 hin.out HO
         have hrl:(Qr.run (s.data.toList.drop (k+1))).length=n - 1:=by
          rw[hre,Az,AG,← Ak]
          omega
         have HN:Hid ((out++[⟨114,c::Qr.run (s.data.toList.drop (k+1)),gl⟩])++Qr.tokF true (s.data.toList.drop (k+n))=Bm s.data.toList):=J (by rw[← HT2.out,Qr.tokF_run gl _ HNS.out,hrl,BT,show k+1+(n - 1)=k+n by omega,B0];rfl)
         have hxe:=Qr.ext_eq s k N
         rw[HDR.out,show N - k=(n - 1)+1 by omega,G3,← hre]at hxe
         have HXE:=J hxe;clear hxe hrl hre
         go_wp2_with (go_at_call 185;refine (Tryz.strings_IndexByte ⟨#[32,40,41,58,42,34]⟩ (d.toNat:Int) _).mono ?_;rintro e w5 ⟨rfl,hw5⟩;have hw5':=hw5.symm;clear hw5;subst hw5';rw[HIX.out])
         go_region
         obtain⟨W8,hW8⟩:∃ W8,W8=((W6.setCell ⟨wo.heap.size,0,A4⟩ (.int .u8 114)).setCell ⟨wo.heap.size,1,A4⟩ (.string (s.extract k N))).drew:=⟨_,rfl⟩
         have k8:W8.heap[wo.heap.size]?=A2 (.cells #[.int .u8 114,.string (s.extract k N),.bool gl] 205 (0,0)):=by
          rw[hW8]
          have:=DC (i:=1) (DC (i:=0) k6 (.int .u8 114)) (.string (s.extract k N))
          exact (by simpa using this:((W6.setCell ⟨wo.heap.size,0,A4⟩ (.int .u8 114)).setCell ⟨wo.heap.size,1,A4⟩ (.string (s.extract k N))).heap[wo.heap.size]?=A2 (.cells #[.int .u8 114,.string (s.extract k N),.bool gl] 205 (0,0)))
         have own8:W8.ownsRow w.heap.size 205 3 u3 out.length (out.flatMap Nl):=by rw[hW8];exact Tx.own_set (Tx.own_set own6 HNE.out _) HNE.out _
         have b8:A6 w.heap.size w W8:=by rw[hW8];exact (((hb.trans (b6.mono hb.size)).setCell (show w.heap.size≤wo.heap.size by omega) _).setCell (show w.heap.size≤wo.heap.size by omega) _).drew
         have s8:=b8.size
         rw[← hW8]
         clear hW8 own6 b6 k6 c60 c61 c62 f6 l6
         obtain⟨c8,f8,l8⟩:=Aq k8
         have c80:=c8 0
         have c81:=c8 1
         have c82:=c8 2
         clear c8
         go_wp2_with (at_builtin;go_must (refine wpList_append_sl rfl _ _ 126 rfl w.heap.size 205 i0 _ 3 32 K6 HI.out hz0 hz1 hz2 rfl (by decide) _ out.length _ rfl (own8.alloc _) (A2 ⟨_,0,A4⟩) 1 1 [.int .u8 114,.string (s.extract k N),.bool gl] rfl rfl (fun h9=>by cases h9) (fun ad had=>by cases had;exact AR _ _ (by first | rfl | simp) _ _) (by simp[AT]) (by unfold Au;omega) (by omega) (by simp;omega) ?_);intro v' w7 hown7 hg7 hnil7)
         go_roundw
         case rel=>exact⟨k+n,_,true,hn2,by go_num,rfl,HN,by rw[Af];simp;omega,by rw[Af,BB];have h9:=hown7;rw[← HXE.out]at h9;exact h9,(b8.alloc (by omega) _).grown hg7 (by simp;omega) (fun j hj=>(hown.lt j hj).1)⟩
         case measure=>simp[Ad];omega
       ·have HO:∀ h:k+n<s.size,Qr.sgn (s[k+n]'h)=true:=fun h=>by omega
        have hre:=Qr.run_at (s:=s) (k:=k) (n:=n) hn1 hn2 hin.out HO
        have hrl:(Qr.run (s.data.toList.drop (k+1))).length=n - 1:=by
         rw[hre,Az,AG,← Ak]
         omega
        have HN:Hid ((out++[⟨114,c::Qr.run (s.data.toList.drop (k+1)),gl⟩])++Qr.tokF true (s.data.toList.drop (k+n))=Bm s.data.toList):=J (by rw[← HT2.out,Qr.tokF_run gl _ HNS.out,hrl,BT,show k+1+(n - 1)=k+n by omega,B0];rfl)
        have hxe:=Qr.ext_eq s k N
        rw[HDR.out,show N - k=(n - 1)+1 by omega,G3,← hre]at hxe
        have HXE:=J hxe;clear hxe hrl hre
        go_wp2
        go_region
        obtain⟨W8,hW8⟩:∃ W8,W8=((W6.setCell ⟨wo.heap.size,0,A4⟩ (.int .u8 114)).setCell ⟨wo.heap.size,1,A4⟩ (.string (s.extract k N))).drew:=⟨_,rfl⟩
        have k8:W8.heap[wo.heap.size]?=A2 (.cells #[.int .u8 114,.string (s.extract k N),.bool gl] 205 (0,0)):=by
         rw[hW8]
         have:=DC (i:=1) (DC (i:=0) k6 (.int .u8 114)) (.string (s.extract k N))
         exact (by simpa using this:((W6.setCell ⟨wo.heap.size,0,A4⟩ (.int .u8 114)).setCell ⟨wo.heap.size,1,A4⟩ (.string (s.extract k N))).heap[wo.heap.size]?=A2 (.cells #[.int .u8 114,.string (s.extract k N),.bool gl] 205 (0,0)))
        have own8:W8.ownsRow w.heap.size 205 3 u3 out.length (out.flatMap Nl):=by rw[hW8];exact Tx.own_set (Tx.own_set own6 HNE.out _) HNE.out _
        have b8:A6 w.heap.size w W8:=by rw[hW8];exact (((hb.trans (b6.mono hb.size)).setCell (show w.heap.size≤wo.heap.size by omega) _).setCell (show w.heap.size≤wo.heap.size by omega) _).drew
        have s8:=b8.size
        rw[← hW8]
        clear hW8 own6 b6 k6 c60 c61 c62 f6 l6
        obtain⟨c8,f8,l8⟩:=Aq k8
        have c80:=c8 0
        have c81:=c8 1
        have c82:=c8 2
        clear c8
        go_wp2_with (at_builtin;go_must (refine wpList_append_sl rfl _ _ 126 rfl w.heap.size 205 i0 _ 3 32 K6 HI.out hz0 hz1 hz2 rfl (by decide) _ out.length _ rfl (own8.alloc _) (A2 ⟨_,0,A4⟩) 1 1 [.int .u8 114,.string (s.extract k N),.bool gl] rfl rfl (fun h9=>by cases h9) (fun ad had=>by cases had;exact AR _ _ (by first | rfl | simp) _ _) (by simp[AT]) (by unfold Au;omega) (by omega) (by simp;omega) ?_);intro v' w7 hown7 hg7 hnil7)
        go_roundw
        case rel=>exact⟨k+n,_,true,hn2,by go_num,rfl,HN,by rw[Af];simp;omega,by rw[Af,BB];have h9:=hown7;rw[← HXE.out]at h9;exact h9,(b8.alloc (by omega) _).grown hg7 (by simp;omega) (fun j hj=>(hown.lt j hj).1)⟩
        case measure=>simp[Ad];omega
  ·go_wp2
   go_ret
   have hd:s.data.toList.drop k=[]:=List.drop_eq_nil_of_le (by rw[← Ak];omega)
   have:=hT.out
   rw[hd,Qr.tokF_nil,AD]at this
   rw[← this]
   exact⟨_,rfl,hown,hb⟩
theorem catch_panic (a b:Nat) (u:TypeId) (pv v0 v1 v2 v3 v4 v5 v6:Ah) (older:List PanicEntry) (w:A9)
  (h0:w.cell? ⟨a,0,A4⟩=A2 v0) (h1:w.cell? ⟨a,1,A4⟩=A2 v1) (h2:w.cell? ⟨a,2,A4⟩=A2 v2) (h3:w.cell? ⟨a,3,A4⟩=A2 v3) (h4:w.cell? ⟨a,4,A4⟩=A2 v4) (h5:w.cell? ⟨a,5,A4⟩=A2 v5) (h6:w.cell? ⟨b,0,A4⟩=A2 v6)
  (hf:∀ i,w.frozen? ⟨a,i,A4⟩=false) (hg:∀ i,w.frozen? ⟨b,i,A4⟩=false) (hba:¬ b=a) :
  CallsD A3 115 #[.pointer (A2 ⟨a,0,A4⟩),.pointer (A2 ⟨b,0,A4⟩)] (.panicking ({ v:=.iface u pv,recovered:=false }::older)) w fun e u' w' =>
   e=.returned (.tuple #[])∧u'=.panicking ({ v:=.iface u pv,recovered:=true }::older)∧w'=(((((((w.setCell ⟨a,0,A4⟩ (.int .i64 0)).setCell ⟨a,1,A4⟩ (.int .i64 0)).setCell ⟨a,2,A4⟩ (.slice A4 0 0)).setCell ⟨a,3,A4⟩ (.int .i64 0)).setCell ⟨a,4,A4⟩ (.int .i64 0)).setCell ⟨a,5,A4⟩ (.slice A4 0 0)).setCell ⟨b,0,A4⟩ (.int .i64 3)):=by
 refine callsD_of_wpS Tryz.func115 rfl fun c₀ cs hu=>?_
 apply wpS_seq
 apply wpS_region
 simp[wpOpsS,go_sem,recoverD,hu,Tryz.ntmps115,Exit.thenS]
 refine wpS_cond (t:=true) (by simp[Act.eval,Array.replicate]) ?_
 simp only[if_true]
 apply wpS_region
 simp[wpOpsS,go_sem,h0,h1,h2,h3,h4,h5,h6,hf,hg,bodyPostS,results,Tryz.results115]
theorem catch_idle (a b:Nat) (w:A9) :
  CallsD A3 115 #[.pointer (A2 ⟨a,0,A4⟩),.pointer (A2 ⟨b,0,A4⟩)] .returning w fun e u' w'=>e=.returned (.tuple #[])∧u'=.returning∧w'=w:=by
 refine callsD_of_wpS Tryz.func115 rfl fun c₀ cs hu=>?_
 apply wpS_seq
 apply wpS_region
 simp[wpOpsS,go_sem,recoverD,hu,Tryz.ntmps115,Exit.thenS]
 refine wpS_cond (t:=false) (by simp[Act.eval,Array.replicate]) ?_
 simp only[Bool.false_eq_true,if_false]
 refine wpS_of_wp (wp_skip ?_)
 cases c₀
 simp_all [bodyPostS,results,Tryz.results115]
namespace Qr
def TokOk (r:List Tok):Prop:=∀ t∈r,AL t.t=true∧t.t.length≤1000
theorem TokOk.suf {r r':List Tok} (h:TokOk r) (hs:r' <:+ r):TokOk r':=fun t ht=>h t (hs.subset ht)
def WB (x:PR):Prop:=∀ q r',x=A2 (q,r')→Wz 1000000 q
theorem words_size {t:By} (hv:AL t=true) (hl:t.length≤1000):∀ x∈wordsB t,x.size≤1000000:=by
 intro x hx
 unfold wordsB at hx
 rw[List.mem_map]at hx
 obtain⟨y,hy,rfl⟩:=hx
 rw[Tx.size_mk]
 have h1:=(Tx.fieldsT_good Tx.sepW (Tx.foldS_valid hv)).2.1
 have h2:=Tx.foldS_len hv
 have h3:∀ (l:List By) (y:By),y∈l→y.length≤Lib.lens l:=by
  intro l
  induction l with
  | nil=>intro y h;simp at h
  | cons z r ih =>
   intro y h
   have e:Lib.lens (z::r)=z.length+Lib.lens r:=by simp[Lib.lens]
   rw[B9]at h
   rcases h with rfl | h
   ·omega
   ·have:=ih y h;omega
 have h4:=h3 _ y hy
 unfold Tx.words at h4
 omega
theorem leaf_w (o f a b:Int) (ws:List ByteArray) (h:∀ x∈ws,x.size≤1000000):Wz 1000000 (.mk o f ws a b []):=.mk h (fun k hk=>by simp at hk)
theorem years_w (st:Bool) (r:List Tok):WB (pYears st r):=by
 intro q r' h
 unfold pYears at h
 repeat' split at h
 all_goals first | (cases h;done) | (injection h with h;injection h with h _;rw[← h];exact leaf_w _ _ _ _ _ (fun x hx=>by simp at hx))
theorem term_w (st:Bool) (f:Int) (r:List Tok) (hr:TokOk r):WB (pTerm st f r):=by
 intro q r' h
 by_cases hw:word0 r=true
 ·have hok:=hr _ (lk_mem (word0_ne hw))
  unfold pTerm at h
  repeat' split at h
  all_goals first | (cases h;done) | (injection h with h;injection h with h _;rw[← h];exact leaf_w _ _ _ _ _ (words_size hok.1 hok.2))
 ·unfold pTerm at h
  rw[if_pos (by simpa using hw)]at h
  cases h
theorem flat_w (st:Bool) (r:List Tok) (hr:TokOk r):WB (pFlat st r):=by
 intro q r' h
 have h2:TokOk r.tail.tail:=hr.suf ((Iq _).trans (Iq _))
 unfold pFlat at h
 repeat' split at h
 all_goals first | (cases h;done) | exact years_w _ _ _ _ h | exact term_w _ _ _ h2 _ _ h | exact term_w _ _ _ hr _ _ h
theorem joined_w (op:Int) (l:List Qy) (h:∀ k∈l,Wz 1000000 k):Wz 1000000 (joined op l):=by
 by_cases h1:l.length=1
 ·match l,h1 with
  | [x],_=>exact h x (by simp)
 ·rw[joined_many op l h1]
  refine .mk (fun x hx=>by simp at hx) (fun k hk=>?_)
  rw[List.mem_flatMap]at hk
  obtain⟨y,hy,hk⟩:=hk
  unfold flat at hk
  have hy2:=h y hy
  split at hk
  ·cases hy2 with
   | mk _ h4=>exact h4 k hk
  ·rw[Bf]at hk
   rw[hk]
   exact hy2
theorem wz_all (st:Bool):∀ n,(∀ r,TokOk r→WB (pOr st n r))∧(∀ acc r,TokOk r→(∀ k∈acc,Wz 1000000 k)→WB (lOr st n acc r))∧(∀ r,TokOk r→WB (pAnd st n r))∧(∀ acc r,TokOk r→(∀ k∈acc,Wz 1000000 k)→WB (lAnd st n acc r))∧(∀ r,TokOk r→WB (pNot st n r))∧(∀ r,TokOk r→WB (pPrim st n r))
 | 0=>⟨fun r _ q r' h=>by simp[pOr]at h,fun _ _ _ _ q r' h=>by simp[lOr]at h,fun r _ q r' h=>by simp[pAnd]at h,fun _ _ _ _ q r' h=>by simp[lAnd]at h,fun r _ q r' h=>by simp[pNot]at h,fun r _ q r' h=>by simp[pPrim]at h⟩
 | n+1=>by
  obtain⟨h1,h2,h3,h4,h5,h6⟩:=wz_all st n
  obtain⟨e1,_,e3,_,e5,e6⟩:=eats_all st n
  have one:∀ q,Wz 1000000 q→∀ k∈[q],Wz 1000000 k:=fun q h k hk=>by rw[Bf]at hk;rw[hk];exact h
  have app:∀ (acc:List Qy) q,(∀ k∈acc,Wz 1000000 k)→Wz 1000000 q→∀ k∈acc++[q],Wz 1000000 k:=fun acc q h hq k hk=>by
   rw[List.mem_append,Bf]at hk
   rcases hk with hk | rfl
   ·exact h k hk
   ·exact hq
  refine⟨fun r hr q r' h=>?_,fun acc r hr ha q r' h=>?_,fun r hr q r' h=>?_,fun acc r hr ha q r' h=>?_,fun r hr q r' h=>?_,fun r hr q r' h=>?_⟩
  ·unfold pOr at h
   split at h
   ·cases h
   ·rename_i q1 r1 he
    exact h2 [q1] r1 (hr.suf (e3 r q1 r1 he).1) (one _ (h3 r hr q1 r1 he)) q r' h
  ·unfold lOr at h
   split at h
   ·split at h
    ·cases h
    ·rename_i q1 r1 he
     have ht:=hr.suf (Iq r)
     exact h2 _ r1 (ht.suf (e3 _ q1 r1 he).1) (app _ _ ha (h3 _ ht q1 r1 he)) q r' h
   ·injection h with h;injection h with h _;rw[← h]
    exact joined_w _ _ ha
  ·unfold pAnd at h
   split at h
   ·cases h
   ·rename_i q1 r1 he
    exact h4 [q1] r1 (hr.suf (e5 r q1 r1 he).1) (one _ (h5 r hr q1 r1 he)) q r' h
  ·unfold lAnd at h
   split at h
   ·split at h
    ·cases h
    ·rename_i q1 r1 he
     have ht:=hr.suf (Iq r)
     exact h4 _ r1 (ht.suf (e5 _ q1 r1 he).1) (app _ _ ha (h5 _ ht q1 r1 he)) q r' h
   ·split at h
    ·split at h
     ·cases h
     ·rename_i q1 r1 he
      exact h4 _ r1 (hr.suf (e5 _ q1 r1 he).1) (app _ _ ha (h5 _ hr q1 r1 he)) q r' h
    ·injection h with h;injection h with h _;rw[← h]
     exact joined_w _ _ ha
  ·unfold pNot at h
   split at h
   ·cases h
   ·rename_i q1 r1 he
    have hr1:=hr.suf (e6 r q1 r1 he).1
    split at h
    ·split at h
     ·cases h
     ·rename_i q2 r2 he2
      injection h with h;injection h with h _;rw[← h]
      exact .mk (fun x hx=>by simp at hx) (app [q1] q2 (one _ (h6 r hr q1 r1 he)) (h6 _ (hr1.suf (Iq _)) q2 r2 he2))
    ·injection h with h;injection h with h _;rw[← h]
     exact h6 r hr q1 r1 he
  ·unfold pPrim at h
   split at h
   ·split at h
    ·cases h
    ·rename_i q1 r1 he
     split at h
     ·injection h with h;injection h with h _;rw[← h]
      exact h1 _ (hr.suf (Iq _)) q1 r1 he
     ·cases h
   ·exact flat_w st r hr q r' h
theorem toks_ok:∀ (n:Nat) (g:Bool) (l:By),l.length≤n→l.length≤1000→AL l=true→TokOk (toks n g l)∧(toks n g l).length≤l.length
 | 0,g,l,h,_,_=>by
  have:=List.eq_nil_of_length_eq_zero (Nat.le_zero.1 h)
  subst this
  exact⟨fun t ht=>by simp[toks]at ht,by simp[toks]⟩
 | n+1,g,[],_,_,_=>⟨fun t ht=>by simp[toks]at ht,by simp[toks]⟩
 | n+1,g,c::r,h,hl,hv=>by
  simp only[AO]at h hl
  have asc:∀ c:UInt8,(c=32∨c=40∨c=41∨c=58∨c=42∨c=34)→32≤c.toNat∧c.toNat<127:=fun c hc=>by rcases hc with rfl | rfl | rfl | rfl | rfl | rfl <;> decide
  have tl:∀ c:UInt8,(32≤c.toNat∧c.toNat<127)→∀ (a b:By),AL (a++c::b)=true→AL a=true∧AL b=true:=fun c hc a b h=>by
   have h1:=Hd.valid_cut hc _ a b (An _) h
   exact⟨h1.1,Hd.valid_tail [c] b (fun x hx=>by rw[Bf]at hx;rw[hx];exact hc) h1.2⟩
  have cons:∀ (t:Tok) (x:By) (g:Bool),(AL t.t=true∧t.t.length≤1000)→x.length≤r.length→AL x=true→TokOk (t::toks n g x)∧(t::toks n g x).length≤(c::r).length:=fun t x g ht hx hvx=>by
   have ih:=toks_ok n g x (by omega) (by omega) hvx
   refine⟨fun y hy=>?_,by simp only[AO];omega⟩
   rw[B9]at hy
   rcases hy with rfl | hy
   ·exact ht
   ·exact ih.1 y hy
  unfold toks
  by_cases h32:c=32
  ·rw[if_pos h32]
   have ih:=toks_ok n false r (by omega) (by omega) (tl c (asc c (.inl h32)) [] r hv).2
   exact⟨ih.1,by simp only[AO];omega⟩
  ·rw[if_neg h32]
   by_cases hs:c=40∨c=41∨c=58∨c=42
   ·rw[if_pos hs]
    exact cons _ r true ⟨rfl,by simp⟩ (An _) (tl c (asc c (by rcases hs with h | h | h | h <;> simp[h])) [] r hv).2
   ·rw[if_neg hs]
    by_cases h34:c=34
    ·rw[if_pos h34]
     have hvr:=(tl c (asc c (by simp[h34])) [] r hv).2
     cases hc:Sp.cut 34 r with
     | none=>exact cons _ r true ⟨rfl,by simp⟩ (An _) hvr
     | some p =>
      obtain⟨x,y⟩:=p
      have hlen:=Sp.cut_len hc
      have hv2:=hvr
      rw[(Sp.cut_eq hc).1]at hv2
      have:=tl 34 (by decide) x y hv2
      exact cons _ y true ⟨this.1,by simp only;omega⟩ (by omega) this.2
    ·rw[if_neg h34]
     have hrl:=run_le r
     have hrd:run r++r.drop (run r).length=r:=by
      have e1:=JN (p:=fun c=>!sgn c) (l:=r)
      have e2:r.drop (run r).length=r.dropWhile fun c=>!sgn c:=by
       conv=>lhs;rw[← e1]
       unfold run
       rw[List.drop_append_of_le_length (Nat.le_of_eq (by rw[e1])),e1,List.drop_length,D0]
      rw[e2]
      exact e1
     have hsplit:c::r=(c::run r)++r.drop (run r).length:=by rw[List.cons_append,hrd]
     have hv2:=hv
     rw[hsplit]at hv2
     have hb:AL (c::run r)=true∧AL (r.drop (run r).length)=true:=by
      cases hd:r.drop (run r).length with
      | nil =>
       rw[hd,AD]at hv2
       exact⟨hv2,rfl⟩
      | cons d t =>
       rw[hd]at hv2
       have hsd:sgn d=true:=by
        have e1:=JN (p:=fun c=>!sgn c) (l:=r)
        have e2:r.dropWhile (fun c=>!sgn c)=d::t:=by
         have e3:=hrd
         unfold run at e3 hd
         rw[← hd]
         exact List.append_cancel_left (e1.trans e3.symm)
        have:=List.head?_dropWhile_not (fun c=>!sgn c) r
        rw[e2]at this
        simpa using this
       have hda:32≤d.toNat∧d.toNat<127:=by
        apply asc
        unfold sgn at hsd
        simp only[Bool.or_eq_true,beq_iff_eq]at hsd
        rcases hsd with ((((h | h) | h) | h) | h) | h <;> simp[h]
       have h1:=tl d hda (c::run r) t hv2
       refine⟨h1.1,?_⟩
       have:AL ([]++d::t)=true:=by
        rw[D0]
        have hva:=Rc.valid_append (c::run r).length (c::run r) (d::t) (An _) h1.1
        rw[← hva]
        exact hv2
       simpa using this
     exact cons ⟨114,c::run r,g⟩ _ true ⟨hb.1,by simp only[AO];omega⟩ (by rw[AG];omega) hb.2
abbrev q0:Qy:=.mk 0 0 [] 0 0 []
abbrev t0:QT:=⟨0,0,A4,0,0,0,0,A4,0,0⟩
theorem q0_c (B:Nat) (w:A9):QC B w q0 (encQ t0):=QC.of_kids (ws:=[]) (ks:=[]) (.inl ⟨rfl,_,_,rfl⟩) (fun h=>absurd rfl h) (KA.nil _ _)
theorem parse_long {s:By} (h:1000<s.length):parse s=(q0,4):=by unfold parse;rw[if_pos h]
theorem parse_bad {s:By} (h:¬ 1000<s.length) (hv:AL s=false):parse s=(q0,3):=by unfold parse;rw[if_neg h,if_pos hv]
end Qr
theorem Parse_1 (s:ByteArray) (w:A9) (hl:1000<s.size) :
  Ac A3 54 #[.string s] w fun e w'=>∃ t,e=.returned (.tuple #[.agg (Dm t).toArray,.int .i64 (Dl s.data.toList).2])∧BY w.heap.size w' (Dl s.data.toList).1 (Dm t)∧A6 w.heap.size w w':=by
 rw[Qr.parse_long (by rw[← Ak];exact hl)]
 have g1:(1000:Int)<(s.size:Int):=by omega
 have hmf:∀ (fn:Fn) (first cap:Array Ah) (w:A9),(Cl fn first cap).run A3 w=.ok (.func fn first cap) w:=fun _ _ _ _=>rfl
 go_enter_defers MT,LR
 go_wp2
 exact⟨.tuple #[.agg (Dm Qr.t0).toArray,.int .i64 4],(by simp[results,KJ,go_sem]),Qr.t0,rfl,Qr.q0_c _ _,((Aa w _).trans ((Aa _ _).mono (by simp)))⟩
theorem Parse_2 (s:ByteArray) (w:A9) (hl:¬ 1000<s.size) (hv:AL s.data.toList=false) (hG:G w) :
  Ac A3 54 #[.string s] w fun e w'=>∃ t,e=.returned (.tuple #[.agg (Dm t).toArray,.int .i64 (Dl s.data.toList).2])∧BY w.heap.size w' (Dl s.data.toList).1 (Dm t)∧A6 w.heap.size w w':=by
 rw[Qr.parse_bad (by rw[← Ak];exact hl) hv]
 have g1:¬ (1000:Int)<(s.size:Int):=by omega
 have HV:=J hv;clear hv
 have hmf:∀ (fn:Fn) (first cap:Array Ah) (w:A9),(Cl fn first cap).run A3 w=.ok (.func fn first cap) w:=fun _ _ _ _=>rfl
 obtain⟨W,hW⟩:∃ W,W=(w.alloc (.cells Ce 29)).alloc (.cells #[.int .i64 0] 44):=⟨_,rfl⟩
 have hB:A6 w.heap.size w W:=by rw[hW];exact ((Aa w _).trans ((Aa _ _).mono (by simp)))
 have k2:W.heap[w.heap.size]?=A2 (.cells Ce 29 (0,0)):=by rw[hW];exact Aj (Ar w _) (Aa _ _)
 have k3:W.heap[w.heap.size+1]?=A2 (.cells #[.int .i64 0] 44 (0,0)):=by rw[hW];simpa using Ar (w.alloc (.cells Ce 29)) (.cells #[.int .i64 0] 44)
 have hWs:W.heap.size=w.heap.size+2:=by rw[hW];simp
 have K2:=J k2
 have K3:=J k3
 have hW':=hW.symm
 clear hW k2 k3
 go_enter_defers MT,LR
 go_wp2_with (go_at_call 114;refine (text_Valid_c s W (by omega) (hG.below hB)).mono ?_;rintro e w1 ⟨rfl,hb1⟩;rw[HV.out];have J2:=J (Aj K2.out hb1);have J3:=J (Aj K3.out hb1);have s1:=hb1.size;obtain⟨c2,f2,l2⟩:=Aq J2.out;obtain⟨c3,f3,l3⟩:=Aq J3.out;have x0:w1.cell? ⟨w.heap.size,0,A4⟩=A2 (.int .i64 0):=c2 0;have x1:w1.cell? ⟨w.heap.size,1,A4⟩=A2 (.int .i64 0):=c2 1;have x2:w1.cell? ⟨w.heap.size,2,A4⟩=A2 (.slice A4 0 0):=c2 2;have x3:w1.cell? ⟨w.heap.size,3,A4⟩=A2 (.int .i64 0):=c2 3;have x4:w1.cell? ⟨w.heap.size,4,A4⟩=A2 (.int .i64 0):=c2 4;have x5:w1.cell? ⟨w.heap.size,5,A4⟩=A2 (.slice A4 0 0):=c2 5;have y0:w1.cell? ⟨w.heap.size+1,0,A4⟩=A2 (.int .i64 0):=c3 0;clear c2 c3)
 exact⟨.tuple #[.agg (Dm Qr.t0).toArray,.int .i64 3],(by simp[results,KJ,go_sem,x0,x1,x2,x3,x4,x5,y0]),Qr.t0,rfl,Qr.q0_c _ _,(Hx (hB.trans (hb1.mono hB.size)) (An _) _ _ _ _ _ _).setCell (show w.heap.size≤w.heap.size+1 by omega) _⟩
theorem Tx.own_blt {w:A9}{B e size n m c:Nat}{ta:Option Addr}{xs:List Ah} (h:w.ownsRow B e size (.slice ta n c) m xs):∀ ad,ta=A2 ad→ad.block<w.heap.size:=by
 intro ad had
 rcases h.2 with⟨e1,_⟩ | ⟨g,cap,cur,e1,_,hg,_⟩
 ·injection e1 with e1
  rw[e1]at had
  cases had
 ·injection e1 with e1
  rw[e1]at had
  injection had with had
  rw[← had]
  exact (Array.getElem?_eq_some_iff.1 hg).1
theorem Qr.tokF_ok {s:ByteArray} (hl:¬ 1000<s.size) (hv:AL s.data.toList=true):Qr.TokOk (Bm s.data.toList)∧(Bm s.data.toList).length≤1000:=by
 have h:=Qr.toks_ok s.data.toList.length false s.data.toList (An _) (by rw[← Ak];omega) hv
 rw[← Ak]at h
 unfold Bm Qr.tokF
 rw[← Ak]
 exact⟨h.1,by omega⟩
theorem Qr.parse_none {s:List UInt8} (hl:¬ 1000<s.length) (hv:AL s=true) (hx:Hk true (8*(Bm s).length+8) (Bm s)=A4):Dl s=(Qr.q0,3):=by
 unfold Dl
 rw[if_neg hl,if_neg (by simp[hv]),hx]
theorem Qr.parse_rest {s:List UInt8}{q:BK}{t:D7}{r:List D7} (hl:¬ 1000<s.length) (hv:AL s=true) (hx:Hk true (8*(Bm s).length+8) (Bm s)=A2 (q,t::r)):Dl s=(Qr.q0,3):=by
 unfold Dl
 rw[if_neg hl,if_neg (by simp[hv]),hx]
theorem Qr.parse_end {s:List UInt8}{q:BK} (hl:¬ 1000<s.length) (hv:AL s=true) (hx:Hk true (8*(Bm s).length+8) (Bm s)=A2 (q,[])):Dl s=if F9 q=0 then (q,0) else (Qr.q0,F9 q):=by
 unfold Dl
 rw[if_neg hl,if_neg (by simp[hv]),hx]
theorem Parse_3 (s:ByteArray) (w:A9) (hl:¬ 1000<s.size) (hv:AL s.data.toList=true) (hG:G w) (hRd:∀ (g:Nat) (w:A9),CZ g (Bm s.data.toList) (Bm s.data.toList) w→Ac A3 117 #[.pointer (A2 ⟨g,0,A4⟩)] w (El g (Bm s.data.toList) (Hk true (8*(Bm s.data.toList).length+8) (Bm s.data.toList)) w)) (hx:Hk true (8*(Bm s.data.toList).length+8) (Bm s.data.toList)=A4) :
  Ac A3 54 #[.string s] w fun e w'=>∃ t,e=.returned (.tuple #[.agg (Dm t).toArray,.int .i64 (Dl s.data.toList).2])∧BY w.heap.size w' (Dl s.data.toList).1 (Dm t)∧A6 w.heap.size w w':=by
 have hok:=Qr.tokF_ok hl hv
 have hl':¬ 1000<s.data.toList.length:=by rw[← Ak];exact hl
 have g1:¬ (1000:Int)<(s.size:Int):=by omega
 rw[Qr.parse_none hl' hv hx]
 have HV:=J hv;clear hv
 obtain⟨l,hL⟩:∃ l,Bm s.data.toList=l:=⟨_,rfl⟩
 rw[hL]at hx hok hRd
 have HRD:=J hRd;clear hRd
 have HL:=J hL;clear hL
 have HX:=J hx;clear hx
 have hll:=hok.2
 have HOK:=J hok.1;clear hok hl'
 have hmf:∀ (fn:Fn) (first cap:Array Ah) (w:A9),(Cl fn first cap).run A3 w=.ok (.func fn first cap) w:=fun _ _ _ _=>rfl
 obtain⟨W,hW⟩:∃ W,W=(w.alloc (.cells Ce 29)).alloc (.cells #[.int .i64 0] 44):=⟨_,rfl⟩
 have hB:A6 w.heap.size w W:=by rw[hW];exact ((Aa w _).trans ((Aa _ _).mono (by simp)))
 have k2:W.heap[w.heap.size]?=A2 (.cells Ce 29 (0,0)):=by rw[hW];exact Aj (Ar w _) (Aa _ _)
 have k3:W.heap[w.heap.size+1]?=A2 (.cells #[.int .i64 0] 44 (0,0)):=by rw[hW];simpa using Ar (w.alloc (.cells Ce 29)) (.cells #[.int .i64 0] 44)
 have hWs:W.heap.size=w.heap.size+2:=by rw[hW];simp
 have K2:=J k2
 have K3:=J k3
 have hW':=hW.symm
 clear hW k2 k3
 go_enter_defers MT,LR
 go_wp2_with (first
  |(go_at_call 117;refine (HRD.out w2.heap.size _ hPS).mono ?_;rintro e w4 hh;rw[HX.out]at hh;obtain⟨rfl,hF4⟩:=hh.bad;have s4:=hF4.size;have D2:=(hF4.block w.heap.size (by omega) (by omega)).trans I2.out;have D3:=(hF4.block (w.heap.size+1) (by omega) (by omega)).trans I3.out;obtain⟨c2,f2,l2⟩:=Aq D2;obtain⟨c3,f3,l3⟩:=Aq D3;have x0:w4.cell? ⟨w.heap.size,0,A4⟩=A2 (.int .i64 0):=c2 0;have x1:w4.cell? ⟨w.heap.size,1,A4⟩=A2 (.int .i64 0):=c2 1;have x2:w4.cell? ⟨w.heap.size,2,A4⟩=A2 (.slice A4 0 0):=c2 2;have x3:w4.cell? ⟨w.heap.size,3,A4⟩=A2 (.int .i64 0):=c2 3;have x4:w4.cell? ⟨w.heap.size,4,A4⟩=A2 (.int .i64 0):=c2 4;have x5:w4.cell? ⟨w.heap.size,5,A4⟩=A2 (.slice A4 0 0):=c2 5;have y0:w4.cell? ⟨w.heap.size+1,0,A4⟩=A2 (.int .i64 0):=c3 0;have hb04:A6 w.heap.size w w4:=hb03.trans ((hF4.below (An _) (by omega)).mono (by omega)))
  |(go_at_call 116;refine (tokens_c s w1 (by omega)).mono ?_;rintro e w2 ⟨v,rfl,hown,hb2⟩;rw[HL.out]at hown;obtain⟨ta,tc,rfl,hFA,hlow⟩:=GS (enc:=Nl) (size:=3) (fun _=>rfl) hown rfl;have hin:∀ ad,ta=A2 ad→ad.block<w2.heap.size:=Tx.own_blt hown;clear hown hlow;have s2:=hb2.size;have I2:=J (Aj (Aj J2.out hb2) (Aa w2 (.cells #[.slice ta l.length tc,.int .i64 0] 129)));have I3:=J (Aj (Aj J3.out hb2) (Aa w2 (.cells #[.slice ta l.length tc,.int .i64 0] 129)));have hb02:A6 w.heap.size w w2:=(hB.trans (hb1.mono hB.size)).trans (hb2.mono (by omega));have hPS:CZ w2.heap.size l l (w2.alloc (.cells #[.slice ta l.length tc,.int .i64 0] 129)):=⟨Ek _,by omega,HOK.out,⟨w,hG,by omega,hb02.alloc (by omega) _⟩,ta,tc,by rw[IL];exact Ar _ _,hFA.below (Aa w2 _),hin⟩;have hb03:A6 w.heap.size w (w2.alloc (.cells #[.slice ta l.length tc,.int .i64 0] 129)):=hb02.alloc (by omega) _;have s3:(w2.alloc (.cells #[.slice ta l.length tc,.int .i64 0] 129)).heap.size=w2.heap.size+1:=(by simp))
  |(go_at_call 114;refine (text_Valid_c s W (by omega) (hG.below hB)).mono ?_;rintro e w1 ⟨rfl,hb1⟩;rw[HV.out];have J2:=J (Aj K2.out hb1);have J3:=J (Aj K3.out hb1);have s1:=hb1.size))
 refine leaves_cons (f:=115) (args:=#[.pointer (A2 ⟨w.heap.size,0,A4⟩),.pointer (A2 ⟨w.heap.size+1,0,A4⟩)]) (by simp) (by simp[go_sem]) ?_
 refine (catch_panic w.heap.size (w.heap.size+1) _ _ _ _ _ _ _ _ _ [] _ x0 x1 x2 x3 x4 x5 y0 f2 f3 (by omega)).mono ?_
 rintro e u' w'' ⟨rfl,rfl,rfl⟩
 exact⟨.tuple #[.agg (Dm Qr.t0).toArray,.int .i64 3],(by simp[results,KJ,go_sem,x0,x1,x2,x3,x4,x5,y0]),Qr.t0,rfl,Qr.q0_c _ _,(Hx hb04 (An _) _ _ _ _ _ _).setCell (show w.heap.size≤w.heap.size+1 by omega) _⟩
theorem Parse_4 (s:ByteArray) (w:A9) (hl:¬ 1000<s.size) (hv:AL s.data.toList=true) (hG:G w) (hRd:∀ (g:Nat) (w:A9),CZ g (Bm s.data.toList) (Bm s.data.toList) w→Ac A3 117 #[.pointer (A2 ⟨g,0,A4⟩)] w (El g (Bm s.data.toList) (Hk true (8*(Bm s.data.toList).length+8) (Bm s.data.toList)) w)) (q:BK) (r':List D7) (hx:Hk true (8*(Bm s.data.toList).length+8) (Bm s.data.toList)=A2 (q,r')) (hr:r'≠[]) :
  Ac A3 54 #[.string s] w fun e w'=>∃ t,e=.returned (.tuple #[.agg (Dm t).toArray,.int .i64 (Dl s.data.toList).2])∧BY w.heap.size w' (Dl s.data.toList).1 (Dm t)∧A6 w.heap.size w w':=by
 have hok:=Qr.tokF_ok hl hv
 have hl':¬ 1000<s.data.toList.length:=by rw[← Ak];exact hl
 have g1:¬ (1000:Int)<(s.size:Int):=by omega
 have hpe:Dl s.data.toList=(Qr.q0,3):=by
  cases r' with
  | nil=>exact absurd rfl hr
  | cons t r2=>exact Qr.parse_rest hl' hv hx
 rw[hpe]
 clear hpe
 have HV:=J hv;clear hv
 obtain⟨l,hL⟩:∃ l,Bm s.data.toList=l:=⟨_,rfl⟩
 rw[hL]at hx hok hRd
 have HRD:=J hRd;clear hRd
 have HL:=J hL;clear hL
 obtain⟨A,hA⟩:∃ A,l.length - r'.length=A:=⟨_,rfl⟩
 have hes:=((Qr.eats_all true (8*l.length+8)).1 l q r' hx).1.length_le
 have HA:=J hA
 have HX:=J hx;clear hx
 have hll:=hok.2
 have HOK:=J hok.1;clear hok hl'
 have hmf:∀ (fn:Fn) (first cap:Array Ah) (w:A9),(Cl fn first cap).run A3 w=.ok (.func fn first cap) w:=fun _ _ _ _=>rfl
 obtain⟨W,hW⟩:∃ W,W=(w.alloc (.cells Ce 29)).alloc (.cells #[.int .i64 0] 44):=⟨_,rfl⟩
 have hB:A6 w.heap.size w W:=by rw[hW];exact ((Aa w _).trans ((Aa _ _).mono (by simp)))
 have k2:W.heap[w.heap.size]?=A2 (.cells Ce 29 (0,0)):=by rw[hW];exact Aj (Ar w _) (Aa _ _)
 have k3:W.heap[w.heap.size+1]?=A2 (.cells #[.int .i64 0] 44 (0,0)):=by rw[hW];simpa using Ar (w.alloc (.cells Ce 29)) (.cells #[.int .i64 0] 44)
 have hWs:W.heap.size=w.heap.size+2:=by rw[hW];simp
 have K2:=J k2
 have K3:=J k3
 have hW':=hW.symm
 clear hW k2 k3
 have hlt:(A:Int)<(l.length:Int):=by
  have h1:1≤r'.length:=by cases r' with
   | nil=>exact absurd rfl hr
   | cons t r2=>simp
  omega
 clear hr hA
 go_enter_defers MT,LR
 go_wp2_with (first
  |(go_at_call 117;refine (HRD.out w2.heap.size _ hPS).mono ?_;rintro e w4 hh;rw[HX.out]at hh;obtain⟨qo,qf,qa,qb,qsa,qsn,qsc,qka,qkn,qkc,rfl,hq4,hP4,hF4⟩:=hh.get;clear hh;have s4:=hF4.size;have D2:=(hF4.block w.heap.size (by omega) (by omega)).trans I2.out;have D3:=(hF4.block (w.heap.size+1) (by omega) (by omega)).trans I3.out;have HD2:=J D2;have HD3:=J D3;obtain⟨c2,f2,l2⟩:=Aq D2;have x0:w4.cell? ⟨w.heap.size,0,A4⟩=A2 (.int .i64 0):=c2 0;have x1:w4.cell? ⟨w.heap.size,1,A4⟩=A2 (.int .i64 0):=c2 1;have x2:w4.cell? ⟨w.heap.size,2,A4⟩=A2 (.slice A4 0 0):=c2 2;have x3:w4.cell? ⟨w.heap.size,3,A4⟩=A2 (.int .i64 0):=c2 3;have x4:w4.cell? ⟨w.heap.size,4,A4⟩=A2 (.int .i64 0):=c2 4;have x5:w4.cell? ⟨w.heap.size,5,A4⟩=A2 (.slice A4 0 0):=c2 5;have hb04:A6 w.heap.size w w4:=hb03.trans ((hF4.below (An _) (by omega)).mono (by omega));clear D2 D3 c2)
  |(go_at_call 116;refine (tokens_c s w1 (by omega)).mono ?_;rintro e w2 ⟨v,rfl,hown,hb2⟩;rw[HL.out]at hown;obtain⟨ta,tc,rfl,hFA,hlow⟩:=GS (enc:=Nl) (size:=3) (fun _=>rfl) hown rfl;have hin:∀ ad,ta=A2 ad→ad.block<w2.heap.size:=Tx.own_blt hown;clear hown hlow;have s2:=hb2.size;have I2:=J (Aj (Aj J2.out hb2) (Aa w2 (.cells #[.slice ta l.length tc,.int .i64 0] 129)));have I3:=J (Aj (Aj J3.out hb2) (Aa w2 (.cells #[.slice ta l.length tc,.int .i64 0] 129)));have hb02:A6 w.heap.size w w2:=(hB.trans (hb1.mono hB.size)).trans (hb2.mono (by omega));have hPS:CZ w2.heap.size l l (w2.alloc (.cells #[.slice ta l.length tc,.int .i64 0] 129)):=⟨Ek _,by omega,HOK.out,⟨w,hG,by omega,hb02.alloc (by omega) _⟩,ta,tc,by rw[IL];exact Ar _ _,hFA.below (Aa w2 _),hin⟩;have hb03:A6 w.heap.size w (w2.alloc (.cells #[.slice ta l.length tc,.int .i64 0] 129)):=hb02.alloc (by omega) _;have s3:(w2.alloc (.cells #[.slice ta l.length tc,.int .i64 0] 129)).heap.size=w2.heap.size+1:=(by simp))
  |(go_at_call 114;refine (text_Valid_c s W (by omega) (hG.below hB)).mono ?_;rintro e w1 ⟨rfl,hb1⟩;rw[HV.out];have J2:=J (Aj K2.out hb1);have J3:=J (Aj K3.out hb1);have s1:=hb1.size))
 obtain⟨W5,hW5⟩:∃ W5,W5=((((((w4.setCell ⟨w.heap.size,0,A4⟩ (.int .i64 qo)).setCell ⟨w.heap.size,1,A4⟩ (.int .i64 qf)).setCell ⟨w.heap.size,2,A4⟩ (.slice qsa qsn qsc)).setCell ⟨w.heap.size,3,A4⟩ (.int .i64 qa)).setCell ⟨w.heap.size,4,A4⟩ (.int .i64 qb)).setCell ⟨w.heap.size,5,A4⟩ (.slice qka qkn qkc)):=⟨_,rfl⟩
 obtain⟨ta4,tc4,kg4,_,_⟩:=hP4.blk
 rw[HA.out]at kg4
 have kg5:W5.heap[w2.heap.size]?=A2 (.cells #[.slice ta4 l.length tc4,.int .i64 (A:Int)] 129 (0,0)):=by rw[hW5];exact Ik kg4 (show w2.heap.size≠w.heap.size by omega) _ _ _ _ _ _
 have kd5:W5.heap[w.heap.size]?=A2 (.cells #[.int .i64 qo,.int .i64 qf,.slice qsa qsn qsc,.int .i64 qa,.int .i64 qb,.slice qka qkn qkc] 29 (0,0)):=by
  rw[hW5]
  exact (by simpa using DC (i:=5) (DC (i:=4) (DC (i:=3) (DC (i:=2) (DC (i:=1) (DC (i:=0) HD2.out (.int .i64 qo)) (.int .i64 qf)) (.slice qsa qsn qsc)) (.int .i64 qa)) (.int .i64 qb)) (.slice qka qkn qkc):((((((w4.setCell ⟨w.heap.size,0,A4⟩ (.int .i64 qo)).setCell ⟨w.heap.size,1,A4⟩ (.int .i64 qf)).setCell ⟨w.heap.size,2,A4⟩ (.slice qsa qsn qsc)).setCell ⟨w.heap.size,3,A4⟩ (.int .i64 qa)).setCell ⟨w.heap.size,4,A4⟩ (.int .i64 qb)).setCell ⟨w.heap.size,5,A4⟩ (.slice qka qkn qkc)).heap[w.heap.size]?=A2 (.cells #[.int .i64 qo,.int .i64 qf,.slice qsa qsn qsc,.int .i64 qa,.int .i64 qb,.slice qka qkn qkc] 29 (0,0)))
 have ke5:W5.heap[w.heap.size+1]?=A2 (.cells #[.int .i64 0] 44 (0,0)):=by rw[hW5];exact Ik HD3.out (show w.heap.size+1≠w.heap.size by omega) _ _ _ _ _ _
 have hb05:A6 w.heap.size w W5:=by rw[hW5];exact Hx hb04 (An _) _ _ _ _ _ _
 have hq5:BY (w2.heap.size+1) W5 q [.int .i64 qo,.int .i64 qf,.slice qsa qsn qsc,.int .i64 qa,.int .i64 qb,.slice qka qkn qkc]:=by rw[hW5];exact (hq4.kp (GX (Jf _ _) (by omega) _ _ _ _ _ _)).mono (by omega)
 rw[← hW5]
 clear hW5 f2 x0 x1 x2 x3 x4 x5
 obtain⟨gc,gf,_⟩:=Aq kg5
 have gc0:=gc 0
 have gc1:=gc 1
 obtain⟨dc,df,_⟩:=Aq kd5
 have x0:W5.cell? ⟨w.heap.size,0,A4⟩=A2 (.int .i64 qo):=dc 0;have x1:W5.cell? ⟨w.heap.size,1,A4⟩=A2 (.int .i64 qf):=dc 1;have x2:W5.cell? ⟨w.heap.size,2,A4⟩=A2 (.slice qsa qsn qsc):=dc 2;have x3:W5.cell? ⟨w.heap.size,3,A4⟩=A2 (.int .i64 qa):=dc 3;have x4:W5.cell? ⟨w.heap.size,4,A4⟩=A2 (.int .i64 qb):=dc 4;have x5:W5.cell? ⟨w.heap.size,5,A4⟩=A2 (.slice qka qkn qkc):=dc 5
 obtain⟨ec,ef,_⟩:=Aq ke5
 have y0:W5.cell? ⟨w.heap.size+1,0,A4⟩=A2 (.int .i64 0):=ec 0
 clear gc dc ec
 have HE5:=J ke5
 have HD5:=J kd5
 have HQ5:=J hq5
 clear ke5 kd5 kg5 hq5 kg4 hP4
 go_quiet (fail)
 go_wp2
 refine leaves_cons (f:=115) (args:=#[.pointer (A2 ⟨w.heap.size,0,A4⟩),.pointer (A2 ⟨w.heap.size+1,0,A4⟩)]) (by simp) (by simp[go_sem]) ?_
 refine (catch_panic w.heap.size (w.heap.size+1) _ _ _ _ _ _ _ _ _ [] (W5.drewN nq) x0 x1 x2 x3 x4 x5 y0 df ef (by omega)).mono ?_
 rintro e u' w'' ⟨rfl,rfl,rfl⟩
 exact⟨.tuple #[.agg (Dm Qr.t0).toArray,.int .i64 3],(by simp[results,KJ,go_sem,x0,x1,x2,x3,x4,x5,y0]),Qr.t0,rfl,Qr.q0_c _ _,(Hx (Kf hb05 _) (An _) _ _ _ _ _ _).setCell (show w.heap.size≤w.heap.size+1 by omega) _⟩
theorem Parse_6 (s:ByteArray) (w:A9) (hl:¬ 1000<s.size) (hv:AL s.data.toList=true) (hG:G w) (hRd:∀ (g:Nat) (w:A9),CZ g (Bm s.data.toList) (Bm s.data.toList) w→Ac A3 117 #[.pointer (A2 ⟨g,0,A4⟩)] w (El g (Bm s.data.toList) (Hk true (8*(Bm s.data.toList).length+8) (Bm s.data.toList)) w)) (q:BK) (hx:Hk true (8*(Bm s.data.toList).length+8) (Bm s.data.toList)=A2 (q,[])) (E:Int) (hE:F9 q=E) (hE0:E≠0) :
  Ac A3 54 #[.string s] w fun e w'=>∃ t,e=.returned (.tuple #[.agg (Dm t).toArray,.int .i64 (Dl s.data.toList).2])∧BY w.heap.size w' (Dl s.data.toList).1 (Dm t)∧A6 w.heap.size w w':=by
 have hok:=Qr.tokF_ok hl hv
 have hl':¬ 1000<s.data.toList.length:=by rw[← Ak];exact hl
 have g1:¬ (1000:Int)<(s.size:Int):=by omega
 rw[Qr.parse_end hl' hv hx,hE,if_neg hE0]
 have HV:=J hv;clear hv
 obtain⟨l,hL⟩:∃ l,Bm s.data.toList=l:=⟨_,rfl⟩
 rw[hL]at hx hok hRd
 have HRD:=J hRd;clear hRd
 have HL:=J hL;clear hL
 obtain⟨A,hA⟩:∃ A,l.length - ([]:List D7).length=A:=⟨_,rfl⟩
 have HA:=J hA
 have hnd:=(Qr.nodes_all true (8*l.length+8)).1 l q [] hx
 have HND:Hid (Qr.nodes q≤2000):=J (by have:=hok.2;omega)
 have HWZ:=J ((Qr.wz_all true (8*l.length+8)).1 l hok.1 q [] hx)
 have HX:=J hx;clear hx hnd
 have hll:=hok.2
 have HOK:=J hok.1;clear hok hl'
 have hmf:∀ (fn:Fn) (first cap:Array Ah) (w:A9),(Cl fn first cap).run A3 w=.ok (.func fn first cap) w:=fun _ _ _ _=>rfl
 obtain⟨W,hW⟩:∃ W,W=(w.alloc (.cells Ce 29)).alloc (.cells #[.int .i64 0] 44):=⟨_,rfl⟩
 have hB:A6 w.heap.size w W:=by rw[hW];exact ((Aa w _).trans ((Aa _ _).mono (by simp)))
 have k2:W.heap[w.heap.size]?=A2 (.cells Ce 29 (0,0)):=by rw[hW];exact Aj (Ar w _) (Aa _ _)
 have k3:W.heap[w.heap.size+1]?=A2 (.cells #[.int .i64 0] 44 (0,0)):=by rw[hW];simpa using Ar (w.alloc (.cells Ce 29)) (.cells #[.int .i64 0] 44)
 have hWs:W.heap.size=w.heap.size+2:=by rw[hW];simp
 have K2:=J k2
 have K3:=J k3
 have hW':=hW.symm
 clear hW k2 k3
 have hlt:¬ (A:Int)<(l.length:Int):=by rw[BL]at hA;omega
 clear hA
 have HE:=J hE;clear hE
 have hEb:(E == 0)=false:=beq_eq_false_iff_ne.2 hE0
 have hEn:(E != 0)=true:=by rw[bne,hEb];rfl
 go_enter_defers MT,LR
 go_wp2_with (first
  |(go_at_call 117;refine (HRD.out w2.heap.size _ hPS).mono ?_;rintro e w4 hh;rw[HX.out]at hh;obtain⟨qo,qf,qa,qb,qsa,qsn,qsc,qka,qkn,qkc,rfl,hq4,hP4,hF4⟩:=hh.get;clear hh;have s4:=hF4.size;have D2:=(hF4.block w.heap.size (by omega) (by omega)).trans I2.out;have D3:=(hF4.block (w.heap.size+1) (by omega) (by omega)).trans I3.out;have HD2:=J D2;have HD3:=J D3;obtain⟨c2,f2,l2⟩:=Aq D2;have x0:w4.cell? ⟨w.heap.size,0,A4⟩=A2 (.int .i64 0):=c2 0;have x1:w4.cell? ⟨w.heap.size,1,A4⟩=A2 (.int .i64 0):=c2 1;have x2:w4.cell? ⟨w.heap.size,2,A4⟩=A2 (.slice A4 0 0):=c2 2;have x3:w4.cell? ⟨w.heap.size,3,A4⟩=A2 (.int .i64 0):=c2 3;have x4:w4.cell? ⟨w.heap.size,4,A4⟩=A2 (.int .i64 0):=c2 4;have x5:w4.cell? ⟨w.heap.size,5,A4⟩=A2 (.slice A4 0 0):=c2 5;have hb04:A6 w.heap.size w w4:=hb03.trans ((hF4.below (An _) (by omega)).mono (by omega));clear D2 D3 c2)
  |(go_at_call 116;refine (tokens_c s w1 (by omega)).mono ?_;rintro e w2 ⟨v,rfl,hown,hb2⟩;rw[HL.out]at hown;obtain⟨ta,tc,rfl,hFA,hlow⟩:=GS (enc:=Nl) (size:=3) (fun _=>rfl) hown rfl;have hin:∀ ad,ta=A2 ad→ad.block<w2.heap.size:=Tx.own_blt hown;clear hown hlow;have s2:=hb2.size;have I2:=J (Aj (Aj J2.out hb2) (Aa w2 (.cells #[.slice ta l.length tc,.int .i64 0] 129)));have I3:=J (Aj (Aj J3.out hb2) (Aa w2 (.cells #[.slice ta l.length tc,.int .i64 0] 129)));have hb02:A6 w.heap.size w w2:=(hB.trans (hb1.mono hB.size)).trans (hb2.mono (by omega));have hPS:CZ w2.heap.size l l (w2.alloc (.cells #[.slice ta l.length tc,.int .i64 0] 129)):=⟨Ek _,by omega,HOK.out,⟨w,hG,by omega,hb02.alloc (by omega) _⟩,ta,tc,by rw[IL];exact Ar _ _,hFA.below (Aa w2 _),hin⟩;have hb03:A6 w.heap.size w (w2.alloc (.cells #[.slice ta l.length tc,.int .i64 0] 129)):=hb02.alloc (by omega) _;have s3:(w2.alloc (.cells #[.slice ta l.length tc,.int .i64 0] 129)).heap.size=w2.heap.size+1:=(by simp))
  |(go_at_call 114;refine (text_Valid_c s W (by omega) (hG.below hB)).mono ?_;rintro e w1 ⟨rfl,hb1⟩;rw[HV.out];have J2:=J (Aj K2.out hb1);have J3:=J (Aj K3.out hb1);have s1:=hb1.size))
 obtain⟨W5,hW5⟩:∃ W5,W5=((((((w4.setCell ⟨w.heap.size,0,A4⟩ (.int .i64 qo)).setCell ⟨w.heap.size,1,A4⟩ (.int .i64 qf)).setCell ⟨w.heap.size,2,A4⟩ (.slice qsa qsn qsc)).setCell ⟨w.heap.size,3,A4⟩ (.int .i64 qa)).setCell ⟨w.heap.size,4,A4⟩ (.int .i64 qb)).setCell ⟨w.heap.size,5,A4⟩ (.slice qka qkn qkc)):=⟨_,rfl⟩
 obtain⟨ta4,tc4,kg4,_,_⟩:=hP4.blk
 rw[HA.out]at kg4
 have kg5:W5.heap[w2.heap.size]?=A2 (.cells #[.slice ta4 l.length tc4,.int .i64 (A:Int)] 129 (0,0)):=by rw[hW5];exact Ik kg4 (show w2.heap.size≠w.heap.size by omega) _ _ _ _ _ _
 have kd5:W5.heap[w.heap.size]?=A2 (.cells #[.int .i64 qo,.int .i64 qf,.slice qsa qsn qsc,.int .i64 qa,.int .i64 qb,.slice qka qkn qkc] 29 (0,0)):=by
  rw[hW5]
  exact (by simpa using DC (i:=5) (DC (i:=4) (DC (i:=3) (DC (i:=2) (DC (i:=1) (DC (i:=0) HD2.out (.int .i64 qo)) (.int .i64 qf)) (.slice qsa qsn qsc)) (.int .i64 qa)) (.int .i64 qb)) (.slice qka qkn qkc):((((((w4.setCell ⟨w.heap.size,0,A4⟩ (.int .i64 qo)).setCell ⟨w.heap.size,1,A4⟩ (.int .i64 qf)).setCell ⟨w.heap.size,2,A4⟩ (.slice qsa qsn qsc)).setCell ⟨w.heap.size,3,A4⟩ (.int .i64 qa)).setCell ⟨w.heap.size,4,A4⟩ (.int .i64 qb)).setCell ⟨w.heap.size,5,A4⟩ (.slice qka qkn qkc)).heap[w.heap.size]?=A2 (.cells #[.int .i64 qo,.int .i64 qf,.slice qsa qsn qsc,.int .i64 qa,.int .i64 qb,.slice qka qkn qkc] 29 (0,0)))
 have ke5:W5.heap[w.heap.size+1]?=A2 (.cells #[.int .i64 0] 44 (0,0)):=by rw[hW5];exact Ik HD3.out (show w.heap.size+1≠w.heap.size by omega) _ _ _ _ _ _
 have hb05:A6 w.heap.size w W5:=by rw[hW5];exact Hx hb04 (An _) _ _ _ _ _ _
 have hq5:BY (w2.heap.size+1) W5 q [.int .i64 qo,.int .i64 qf,.slice qsa qsn qsc,.int .i64 qa,.int .i64 qb,.slice qka qkn qkc]:=by rw[hW5];exact (hq4.kp (GX (Jf _ _) (by omega) _ _ _ _ _ _)).mono (by omega)
 rw[← hW5]
 clear hW5 f2 x0 x1 x2 x3 x4 x5
 obtain⟨gc,gf,_⟩:=Aq kg5
 have gc0:=gc 0
 have gc1:=gc 1
 obtain⟨dc,df,_⟩:=Aq kd5
 have x0:W5.cell? ⟨w.heap.size,0,A4⟩=A2 (.int .i64 qo):=dc 0;have x1:W5.cell? ⟨w.heap.size,1,A4⟩=A2 (.int .i64 qf):=dc 1;have x2:W5.cell? ⟨w.heap.size,2,A4⟩=A2 (.slice qsa qsn qsc):=dc 2;have x3:W5.cell? ⟨w.heap.size,3,A4⟩=A2 (.int .i64 qa):=dc 3;have x4:W5.cell? ⟨w.heap.size,4,A4⟩=A2 (.int .i64 qb):=dc 4;have x5:W5.cell? ⟨w.heap.size,5,A4⟩=A2 (.slice qka qkn qkc):=dc 5
 obtain⟨ec,ef,_⟩:=Aq ke5
 have y0:W5.cell? ⟨w.heap.size+1,0,A4⟩=A2 (.int .i64 0):=ec 0
 clear gc dc ec
 have HE5:=J ke5
 have HD5:=J kd5
 have HQ5:=J hq5
 clear ke5 kd5 kg5 hq5 kg4 hP4
 go_quiet (fail)
 have HQ5D:Hid (BY (w2.heap.size+1) (W5.drewN nq) q [.int .i64 qo,.int .i64 qf,.slice qsa qsn qsc,.int .i64 qa,.int .i64 qb,.slice qka qkn qkc]):=J (HQ5.out.later (Kf (Below.refl _ _) nq))
 have HG5:Hid (G (W5.drewN nq)):=J (hG.below (Kf hb05 nq))
 go_wp2_with fail
 refine (Right_c (w2.heap.size+1) q _ (W5.drewN nq) HQ5D.out HWZ.out (by have:=HND.out;omega) HG5.out).mono ?_
 rintro e w6 ⟨rfl,hb6⟩
 rw[HE.out]
 have s6:W5.heap.size≤w6.heap.size:=hb6.size
 have hb06:A6 w.heap.size w w6:=(Kf hb05 nq).trans (hb6.mono hb05.size)
 have KD6:=J (Aj (show (W5.drewN nq).heap[w.heap.size]?=_ from HD5.out) hb6)
 have KE6:=J (Aj (show (W5.drewN nq).heap[w.heap.size+1]?=_ from HE5.out) hb6)
 have hq6:=HQ5D.out.later hb6
 have HQ6:=J hq6
 clear hq6
 obtain⟨ec6,ef6,_⟩:=Aq KE6.out
 have y6:w6.cell? ⟨w.heap.size+1,0,A4⟩=A2 (.int .i64 0):=ec6 0
 clear ec6
 go_wp2
 obtain⟨W7,hW7⟩:∃ W7,W7=(w6.setCell ⟨w.heap.size+1,0,A4⟩ (.int .i64 E)):=⟨_,rfl⟩
 have kd7:W7.heap[w.heap.size]?=A2 (.cells #[.int .i64 qo,.int .i64 qf,.slice qsa qsn qsc,.int .i64 qa,.int .i64 qb,.slice qka qkn qkc] 29 (0,0)):=by rw[hW7];exact Da (a:=⟨w.heap.size+1,0,A4⟩) KD6.out (show w.heap.size≠w.heap.size+1 by omega) _
 have ke7:W7.heap[w.heap.size+1]?=A2 (.cells #[.int .i64 E] 44 (0,0)):=by
  rw[hW7]
  exact (by simpa using DC (i:=0) KE6.out (.int .i64 E):(w6.setCell ⟨w.heap.size+1,0,A4⟩ (.int .i64 E)).heap[w.heap.size+1]?=A2 (.cells #[.int .i64 E] 44 (0,0)))
 have hb07:A6 w.heap.size w W7:=by rw[hW7];exact hb06.setCell (show w.heap.size≤w.heap.size+1 by omega) _
 have hq7:BY (w2.heap.size+1) W7 q [.int .i64 qo,.int .i64 qf,.slice qsa qsn qsc,.int .i64 qa,.int .i64 qb,.slice qka qkn qkc]:=by rw[hW7];exact HQ6.out.kp ((Jf _ _).set (show w.heap.size+1<w2.heap.size+1 by omega) _)
 rw[← hW7]
 clear hW7 y6 ef6
 obtain⟨dc7,df7,_⟩:=Aq kd7
 have u0:W7.cell? ⟨w.heap.size,0,A4⟩=A2 (.int .i64 qo):=dc7 0;have u1:W7.cell? ⟨w.heap.size,1,A4⟩=A2 (.int .i64 qf):=dc7 1;have u2:W7.cell? ⟨w.heap.size,2,A4⟩=A2 (.slice qsa qsn qsc):=dc7 2;have u3:W7.cell? ⟨w.heap.size,3,A4⟩=A2 (.int .i64 qa):=dc7 3;have u4:W7.cell? ⟨w.heap.size,4,A4⟩=A2 (.int .i64 qb):=dc7 4;have u5:W7.cell? ⟨w.heap.size,5,A4⟩=A2 (.slice qka qkn qkc):=dc7 5
 obtain⟨ec7,ef7,_⟩:=Aq ke7
 have y7:W7.cell? ⟨w.heap.size+1,0,A4⟩=A2 (.int .i64 E):=ec7 0
 clear dc7 ec7
 have HQ7:=J hq7
 have HD7:=J kd7
 have HE7:=J ke7
 clear hq7 kd7 ke7
 go_region
 go_wp2
 refine leaves_cons (f:=115) (args:=#[.pointer (A2 ⟨w.heap.size,0,A4⟩),.pointer (A2 ⟨w.heap.size+1,0,A4⟩)]) (by simp) (by simp[go_sem]) ?_
 refine (catch_idle w.heap.size (w.heap.size+1) _).mono ?_
 rintro e u' w'' ⟨rfl,rfl,rfl⟩
 exact⟨.tuple #[.agg (Dm Qr.t0).toArray,.int .i64 E],(by simp[results,KJ,go_sem,u0,u1,u2,u3,u4,u5,y7]),Qr.t0,rfl,Qr.q0_c _ _,((Hx hb07 (An _) _ _ _ _ _ _).setCell (show w.heap.size≤w.heap.size+1 by omega) _).drew⟩
theorem Parse_5 (s:ByteArray) (w:A9) (hl:¬ 1000<s.size) (hv:AL s.data.toList=true) (hG:G w) (hRd:∀ (g:Nat) (w:A9),CZ g (Bm s.data.toList) (Bm s.data.toList) w→Ac A3 117 #[.pointer (A2 ⟨g,0,A4⟩)] w (El g (Bm s.data.toList) (Hk true (8*(Bm s.data.toList).length+8) (Bm s.data.toList)) w)) (q:BK) (hx:Hk true (8*(Bm s.data.toList).length+8) (Bm s.data.toList)=A2 (q,[])) (E:Int) (hE:F9 q=E) (hE0:E=0) :
  Ac A3 54 #[.string s] w fun e w'=>∃ t,e=.returned (.tuple #[.agg (Dm t).toArray,.int .i64 (Dl s.data.toList).2])∧BY w.heap.size w' (Dl s.data.toList).1 (Dm t)∧A6 w.heap.size w w':=by
 have hok:=Qr.tokF_ok hl hv
 have hl':¬ 1000<s.data.toList.length:=by rw[← Ak];exact hl
 have g1:¬ (1000:Int)<(s.size:Int):=by omega
 rw[Qr.parse_end hl' hv hx,hE,if_pos hE0]
 have HV:=J hv;clear hv
 obtain⟨l,hL⟩:∃ l,Bm s.data.toList=l:=⟨_,rfl⟩
 rw[hL]at hx hok hRd
 have HRD:=J hRd;clear hRd
 have HL:=J hL;clear hL
 obtain⟨A,hA⟩:∃ A,l.length - ([]:List D7).length=A:=⟨_,rfl⟩
 have HA:=J hA
 have hnd:=(Qr.nodes_all true (8*l.length+8)).1 l q [] hx
 have HND:Hid (Qr.nodes q≤2000):=J (by have:=hok.2;omega)
 have HWZ:=J ((Qr.wz_all true (8*l.length+8)).1 l hok.1 q [] hx)
 have HX:=J hx;clear hx hnd
 have hll:=hok.2
 have HOK:=J hok.1;clear hok hl'
 have hmf:∀ (fn:Fn) (first cap:Array Ah) (w:A9),(Cl fn first cap).run A3 w=.ok (.func fn first cap) w:=fun _ _ _ _=>rfl
 obtain⟨W,hW⟩:∃ W,W=(w.alloc (.cells Ce 29)).alloc (.cells #[.int .i64 0] 44):=⟨_,rfl⟩
 have hB:A6 w.heap.size w W:=by rw[hW];exact ((Aa w _).trans ((Aa _ _).mono (by simp)))
 have k2:W.heap[w.heap.size]?=A2 (.cells Ce 29 (0,0)):=by rw[hW];exact Aj (Ar w _) (Aa _ _)
 have k3:W.heap[w.heap.size+1]?=A2 (.cells #[.int .i64 0] 44 (0,0)):=by rw[hW];simpa using Ar (w.alloc (.cells Ce 29)) (.cells #[.int .i64 0] 44)
 have hWs:W.heap.size=w.heap.size+2:=by rw[hW];simp
 have K2:=J k2
 have K3:=J k3
 have hW':=hW.symm
 clear hW k2 k3
 have hlt:¬ (A:Int)<(l.length:Int):=by rw[BL]at hA;omega
 clear hA
 have HE:=J hE;clear hE
 subst hE0
 go_enter_defers MT,LR
 go_wp2_with (first
  |(go_at_call 117;refine (HRD.out w2.heap.size _ hPS).mono ?_;rintro e w4 hh;rw[HX.out]at hh;obtain⟨qo,qf,qa,qb,qsa,qsn,qsc,qka,qkn,qkc,rfl,hq4,hP4,hF4⟩:=hh.get;clear hh;have s4:=hF4.size;have D2:=(hF4.block w.heap.size (by omega) (by omega)).trans I2.out;have D3:=(hF4.block (w.heap.size+1) (by omega) (by omega)).trans I3.out;have HD2:=J D2;have HD3:=J D3;obtain⟨c2,f2,l2⟩:=Aq D2;have x0:w4.cell? ⟨w.heap.size,0,A4⟩=A2 (.int .i64 0):=c2 0;have x1:w4.cell? ⟨w.heap.size,1,A4⟩=A2 (.int .i64 0):=c2 1;have x2:w4.cell? ⟨w.heap.size,2,A4⟩=A2 (.slice A4 0 0):=c2 2;have x3:w4.cell? ⟨w.heap.size,3,A4⟩=A2 (.int .i64 0):=c2 3;have x4:w4.cell? ⟨w.heap.size,4,A4⟩=A2 (.int .i64 0):=c2 4;have x5:w4.cell? ⟨w.heap.size,5,A4⟩=A2 (.slice A4 0 0):=c2 5;have hb04:A6 w.heap.size w w4:=hb03.trans ((hF4.below (An _) (by omega)).mono (by omega));clear D2 D3 c2)
  |(go_at_call 116;refine (tokens_c s w1 (by omega)).mono ?_;rintro e w2 ⟨v,rfl,hown,hb2⟩;rw[HL.out]at hown;obtain⟨ta,tc,rfl,hFA,hlow⟩:=GS (enc:=Nl) (size:=3) (fun _=>rfl) hown rfl;have hin:∀ ad,ta=A2 ad→ad.block<w2.heap.size:=Tx.own_blt hown;clear hown hlow;have s2:=hb2.size;have I2:=J (Aj (Aj J2.out hb2) (Aa w2 (.cells #[.slice ta l.length tc,.int .i64 0] 129)));have I3:=J (Aj (Aj J3.out hb2) (Aa w2 (.cells #[.slice ta l.length tc,.int .i64 0] 129)));have hb02:A6 w.heap.size w w2:=(hB.trans (hb1.mono hB.size)).trans (hb2.mono (by omega));have hPS:CZ w2.heap.size l l (w2.alloc (.cells #[.slice ta l.length tc,.int .i64 0] 129)):=⟨Ek _,by omega,HOK.out,⟨w,hG,by omega,hb02.alloc (by omega) _⟩,ta,tc,by rw[IL];exact Ar _ _,hFA.below (Aa w2 _),hin⟩;have hb03:A6 w.heap.size w (w2.alloc (.cells #[.slice ta l.length tc,.int .i64 0] 129)):=hb02.alloc (by omega) _;have s3:(w2.alloc (.cells #[.slice ta l.length tc,.int .i64 0] 129)).heap.size=w2.heap.size+1:=(by simp))
  |(go_at_call 114;refine (text_Valid_c s W (by omega) (hG.below hB)).mono ?_;rintro e w1 ⟨rfl,hb1⟩;rw[HV.out];have J2:=J (Aj K2.out hb1);have J3:=J (Aj K3.out hb1);have s1:=hb1.size))
 obtain⟨W5,hW5⟩:∃ W5,W5=((((((w4.setCell ⟨w.heap.size,0,A4⟩ (.int .i64 qo)).setCell ⟨w.heap.size,1,A4⟩ (.int .i64 qf)).setCell ⟨w.heap.size,2,A4⟩ (.slice qsa qsn qsc)).setCell ⟨w.heap.size,3,A4⟩ (.int .i64 qa)).setCell ⟨w.heap.size,4,A4⟩ (.int .i64 qb)).setCell ⟨w.heap.size,5,A4⟩ (.slice qka qkn qkc)):=⟨_,rfl⟩
 obtain⟨ta4,tc4,kg4,_,_⟩:=hP4.blk
 rw[HA.out]at kg4
 have kg5:W5.heap[w2.heap.size]?=A2 (.cells #[.slice ta4 l.length tc4,.int .i64 (A:Int)] 129 (0,0)):=by rw[hW5];exact Ik kg4 (show w2.heap.size≠w.heap.size by omega) _ _ _ _ _ _
 have kd5:W5.heap[w.heap.size]?=A2 (.cells #[.int .i64 qo,.int .i64 qf,.slice qsa qsn qsc,.int .i64 qa,.int .i64 qb,.slice qka qkn qkc] 29 (0,0)):=by
  rw[hW5]
  exact (by simpa using DC (i:=5) (DC (i:=4) (DC (i:=3) (DC (i:=2) (DC (i:=1) (DC (i:=0) HD2.out (.int .i64 qo)) (.int .i64 qf)) (.slice qsa qsn qsc)) (.int .i64 qa)) (.int .i64 qb)) (.slice qka qkn qkc):((((((w4.setCell ⟨w.heap.size,0,A4⟩ (.int .i64 qo)).setCell ⟨w.heap.size,1,A4⟩ (.int .i64 qf)).setCell ⟨w.heap.size,2,A4⟩ (.slice qsa qsn qsc)).setCell ⟨w.heap.size,3,A4⟩ (.int .i64 qa)).setCell ⟨w.heap.size,4,A4⟩ (.int .i64 qb)).setCell ⟨w.heap.size,5,A4⟩ (.slice qka qkn qkc)).heap[w.heap.size]?=A2 (.cells #[.int .i64 qo,.int .i64 qf,.slice qsa qsn qsc,.int .i64 qa,.int .i64 qb,.slice qka qkn qkc] 29 (0,0)))
 have ke5:W5.heap[w.heap.size+1]?=A2 (.cells #[.int .i64 0] 44 (0,0)):=by rw[hW5];exact Ik HD3.out (show w.heap.size+1≠w.heap.size by omega) _ _ _ _ _ _
 have hb05:A6 w.heap.size w W5:=by rw[hW5];exact Hx hb04 (An _) _ _ _ _ _ _
 have hq5:BY (w2.heap.size+1) W5 q [.int .i64 qo,.int .i64 qf,.slice qsa qsn qsc,.int .i64 qa,.int .i64 qb,.slice qka qkn qkc]:=by rw[hW5];exact (hq4.kp (GX (Jf _ _) (by omega) _ _ _ _ _ _)).mono (by omega)
 rw[← hW5]
 clear hW5 f2 x0 x1 x2 x3 x4 x5
 obtain⟨gc,gf,_⟩:=Aq kg5
 have gc0:=gc 0
 have gc1:=gc 1
 obtain⟨dc,df,_⟩:=Aq kd5
 have x0:W5.cell? ⟨w.heap.size,0,A4⟩=A2 (.int .i64 qo):=dc 0;have x1:W5.cell? ⟨w.heap.size,1,A4⟩=A2 (.int .i64 qf):=dc 1;have x2:W5.cell? ⟨w.heap.size,2,A4⟩=A2 (.slice qsa qsn qsc):=dc 2;have x3:W5.cell? ⟨w.heap.size,3,A4⟩=A2 (.int .i64 qa):=dc 3;have x4:W5.cell? ⟨w.heap.size,4,A4⟩=A2 (.int .i64 qb):=dc 4;have x5:W5.cell? ⟨w.heap.size,5,A4⟩=A2 (.slice qka qkn qkc):=dc 5
 obtain⟨ec,ef,_⟩:=Aq ke5
 have y0:W5.cell? ⟨w.heap.size+1,0,A4⟩=A2 (.int .i64 0):=ec 0
 clear gc dc ec
 have HE5:=J ke5
 have HD5:=J kd5
 have HQ5:=J hq5
 clear ke5 kd5 kg5 hq5 kg4 hP4
 go_quiet (fail)
 have HQ5D:Hid (BY (w2.heap.size+1) (W5.drewN nq) q [.int .i64 qo,.int .i64 qf,.slice qsa qsn qsc,.int .i64 qa,.int .i64 qb,.slice qka qkn qkc]):=J (HQ5.out.later (Kf (Below.refl _ _) nq))
 have HG5:Hid (G (W5.drewN nq)):=J (hG.below (Kf hb05 nq))
 go_wp2_with fail
 refine (Right_c (w2.heap.size+1) q _ (W5.drewN nq) HQ5D.out HWZ.out (by have:=HND.out;omega) HG5.out).mono ?_
 rintro e w6 ⟨rfl,hb6⟩
 rw[HE.out]
 have s6:W5.heap.size≤w6.heap.size:=hb6.size
 have hb06:A6 w.heap.size w w6:=(Kf hb05 nq).trans (hb6.mono hb05.size)
 have KD6:=J (Aj (show (W5.drewN nq).heap[w.heap.size]?=_ from HD5.out) hb6)
 have KE6:=J (Aj (show (W5.drewN nq).heap[w.heap.size+1]?=_ from HE5.out) hb6)
 have hq6:=HQ5D.out.later hb6
 have HQ6:=J hq6
 clear hq6
 obtain⟨ec6,ef6,_⟩:=Aq KE6.out
 have y6:w6.cell? ⟨w.heap.size+1,0,A4⟩=A2 (.int .i64 0):=ec6 0
 clear ec6
 obtain⟨dc6,df6,_⟩:=Aq KD6.out
 clear dc6
 have u0:∀ v,(w6.setCell ⟨w.heap.size+1,0,A4⟩ v).cell? ⟨w.heap.size,0,A4⟩=A2 (.int .i64 qo):=(fun v=>(Aq (Da (a:=⟨w.heap.size+1,0,A4⟩) KD6.out (show w.heap.size≠w.heap.size+1 by omega) v)).1 0);have u1:∀ v,(w6.setCell ⟨w.heap.size+1,0,A4⟩ v).cell? ⟨w.heap.size,1,A4⟩=A2 (.int .i64 qf):=(fun v=>(Aq (Da (a:=⟨w.heap.size+1,0,A4⟩) KD6.out (show w.heap.size≠w.heap.size+1 by omega) v)).1 1);have u2:∀ v,(w6.setCell ⟨w.heap.size+1,0,A4⟩ v).cell? ⟨w.heap.size,2,A4⟩=A2 (.slice qsa qsn qsc):=(fun v=>(Aq (Da (a:=⟨w.heap.size+1,0,A4⟩) KD6.out (show w.heap.size≠w.heap.size+1 by omega) v)).1 2);have u3:∀ v,(w6.setCell ⟨w.heap.size+1,0,A4⟩ v).cell? ⟨w.heap.size,3,A4⟩=A2 (.int .i64 qa):=(fun v=>(Aq (Da (a:=⟨w.heap.size+1,0,A4⟩) KD6.out (show w.heap.size≠w.heap.size+1 by omega) v)).1 3);have u4:∀ v,(w6.setCell ⟨w.heap.size+1,0,A4⟩ v).cell? ⟨w.heap.size,4,A4⟩=A2 (.int .i64 qb):=(fun v=>(Aq (Da (a:=⟨w.heap.size+1,0,A4⟩) KD6.out (show w.heap.size≠w.heap.size+1 by omega) v)).1 4);have u5:∀ v,(w6.setCell ⟨w.heap.size+1,0,A4⟩ v).cell? ⟨w.heap.size,5,A4⟩=A2 (.slice qka qkn qkc):=(fun v=>(Aq (Da (a:=⟨w.heap.size+1,0,A4⟩) KD6.out (show w.heap.size≠w.heap.size+1 by omega) v)).1 5)
 go_wp2
 refine leaves_cons (f:=115) (args:=#[.pointer (A2 ⟨w.heap.size,0,A4⟩),.pointer (A2 ⟨w.heap.size+1,0,A4⟩)]) (by simp) (by simp[go_sem]) ?_
 refine (catch_idle w.heap.size (w.heap.size+1) _).mono ?_
 rintro e u' w'' ⟨rfl,rfl,rfl⟩
 exact⟨.tuple #[.agg #[.int .i64 qo,.int .i64 qf,.slice qsa qsn qsc,.int .i64 qa,.int .i64 qb,.slice qka qkn qkc],.int .i64 0],(by simp[results,KJ,go_sem,u0,u1,u2,u3,u4,u5,y6]),⟨qo,qf,qsa,qsn,qsc,qa,qb,qka,qkn,qkc⟩,rfl,(HQ6.out.kp ((GX ((Jf _ _).set (show w.heap.size+1<w2.heap.size+1 by omega) _) (by omega) _ _ _ _ _ _).set (show w.heap.size+1<w2.heap.size+1 by omega) _)).mono (by omega),(Hx (hb06.setCell (show w.heap.size≤w.heap.size+1 by omega) _) (An _) _ _ _ _ _ _).setCell (show w.heap.size≤w.heap.size+1 by omega) _⟩
theorem Parse_by (s:ByteArray) (w:A9) (hG:G w) (hRd:∀ (g:Nat) (w:A9),CZ g (Bm s.data.toList) (Bm s.data.toList) w→Ac A3 117 #[.pointer (A2 ⟨g,0,A4⟩)] w (El g (Bm s.data.toList) (Hk true (8*(Bm s.data.toList).length+8) (Bm s.data.toList)) w)) :
  Ac A3 54 #[.string s] w fun e w'=>∃ t,e=.returned (.tuple #[.agg (Dm t).toArray,.int .i64 (Dl s.data.toList).2])∧BY w.heap.size w' (Dl s.data.toList).1 (Dm t)∧A6 w.heap.size w w':=by
 by_cases hl:1000<s.size
 ·exact Parse_1 s w hl
 ·cases hv:AL s.data.toList with
  | false=>exact Parse_2 s w hl hv hG
  | true =>
   cases hx:Hk true (8*(Bm s.data.toList).length+8) (Bm s.data.toList) with
   | none=>exact Parse_3 s w hl hv hG hRd hx
   | some p =>
    obtain⟨q,r'⟩:=p
    by_cases hr:r'=[]
    ·subst hr
     by_cases hE:F9 q=0
     ·exact Parse_5 s w hl hv hG hRd q hx _ rfl hE
     ·exact Parse_6 s w hl hv hG hRd q hx _ rfl hE
    ·exact Parse_4 s w hl hv hG hRd q r' hx hr
end Go.Proofs.YtlakomilichhnaaGreatDoor
